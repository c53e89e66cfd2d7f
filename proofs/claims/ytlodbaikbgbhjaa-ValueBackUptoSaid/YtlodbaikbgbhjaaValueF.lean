/- Floats by their bits: kinds, the one NaN, keys, their order; cmp.Compare, cmp.Or; strings.Compare. -/
import Derived.Test.YtlodbaikbgbhjaaVmV
import Derived.Test.YtlodbaikbgbhjaaCFloats
import Derived.Test.YtlodbaikbgbhjaaCStd
import Derived.Lib.Bytealg
import Derived.IntWalk
set_option linter.unusedVariables false
set_option linter.unusedSimpArgs false
set_option maxRecDepth 20000
namespace Go.Proofs.Ytlodbaikbgbhjaa
open Go Go.Vm Go.IntWalk

def hiF (x : Int) : Int := bitsI .and .u64 x 9218868437227405312
def loF (x : Int) : Int := bitsI .and .u64 x 4503599627370495
def kindI (x : Int) : Int := if hiF x = 9218868437227405312 then (if ¬ loF x = 0 then 1 else 2) else if hiF x = 0 then (if loF x = 0 then 3 else 4) else 5
def canonI (x : Int) : Int := if kindI x = 1 then 9221120237041090560 else x
def keyI (x : Int) : Int := if canonI x = 9221120237041090560 then 18446744073709551615 else if ¬ bitsI .and .u64 (canonI x) 9223372036854775808 = 0 then bitsI .xor .u64 IntKind.u64.max (canonI x) else bitsI .or .u64 (canonI x) 9223372036854775808
theorem con_floats_Kind : Contract Try.prog id_floats_Kind (RelP (fun (x : Int) => True) (fun x => [u64 x]) fun x => i64 (kindI x)) := by
  refine (code_floats_Kind).pure Known.nil (by rintro x -; first | exact Nat.le_of_ble_eq_true rfl | (obtain ⟨_, _⟩ := x; exact Nat.le_of_ble_eq_true rfl) | (obtain ⟨_, _, _⟩ := x; exact Nat.le_of_ble_eq_true rfl) | (obtain ⟨_, _, _, _⟩ := x; exact Nat.le_of_ble_eq_true rfl) | (obtain ⟨_, _, _, _, _⟩ := x; exact Nat.le_of_ble_eq_true rfl) | (obtain ⟨_, _, _, _, _, _⟩ := x; exact Nat.le_of_ble_eq_true rfl) | (obtain ⟨_, _, _, _, _, _, _⟩ := x; exact Nat.le_of_ble_eq_true rfl) | (obtain ⟨_, _, _, _, _, _, _, _⟩ := x; exact Nat.le_of_ble_eq_true rfl)) ?_
  rintro x -
  have hr : kindI x = kindI x := rfl
  generalize hR : kindI x = R at hr ⊢
  unfold kindI hiF loF at hR
  repeat' first
    | (with_reducible first | refine bo_run ?_ | refine bw_run ?_ | refine bd_run ?_ | refine Br.tt ?_ | refine Br.ff ?_); conv => whnf
    | (with_reducible refine br_not ?_)
    | (with_reducible first | refine br_dec_tt (by assumption) ?_ | refine br_dec_ff (by assumption) ?_ | refine br_dec_tt (by decide) ?_ | refine br_dec_ff (by decide) ?_); conv => whnf
    | (with_reducible refine br_dec_intro (fun _ => ?_) (fun _ => ?_)) <;> conv => whnf
    | (with_reducible first | refine br_beq_tt (by assumption) ?_ | refine br_beq_ff (by assumption) ?_ | refine br_beq_tt (by decide) ?_ | refine br_beq_ff (by decide) ?_); conv => whnf
    | (with_reducible refine br_beq_intro (fun _ => ?_) (fun _ => ?_)) <;> conv => whnf
    | (with_reducible first | refine br_bne_tt (by assumption) ?_ | refine br_bne_ff (by assumption) ?_ | refine br_bne_tt (by decide) ?_ | refine br_bne_ff (by decide) ?_); conv => whnf
    | (with_reducible refine br_bne_intro (fun _ => ?_) (fun _ => ?_)) <;> conv => whnf
    | (with_reducible first | refine br_of_true (by assumption) ?_ | refine br_of_false (by assumption) ?_); conv => whnf
    | (with_reducible refine br_intro (fun _ => ?_) (fun _ => ?_)) <;> conv => whnf
    | (with_reducible refine and_rfl ?_); conv => whnf
    | (refine and_late (fun _ => ?_) (by first | omega | (show _ = _; rfl) | exact trivial | exact ⟨rfl, trivial⟩ | exact ⟨rfl, rfl, trivial⟩ | exact (fun h => by cases h) | exact (fun _ => ⟨rfl, rfl⟩) | exact Nat.le_of_ble_eq_true rfl | (simp only [List.length_map, List.length_append, pbytes, Nat.mul_one, List.length_cons, List.length_nil]; first | done | omega))); conv => whnf
    | (with_reducible refine and_late (fun _ => ?_) ?_); conv => whnf
    | (with_reducible refine vcall_id ?_)
      first
      | (refine vcall_inl rfl rfl rfl rfl (Nat.le_of_ble_eq_true rfl) ?_)
    | (with_reducible refine Both.mk ?_ ?_) <;> conv => whnf
    | (refine ⟨[], _, _, rfl, ?_⟩); conv => whnf
    | (refine ⟨_, rfl, ?_⟩); conv => whnf
    | (refine ⟨_, unbytes_pbytes _, ?_⟩); conv => whnf
    | exact ⟨_, _, rfl, rfl⟩
    | exact rensG_pu _ _ _ _
    | rfl
    | (rw [snap_own rfl (show (pbytes _).length = _ * 1 from by rw [pbytes_length, Nat.mul_one])]); conv => whnf
    | fail
  all_goals (subst hR; simp_all [packRes, renG])
theorem con_floats_Canon : Contract Try.prog id_floats_Canon (RelP (fun (x : Int) => True) (fun x => [u64 x]) fun x => u64 (canonI x)) := by
  refine (code_floats_Canon).pure (Known.cons con_floats_Kind Known.nil) (by rintro x -; first | exact Nat.le_of_ble_eq_true rfl | (obtain ⟨_, _⟩ := x; exact Nat.le_of_ble_eq_true rfl) | (obtain ⟨_, _, _⟩ := x; exact Nat.le_of_ble_eq_true rfl) | (obtain ⟨_, _, _, _⟩ := x; exact Nat.le_of_ble_eq_true rfl) | (obtain ⟨_, _, _, _, _⟩ := x; exact Nat.le_of_ble_eq_true rfl) | (obtain ⟨_, _, _, _, _, _⟩ := x; exact Nat.le_of_ble_eq_true rfl) | (obtain ⟨_, _, _, _, _, _, _⟩ := x; exact Nat.le_of_ble_eq_true rfl) | (obtain ⟨_, _, _, _, _, _, _, _⟩ := x; exact Nat.le_of_ble_eq_true rfl)) ?_
  rintro x -
  generalize hR : canonI x = R
  unfold canonI at hR
  repeat' first
    | (with_reducible first | refine bo_run ?_ | refine bw_run ?_ | refine bd_run ?_ | refine Br.tt ?_ | refine Br.ff ?_); conv => whnf
    | (with_reducible refine br_not ?_)
    | (with_reducible first | refine br_dec_tt (by assumption) ?_ | refine br_dec_ff (by assumption) ?_ | refine br_dec_tt (by decide) ?_ | refine br_dec_ff (by decide) ?_); conv => whnf
    | (with_reducible refine br_dec_intro (fun _ => ?_) (fun _ => ?_)) <;> conv => whnf
    | (with_reducible first | refine br_beq_tt (by assumption) ?_ | refine br_beq_ff (by assumption) ?_ | refine br_beq_tt (by decide) ?_ | refine br_beq_ff (by decide) ?_); conv => whnf
    | (with_reducible refine br_beq_intro (fun _ => ?_) (fun _ => ?_)) <;> conv => whnf
    | (with_reducible first | refine br_bne_tt (by assumption) ?_ | refine br_bne_ff (by assumption) ?_ | refine br_bne_tt (by decide) ?_ | refine br_bne_ff (by decide) ?_); conv => whnf
    | (with_reducible refine br_bne_intro (fun _ => ?_) (fun _ => ?_)) <;> conv => whnf
    | (with_reducible first | refine br_of_true (by assumption) ?_ | refine br_of_false (by assumption) ?_); conv => whnf
    | (with_reducible refine br_intro (fun _ => ?_) (fun _ => ?_)) <;> conv => whnf
    | (with_reducible refine and_rfl ?_); conv => whnf
    | (refine and_late (fun _ => ?_) (by first | omega | (show _ = _; rfl) | exact trivial | exact ⟨rfl, trivial⟩ | exact ⟨rfl, rfl, trivial⟩ | exact (fun h => by cases h) | exact (fun _ => ⟨rfl, rfl⟩) | exact Nat.le_of_ble_eq_true rfl | (simp only [List.length_map, List.length_append, pbytes, Nat.mul_one, List.length_cons, List.length_nil]; first | done | omega))); conv => whnf
    | (with_reducible refine and_late (fun _ => ?_) ?_); conv => whnf
    | (with_reducible refine vcall_id ?_)
      first
      | (refine vcall_inl rfl rfl rfl rfl (Nat.le_of_ble_eq_true rfl) ?_)
    | (with_reducible refine Both.mk ?_ ?_) <;> conv => whnf
    | (refine ⟨[], _, _, rfl, ?_⟩); conv => whnf
    | (refine ⟨_, rfl, ?_⟩); conv => whnf
    | (refine ⟨_, unbytes_pbytes _, ?_⟩); conv => whnf
    | exact ⟨_, _, rfl, rfl⟩
    | exact rensG_pu _ _ _ _
    | rfl
    | (rw [snap_own rfl (show (pbytes _).length = _ * 1 from by rw [pbytes_length, Nat.mul_one])]); conv => whnf
    | fail
  refine call_rel (x := x) rfl trivial rfl (.inl rfl) ?_
  conv => whnf
  repeat' first
    | (with_reducible first | refine bo_run ?_ | refine bw_run ?_ | refine bd_run ?_ | refine Br.tt ?_ | refine Br.ff ?_); conv => whnf
    | (with_reducible refine br_not ?_)
    | (with_reducible first | refine br_dec_tt (by assumption) ?_ | refine br_dec_ff (by assumption) ?_ | refine br_dec_tt (by decide) ?_ | refine br_dec_ff (by decide) ?_); conv => whnf
    | (with_reducible refine br_dec_intro (fun _ => ?_) (fun _ => ?_)) <;> conv => whnf
    | (with_reducible first | refine br_beq_tt (by assumption) ?_ | refine br_beq_ff (by assumption) ?_ | refine br_beq_tt (by decide) ?_ | refine br_beq_ff (by decide) ?_); conv => whnf
    | (with_reducible refine br_beq_intro (fun _ => ?_) (fun _ => ?_)) <;> conv => whnf
    | (with_reducible first | refine br_bne_tt (by assumption) ?_ | refine br_bne_ff (by assumption) ?_ | refine br_bne_tt (by decide) ?_ | refine br_bne_ff (by decide) ?_); conv => whnf
    | (with_reducible refine br_bne_intro (fun _ => ?_) (fun _ => ?_)) <;> conv => whnf
    | (with_reducible first | refine br_of_true (by assumption) ?_ | refine br_of_false (by assumption) ?_); conv => whnf
    | (with_reducible refine br_intro (fun _ => ?_) (fun _ => ?_)) <;> conv => whnf
    | (with_reducible refine and_rfl ?_); conv => whnf
    | (refine and_late (fun _ => ?_) (by first | omega | (show _ = _; rfl) | exact trivial | exact ⟨rfl, trivial⟩ | exact ⟨rfl, rfl, trivial⟩ | exact (fun h => by cases h) | exact (fun _ => ⟨rfl, rfl⟩) | exact Nat.le_of_ble_eq_true rfl | (simp only [List.length_map, List.length_append, pbytes, Nat.mul_one, List.length_cons, List.length_nil]; first | done | omega))); conv => whnf
    | (with_reducible refine and_late (fun _ => ?_) ?_); conv => whnf
    | (with_reducible refine vcall_id ?_)
      first
      | (refine vcall_inl rfl rfl rfl rfl (Nat.le_of_ble_eq_true rfl) ?_)
    | (with_reducible refine Both.mk ?_ ?_) <;> conv => whnf
    | (refine ⟨[], _, _, rfl, ?_⟩); conv => whnf
    | (refine ⟨_, rfl, ?_⟩); conv => whnf
    | (refine ⟨_, unbytes_pbytes _, ?_⟩); conv => whnf
    | exact ⟨_, _, rfl, rfl⟩
    | exact rensG_pu _ _ _ _
    | rfl
    | (rw [snap_own rfl (show (pbytes _).length = _ * 1 from by rw [pbytes_length, Nat.mul_one])]); conv => whnf
    | fail
  all_goals (subst hR; simp_all [packRes, renG])
theorem con_floats_key : Contract Try.prog id_floats_key (RelP (fun (x : Int) => True) (fun x => [u64 x]) fun x => u64 (keyI x)) := by
  refine (code_floats_key).pure (Known.cons con_floats_Canon Known.nil) (by rintro x -; first | exact Nat.le_of_ble_eq_true rfl | (obtain ⟨_, _⟩ := x; exact Nat.le_of_ble_eq_true rfl) | (obtain ⟨_, _, _⟩ := x; exact Nat.le_of_ble_eq_true rfl) | (obtain ⟨_, _, _, _⟩ := x; exact Nat.le_of_ble_eq_true rfl) | (obtain ⟨_, _, _, _, _⟩ := x; exact Nat.le_of_ble_eq_true rfl) | (obtain ⟨_, _, _, _, _, _⟩ := x; exact Nat.le_of_ble_eq_true rfl) | (obtain ⟨_, _, _, _, _, _, _⟩ := x; exact Nat.le_of_ble_eq_true rfl) | (obtain ⟨_, _, _, _, _, _, _, _⟩ := x; exact Nat.le_of_ble_eq_true rfl)) ?_
  rintro x -
  generalize hR : keyI x = R
  unfold keyI at hR
  repeat' first
    | (with_reducible first | refine bo_run ?_ | refine bw_run ?_ | refine bd_run ?_ | refine Br.tt ?_ | refine Br.ff ?_); conv => whnf
    | (with_reducible refine br_not ?_)
    | (with_reducible first | refine br_dec_tt (by assumption) ?_ | refine br_dec_ff (by assumption) ?_ | refine br_dec_tt (by decide) ?_ | refine br_dec_ff (by decide) ?_); conv => whnf
    | (with_reducible refine br_dec_intro (fun _ => ?_) (fun _ => ?_)) <;> conv => whnf
    | (with_reducible first | refine br_beq_tt (by assumption) ?_ | refine br_beq_ff (by assumption) ?_ | refine br_beq_tt (by decide) ?_ | refine br_beq_ff (by decide) ?_); conv => whnf
    | (with_reducible refine br_beq_intro (fun _ => ?_) (fun _ => ?_)) <;> conv => whnf
    | (with_reducible first | refine br_bne_tt (by assumption) ?_ | refine br_bne_ff (by assumption) ?_ | refine br_bne_tt (by decide) ?_ | refine br_bne_ff (by decide) ?_); conv => whnf
    | (with_reducible refine br_bne_intro (fun _ => ?_) (fun _ => ?_)) <;> conv => whnf
    | (with_reducible first | refine br_of_true (by assumption) ?_ | refine br_of_false (by assumption) ?_); conv => whnf
    | (with_reducible refine br_intro (fun _ => ?_) (fun _ => ?_)) <;> conv => whnf
    | (with_reducible refine and_rfl ?_); conv => whnf
    | (refine and_late (fun _ => ?_) (by first | omega | (show _ = _; rfl) | exact trivial | exact ⟨rfl, trivial⟩ | exact ⟨rfl, rfl, trivial⟩ | exact (fun h => by cases h) | exact (fun _ => ⟨rfl, rfl⟩) | exact Nat.le_of_ble_eq_true rfl | (simp only [List.length_map, List.length_append, pbytes, Nat.mul_one, List.length_cons, List.length_nil]; first | done | omega))); conv => whnf
    | (with_reducible refine and_late (fun _ => ?_) ?_); conv => whnf
    | (with_reducible refine vcall_id ?_)
      first
      | (refine vcall_inl rfl rfl rfl rfl (Nat.le_of_ble_eq_true rfl) ?_)
    | (with_reducible refine Both.mk ?_ ?_) <;> conv => whnf
    | (refine ⟨[], _, _, rfl, ?_⟩); conv => whnf
    | (refine ⟨_, rfl, ?_⟩); conv => whnf
    | (refine ⟨_, unbytes_pbytes _, ?_⟩); conv => whnf
    | exact ⟨_, _, rfl, rfl⟩
    | exact rensG_pu _ _ _ _
    | rfl
    | (rw [snap_own rfl (show (pbytes _).length = _ * 1 from by rw [pbytes_length, Nat.mul_one])]); conv => whnf
    | fail
  refine call_rel (x := x) rfl trivial rfl (.inl rfl) ?_
  conv => whnf
  generalize canonI x = y at hR ⊢
  repeat' first
    | (with_reducible first | refine bo_run ?_ | refine bw_run ?_ | refine bd_run ?_ | refine Br.tt ?_ | refine Br.ff ?_); conv => whnf
    | (with_reducible refine br_not ?_)
    | (with_reducible first | refine br_dec_tt (by assumption) ?_ | refine br_dec_ff (by assumption) ?_ | refine br_dec_tt (by decide) ?_ | refine br_dec_ff (by decide) ?_); conv => whnf
    | (with_reducible refine br_dec_intro (fun _ => ?_) (fun _ => ?_)) <;> conv => whnf
    | (with_reducible first | refine br_beq_tt (by assumption) ?_ | refine br_beq_ff (by assumption) ?_ | refine br_beq_tt (by decide) ?_ | refine br_beq_ff (by decide) ?_); conv => whnf
    | (with_reducible refine br_beq_intro (fun _ => ?_) (fun _ => ?_)) <;> conv => whnf
    | (with_reducible first | refine br_bne_tt (by assumption) ?_ | refine br_bne_ff (by assumption) ?_ | refine br_bne_tt (by decide) ?_ | refine br_bne_ff (by decide) ?_); conv => whnf
    | (with_reducible refine br_bne_intro (fun _ => ?_) (fun _ => ?_)) <;> conv => whnf
    | (with_reducible first | refine br_of_true (by assumption) ?_ | refine br_of_false (by assumption) ?_); conv => whnf
    | (with_reducible refine br_intro (fun _ => ?_) (fun _ => ?_)) <;> conv => whnf
    | (with_reducible refine and_rfl ?_); conv => whnf
    | (refine and_late (fun _ => ?_) (by first | omega | (show _ = _; rfl) | exact trivial | exact ⟨rfl, trivial⟩ | exact ⟨rfl, rfl, trivial⟩ | exact (fun h => by cases h) | exact (fun _ => ⟨rfl, rfl⟩) | exact Nat.le_of_ble_eq_true rfl | (simp only [List.length_map, List.length_append, pbytes, Nat.mul_one, List.length_cons, List.length_nil]; first | done | omega))); conv => whnf
    | (with_reducible refine and_late (fun _ => ?_) ?_); conv => whnf
    | (with_reducible refine vcall_id ?_)
      first
      | (refine vcall_inl rfl rfl rfl rfl (Nat.le_of_ble_eq_true rfl) ?_)
    | (with_reducible refine Both.mk ?_ ?_) <;> conv => whnf
    | (refine ⟨[], _, _, rfl, ?_⟩); conv => whnf
    | (refine ⟨_, rfl, ?_⟩); conv => whnf
    | (refine ⟨_, unbytes_pbytes _, ?_⟩); conv => whnf
    | exact ⟨_, _, rfl, rfl⟩
    | exact rensG_pu _ _ _ _
    | rfl
    | (rw [snap_own rfl (show (pbytes _).length = _ * 1 from by rw [pbytes_length, Nat.mul_one])]); conv => whnf
    | fail
  all_goals (subst hR; simp_all [packRes, renG])
  all_goals rfl
def cmpI (a b : Int) : Int := if a < b then -1 else if a > b then 1 else 0
theorem con_floats_Order : Contract Try.prog id_floats_Order (RelP (fun ((x, y) : Int × Int) => True) (fun (x, y) => [u64 x, u64 y]) fun (x, y) => i64 (cmpI (keyI x) (keyI y))) := by
  refine (code_floats_Order).pure (Known.cons con_floats_key Known.nil) (by rintro x -; first | exact Nat.le_of_ble_eq_true rfl | (obtain ⟨_, _⟩ := x; exact Nat.le_of_ble_eq_true rfl) | (obtain ⟨_, _, _⟩ := x; exact Nat.le_of_ble_eq_true rfl) | (obtain ⟨_, _, _, _⟩ := x; exact Nat.le_of_ble_eq_true rfl) | (obtain ⟨_, _, _, _, _⟩ := x; exact Nat.le_of_ble_eq_true rfl) | (obtain ⟨_, _, _, _, _, _⟩ := x; exact Nat.le_of_ble_eq_true rfl) | (obtain ⟨_, _, _, _, _, _, _⟩ := x; exact Nat.le_of_ble_eq_true rfl) | (obtain ⟨_, _, _, _, _, _, _, _⟩ := x; exact Nat.le_of_ble_eq_true rfl)) ?_
  rintro ⟨x, y⟩ -
  dsimp only
  unfold cmpI
  repeat' first
    | (with_reducible first | refine bo_run ?_ | refine bw_run ?_ | refine bd_run ?_ | refine Br.tt ?_ | refine Br.ff ?_); conv => whnf
    | (with_reducible refine br_not ?_)
    | (with_reducible first | refine br_dec_tt (by assumption) ?_ | refine br_dec_ff (by assumption) ?_ | refine br_dec_tt (by decide) ?_ | refine br_dec_ff (by decide) ?_); conv => whnf
    | (with_reducible refine br_dec_intro (fun _ => ?_) (fun _ => ?_)) <;> conv => whnf
    | (with_reducible first | refine br_beq_tt (by assumption) ?_ | refine br_beq_ff (by assumption) ?_ | refine br_beq_tt (by decide) ?_ | refine br_beq_ff (by decide) ?_); conv => whnf
    | (with_reducible refine br_beq_intro (fun _ => ?_) (fun _ => ?_)) <;> conv => whnf
    | (with_reducible first | refine br_bne_tt (by assumption) ?_ | refine br_bne_ff (by assumption) ?_ | refine br_bne_tt (by decide) ?_ | refine br_bne_ff (by decide) ?_); conv => whnf
    | (with_reducible refine br_bne_intro (fun _ => ?_) (fun _ => ?_)) <;> conv => whnf
    | (with_reducible first | refine br_of_true (by assumption) ?_ | refine br_of_false (by assumption) ?_); conv => whnf
    | (with_reducible refine br_intro (fun _ => ?_) (fun _ => ?_)) <;> conv => whnf
    | (with_reducible refine and_rfl ?_); conv => whnf
    | (refine and_late (fun _ => ?_) (by first | omega | (show _ = _; rfl) | exact trivial | exact ⟨rfl, trivial⟩ | exact ⟨rfl, rfl, trivial⟩ | exact (fun h => by cases h) | exact (fun _ => ⟨rfl, rfl⟩) | exact Nat.le_of_ble_eq_true rfl | (simp only [List.length_map, List.length_append, pbytes, Nat.mul_one, List.length_cons, List.length_nil]; first | done | omega))); conv => whnf
    | (with_reducible refine and_late (fun _ => ?_) ?_); conv => whnf
    | (with_reducible refine vcall_id ?_)
      first
      | (refine vcall_inl rfl rfl rfl rfl (Nat.le_of_ble_eq_true rfl) ?_)
    | (with_reducible refine Both.mk ?_ ?_) <;> conv => whnf
    | (refine ⟨[], _, _, rfl, ?_⟩); conv => whnf
    | (refine ⟨_, rfl, ?_⟩); conv => whnf
    | (refine ⟨_, unbytes_pbytes _, ?_⟩); conv => whnf
    | exact ⟨_, _, rfl, rfl⟩
    | exact rensG_pu _ _ _ _
    | rfl
    | (rw [snap_own rfl (show (pbytes _).length = _ * 1 from by rw [pbytes_length, Nat.mul_one])]); conv => whnf
    | fail
  refine call_rel (x := x) rfl trivial rfl (.inl rfl) ?_
  conv => whnf
  repeat' first
    | (with_reducible first | refine bo_run ?_ | refine bw_run ?_ | refine bd_run ?_ | refine Br.tt ?_ | refine Br.ff ?_); conv => whnf
    | (with_reducible refine br_not ?_)
    | (with_reducible first | refine br_dec_tt (by assumption) ?_ | refine br_dec_ff (by assumption) ?_ | refine br_dec_tt (by decide) ?_ | refine br_dec_ff (by decide) ?_); conv => whnf
    | (with_reducible refine br_dec_intro (fun _ => ?_) (fun _ => ?_)) <;> conv => whnf
    | (with_reducible first | refine br_beq_tt (by assumption) ?_ | refine br_beq_ff (by assumption) ?_ | refine br_beq_tt (by decide) ?_ | refine br_beq_ff (by decide) ?_); conv => whnf
    | (with_reducible refine br_beq_intro (fun _ => ?_) (fun _ => ?_)) <;> conv => whnf
    | (with_reducible first | refine br_bne_tt (by assumption) ?_ | refine br_bne_ff (by assumption) ?_ | refine br_bne_tt (by decide) ?_ | refine br_bne_ff (by decide) ?_); conv => whnf
    | (with_reducible refine br_bne_intro (fun _ => ?_) (fun _ => ?_)) <;> conv => whnf
    | (with_reducible first | refine br_of_true (by assumption) ?_ | refine br_of_false (by assumption) ?_); conv => whnf
    | (with_reducible refine br_intro (fun _ => ?_) (fun _ => ?_)) <;> conv => whnf
    | (with_reducible refine and_rfl ?_); conv => whnf
    | (refine and_late (fun _ => ?_) (by first | omega | (show _ = _; rfl) | exact trivial | exact ⟨rfl, trivial⟩ | exact ⟨rfl, rfl, trivial⟩ | exact (fun h => by cases h) | exact (fun _ => ⟨rfl, rfl⟩) | exact Nat.le_of_ble_eq_true rfl | (simp only [List.length_map, List.length_append, pbytes, Nat.mul_one, List.length_cons, List.length_nil]; first | done | omega))); conv => whnf
    | (with_reducible refine and_late (fun _ => ?_) ?_); conv => whnf
    | (with_reducible refine vcall_id ?_)
      first
      | (refine vcall_inl rfl rfl rfl rfl (Nat.le_of_ble_eq_true rfl) ?_)
    | (with_reducible refine Both.mk ?_ ?_) <;> conv => whnf
    | (refine ⟨[], _, _, rfl, ?_⟩); conv => whnf
    | (refine ⟨_, rfl, ?_⟩); conv => whnf
    | (refine ⟨_, unbytes_pbytes _, ?_⟩); conv => whnf
    | exact ⟨_, _, rfl, rfl⟩
    | exact rensG_pu _ _ _ _
    | rfl
    | (rw [snap_own rfl (show (pbytes _).length = _ * 1 from by rw [pbytes_length, Nat.mul_one])]); conv => whnf
    | fail
  refine call_rel (x := y) rfl trivial rfl (.inl rfl) ?_
  conv => whnf
  repeat' first
    | (with_reducible first | refine bo_run ?_ | refine bw_run ?_ | refine bd_run ?_ | refine Br.tt ?_ | refine Br.ff ?_); conv => whnf
    | (with_reducible refine br_not ?_)
    | (with_reducible first | refine br_dec_tt (by assumption) ?_ | refine br_dec_ff (by assumption) ?_ | refine br_dec_tt (by decide) ?_ | refine br_dec_ff (by decide) ?_); conv => whnf
    | (with_reducible refine br_dec_intro (fun _ => ?_) (fun _ => ?_)) <;> conv => whnf
    | (with_reducible first | refine br_beq_tt (by assumption) ?_ | refine br_beq_ff (by assumption) ?_ | refine br_beq_tt (by decide) ?_ | refine br_beq_ff (by decide) ?_); conv => whnf
    | (with_reducible refine br_beq_intro (fun _ => ?_) (fun _ => ?_)) <;> conv => whnf
    | (with_reducible first | refine br_bne_tt (by assumption) ?_ | refine br_bne_ff (by assumption) ?_ | refine br_bne_tt (by decide) ?_ | refine br_bne_ff (by decide) ?_); conv => whnf
    | (with_reducible refine br_bne_intro (fun _ => ?_) (fun _ => ?_)) <;> conv => whnf
    | (with_reducible first | refine br_of_true (by assumption) ?_ | refine br_of_false (by assumption) ?_); conv => whnf
    | (with_reducible refine br_intro (fun _ => ?_) (fun _ => ?_)) <;> conv => whnf
    | (with_reducible refine and_rfl ?_); conv => whnf
    | (refine and_late (fun _ => ?_) (by first | omega | (show _ = _; rfl) | exact trivial | exact ⟨rfl, trivial⟩ | exact ⟨rfl, rfl, trivial⟩ | exact (fun h => by cases h) | exact (fun _ => ⟨rfl, rfl⟩) | exact Nat.le_of_ble_eq_true rfl | (simp only [List.length_map, List.length_append, pbytes, Nat.mul_one, List.length_cons, List.length_nil]; first | done | omega))); conv => whnf
    | (with_reducible refine and_late (fun _ => ?_) ?_); conv => whnf
    | (with_reducible refine vcall_id ?_)
      first
      | (refine vcall_inl rfl rfl rfl rfl (Nat.le_of_ble_eq_true rfl) ?_)
    | (with_reducible refine Both.mk ?_ ?_) <;> conv => whnf
    | (refine ⟨[], _, _, rfl, ?_⟩); conv => whnf
    | (refine ⟨_, rfl, ?_⟩); conv => whnf
    | (refine ⟨_, unbytes_pbytes _, ?_⟩); conv => whnf
    | exact ⟨_, _, rfl, rfl⟩
    | exact rensG_pu _ _ _ _
    | rfl
    | (rw [snap_own rfl (show (pbytes _).length = _ * 1 from by rw [pbytes_length, Nat.mul_one])]); conv => whnf
    | fail
  · rename_i q
    rw [if_pos q]
    rfl
  · rename_i q1 q2
    rw [if_neg q1, if_pos q2]
    rfl
  · rename_i q1 q2
    rw [if_neg q1, if_neg q2]
    rfl
theorem con_cmp_isNaN_int : Contract Try.prog id_cmp_isNaN_int (RelP (fun (n : Int) => True) (fun n => [i64 n]) fun _ => bl false) := by
  refine (code_cmp_isNaN_int).pure Known.nil (by rintro x -; first | exact Nat.le_of_ble_eq_true rfl | (obtain ⟨_, _⟩ := x; exact Nat.le_of_ble_eq_true rfl) | (obtain ⟨_, _, _⟩ := x; exact Nat.le_of_ble_eq_true rfl) | (obtain ⟨_, _, _, _⟩ := x; exact Nat.le_of_ble_eq_true rfl) | (obtain ⟨_, _, _, _, _⟩ := x; exact Nat.le_of_ble_eq_true rfl) | (obtain ⟨_, _, _, _, _, _⟩ := x; exact Nat.le_of_ble_eq_true rfl) | (obtain ⟨_, _, _, _, _, _, _⟩ := x; exact Nat.le_of_ble_eq_true rfl) | (obtain ⟨_, _, _, _, _, _, _, _⟩ := x; exact Nat.le_of_ble_eq_true rfl)) ?_
  rintro n -
  have r1 : n = n := rfl
  have r2 : (n == n) = true := beq_self_eq_true n
  repeat' first
    | (with_reducible first | refine bo_run ?_ | refine bw_run ?_ | refine bd_run ?_ | refine Br.tt ?_ | refine Br.ff ?_); conv => whnf
    | (with_reducible refine br_not ?_)
    | (with_reducible first | refine br_dec_tt (by assumption) ?_ | refine br_dec_ff (by assumption) ?_ | refine br_dec_tt (by decide) ?_ | refine br_dec_ff (by decide) ?_); conv => whnf
    | (with_reducible refine br_dec_intro (fun _ => ?_) (fun _ => ?_)) <;> conv => whnf
    | (with_reducible first | refine br_beq_tt (by assumption) ?_ | refine br_beq_ff (by assumption) ?_ | refine br_beq_tt (by decide) ?_ | refine br_beq_ff (by decide) ?_); conv => whnf
    | (with_reducible refine br_beq_intro (fun _ => ?_) (fun _ => ?_)) <;> conv => whnf
    | (with_reducible first | refine br_bne_tt (by assumption) ?_ | refine br_bne_ff (by assumption) ?_ | refine br_bne_tt (by decide) ?_ | refine br_bne_ff (by decide) ?_); conv => whnf
    | (with_reducible refine br_bne_intro (fun _ => ?_) (fun _ => ?_)) <;> conv => whnf
    | (with_reducible first | refine br_of_true (by assumption) ?_ | refine br_of_false (by assumption) ?_); conv => whnf
    | (with_reducible refine br_intro (fun _ => ?_) (fun _ => ?_)) <;> conv => whnf
    | (with_reducible refine and_rfl ?_); conv => whnf
    | (refine and_late (fun _ => ?_) (by first | omega | (show _ = _; rfl) | exact trivial | exact ⟨rfl, trivial⟩ | exact ⟨rfl, rfl, trivial⟩ | exact (fun h => by cases h) | exact (fun _ => ⟨rfl, rfl⟩) | exact Nat.le_of_ble_eq_true rfl | (simp only [List.length_map, List.length_append, pbytes, Nat.mul_one, List.length_cons, List.length_nil]; first | done | omega))); conv => whnf
    | (with_reducible refine and_late (fun _ => ?_) ?_); conv => whnf
    | (with_reducible refine vcall_id ?_)
      first
      | (refine vcall_inl rfl rfl rfl rfl (Nat.le_of_ble_eq_true rfl) ?_)
    | (with_reducible refine Both.mk ?_ ?_) <;> conv => whnf
    | (refine ⟨[], _, _, rfl, ?_⟩); conv => whnf
    | (refine ⟨_, rfl, ?_⟩); conv => whnf
    | (refine ⟨_, unbytes_pbytes _, ?_⟩); conv => whnf
    | exact ⟨_, _, rfl, rfl⟩
    | exact rensG_pu _ _ _ _
    | rfl
    | (rw [snap_own rfl (show (pbytes _).length = _ * 1 from by rw [pbytes_length, Nat.mul_one])]); conv => whnf
    | fail
  simp [packRes, renG]
theorem con_cmp_Compare_int : Contract Try.prog id_cmp_Compare_int (RelP (fun ((n, m) : Int × Int) => True) (fun (n, m) => [i64 n, i64 m]) fun (n, m) => i64 (cmpI n m)) := by
  refine (code_cmp_Compare_int).pure (Known.cons con_cmp_isNaN_int Known.nil) (by rintro x -; first | exact Nat.le_of_ble_eq_true rfl | (obtain ⟨_, _⟩ := x; exact Nat.le_of_ble_eq_true rfl) | (obtain ⟨_, _, _⟩ := x; exact Nat.le_of_ble_eq_true rfl) | (obtain ⟨_, _, _, _⟩ := x; exact Nat.le_of_ble_eq_true rfl) | (obtain ⟨_, _, _, _, _⟩ := x; exact Nat.le_of_ble_eq_true rfl) | (obtain ⟨_, _, _, _, _, _⟩ := x; exact Nat.le_of_ble_eq_true rfl) | (obtain ⟨_, _, _, _, _, _, _⟩ := x; exact Nat.le_of_ble_eq_true rfl) | (obtain ⟨_, _, _, _, _, _, _, _⟩ := x; exact Nat.le_of_ble_eq_true rfl)) ?_
  rintro ⟨n, m⟩ -
  dsimp only
  unfold cmpI
  repeat' first
    | (with_reducible first | refine bo_run ?_ | refine bw_run ?_ | refine bd_run ?_ | refine Br.tt ?_ | refine Br.ff ?_); conv => whnf
    | (with_reducible refine br_not ?_)
    | (with_reducible first | refine br_dec_tt (by assumption) ?_ | refine br_dec_ff (by assumption) ?_ | refine br_dec_tt (by decide) ?_ | refine br_dec_ff (by decide) ?_); conv => whnf
    | (with_reducible refine br_dec_intro (fun _ => ?_) (fun _ => ?_)) <;> conv => whnf
    | (with_reducible first | refine br_beq_tt (by assumption) ?_ | refine br_beq_ff (by assumption) ?_ | refine br_beq_tt (by decide) ?_ | refine br_beq_ff (by decide) ?_); conv => whnf
    | (with_reducible refine br_beq_intro (fun _ => ?_) (fun _ => ?_)) <;> conv => whnf
    | (with_reducible first | refine br_bne_tt (by assumption) ?_ | refine br_bne_ff (by assumption) ?_ | refine br_bne_tt (by decide) ?_ | refine br_bne_ff (by decide) ?_); conv => whnf
    | (with_reducible refine br_bne_intro (fun _ => ?_) (fun _ => ?_)) <;> conv => whnf
    | (with_reducible first | refine br_of_true (by assumption) ?_ | refine br_of_false (by assumption) ?_); conv => whnf
    | (with_reducible refine br_intro (fun _ => ?_) (fun _ => ?_)) <;> conv => whnf
    | (with_reducible refine and_rfl ?_); conv => whnf
    | (refine and_late (fun _ => ?_) (by first | omega | (show _ = _; rfl) | exact trivial | exact ⟨rfl, trivial⟩ | exact ⟨rfl, rfl, trivial⟩ | exact (fun h => by cases h) | exact (fun _ => ⟨rfl, rfl⟩) | exact Nat.le_of_ble_eq_true rfl | (simp only [List.length_map, List.length_append, pbytes, Nat.mul_one, List.length_cons, List.length_nil]; first | done | omega))); conv => whnf
    | (with_reducible refine and_late (fun _ => ?_) ?_); conv => whnf
    | (with_reducible refine vcall_id ?_)
      first
      | (refine vcall_inl rfl rfl rfl rfl (Nat.le_of_ble_eq_true rfl) ?_)
    | (with_reducible refine Both.mk ?_ ?_) <;> conv => whnf
    | (refine ⟨[], _, _, rfl, ?_⟩); conv => whnf
    | (refine ⟨_, rfl, ?_⟩); conv => whnf
    | (refine ⟨_, unbytes_pbytes _, ?_⟩); conv => whnf
    | exact ⟨_, _, rfl, rfl⟩
    | exact rensG_pu _ _ _ _
    | rfl
    | (rw [snap_own rfl (show (pbytes _).length = _ * 1 from by rw [pbytes_length, Nat.mul_one])]); conv => whnf
    | fail
  refine call_rel (x := n) (p := bl false) rfl trivial rfl (.inl rfl) ?_
  conv => whnf
  repeat' first
    | (with_reducible first | refine bo_run ?_ | refine bw_run ?_ | refine bd_run ?_ | refine Br.tt ?_ | refine Br.ff ?_); conv => whnf
    | (with_reducible refine br_not ?_)
    | (with_reducible first | refine br_dec_tt (by assumption) ?_ | refine br_dec_ff (by assumption) ?_ | refine br_dec_tt (by decide) ?_ | refine br_dec_ff (by decide) ?_); conv => whnf
    | (with_reducible refine br_dec_intro (fun _ => ?_) (fun _ => ?_)) <;> conv => whnf
    | (with_reducible first | refine br_beq_tt (by assumption) ?_ | refine br_beq_ff (by assumption) ?_ | refine br_beq_tt (by decide) ?_ | refine br_beq_ff (by decide) ?_); conv => whnf
    | (with_reducible refine br_beq_intro (fun _ => ?_) (fun _ => ?_)) <;> conv => whnf
    | (with_reducible first | refine br_bne_tt (by assumption) ?_ | refine br_bne_ff (by assumption) ?_ | refine br_bne_tt (by decide) ?_ | refine br_bne_ff (by decide) ?_); conv => whnf
    | (with_reducible refine br_bne_intro (fun _ => ?_) (fun _ => ?_)) <;> conv => whnf
    | (with_reducible first | refine br_of_true (by assumption) ?_ | refine br_of_false (by assumption) ?_); conv => whnf
    | (with_reducible refine br_intro (fun _ => ?_) (fun _ => ?_)) <;> conv => whnf
    | (with_reducible refine and_rfl ?_); conv => whnf
    | (refine and_late (fun _ => ?_) (by first | omega | (show _ = _; rfl) | exact trivial | exact ⟨rfl, trivial⟩ | exact ⟨rfl, rfl, trivial⟩ | exact (fun h => by cases h) | exact (fun _ => ⟨rfl, rfl⟩) | exact Nat.le_of_ble_eq_true rfl | (simp only [List.length_map, List.length_append, pbytes, Nat.mul_one, List.length_cons, List.length_nil]; first | done | omega))); conv => whnf
    | (with_reducible refine and_late (fun _ => ?_) ?_); conv => whnf
    | (with_reducible refine vcall_id ?_)
      first
      | (refine vcall_inl rfl rfl rfl rfl (Nat.le_of_ble_eq_true rfl) ?_)
    | (with_reducible refine Both.mk ?_ ?_) <;> conv => whnf
    | (refine ⟨[], _, _, rfl, ?_⟩); conv => whnf
    | (refine ⟨_, rfl, ?_⟩); conv => whnf
    | (refine ⟨_, unbytes_pbytes _, ?_⟩); conv => whnf
    | exact ⟨_, _, rfl, rfl⟩
    | exact rensG_pu _ _ _ _
    | rfl
    | (rw [snap_own rfl (show (pbytes _).length = _ * 1 from by rw [pbytes_length, Nat.mul_one])]); conv => whnf
    | fail
  refine call_rel (x := m) (p := bl false) rfl trivial rfl (.inl rfl) ?_
  conv => whnf
  repeat' first
    | (with_reducible first | refine bo_run ?_ | refine bw_run ?_ | refine bd_run ?_ | refine Br.tt ?_ | refine Br.ff ?_); conv => whnf
    | (with_reducible refine br_not ?_)
    | (with_reducible first | refine br_dec_tt (by assumption) ?_ | refine br_dec_ff (by assumption) ?_ | refine br_dec_tt (by decide) ?_ | refine br_dec_ff (by decide) ?_); conv => whnf
    | (with_reducible refine br_dec_intro (fun _ => ?_) (fun _ => ?_)) <;> conv => whnf
    | (with_reducible first | refine br_beq_tt (by assumption) ?_ | refine br_beq_ff (by assumption) ?_ | refine br_beq_tt (by decide) ?_ | refine br_beq_ff (by decide) ?_); conv => whnf
    | (with_reducible refine br_beq_intro (fun _ => ?_) (fun _ => ?_)) <;> conv => whnf
    | (with_reducible first | refine br_bne_tt (by assumption) ?_ | refine br_bne_ff (by assumption) ?_ | refine br_bne_tt (by decide) ?_ | refine br_bne_ff (by decide) ?_); conv => whnf
    | (with_reducible refine br_bne_intro (fun _ => ?_) (fun _ => ?_)) <;> conv => whnf
    | (with_reducible first | refine br_of_true (by assumption) ?_ | refine br_of_false (by assumption) ?_); conv => whnf
    | (with_reducible refine br_intro (fun _ => ?_) (fun _ => ?_)) <;> conv => whnf
    | (with_reducible refine and_rfl ?_); conv => whnf
    | (refine and_late (fun _ => ?_) (by first | omega | (show _ = _; rfl) | exact trivial | exact ⟨rfl, trivial⟩ | exact ⟨rfl, rfl, trivial⟩ | exact (fun h => by cases h) | exact (fun _ => ⟨rfl, rfl⟩) | exact Nat.le_of_ble_eq_true rfl | (simp only [List.length_map, List.length_append, pbytes, Nat.mul_one, List.length_cons, List.length_nil]; first | done | omega))); conv => whnf
    | (with_reducible refine and_late (fun _ => ?_) ?_); conv => whnf
    | (with_reducible refine vcall_id ?_)
      first
      | (refine vcall_inl rfl rfl rfl rfl (Nat.le_of_ble_eq_true rfl) ?_)
    | (with_reducible refine Both.mk ?_ ?_) <;> conv => whnf
    | (refine ⟨[], _, _, rfl, ?_⟩); conv => whnf
    | (refine ⟨_, rfl, ?_⟩); conv => whnf
    | (refine ⟨_, unbytes_pbytes _, ?_⟩); conv => whnf
    | exact ⟨_, _, rfl, rfl⟩
    | exact rensG_pu _ _ _ _
    | rfl
    | (rw [snap_own rfl (show (pbytes _).length = _ * 1 from by rw [pbytes_length, Nat.mul_one])]); conv => whnf
    | fail
  · rename_i q
    rw [if_pos q]
    rfl
  · rename_i q1 q2
    rw [if_neg q1, if_pos q2]
    rfl
  · rename_i q1 q2
    rw [if_neg q1, if_neg q2]
    rfl
def orI : List Int → Int
  | [] => 0
  | x :: r => if x = 0 then orI r else x
def ints (xs : List Int) : List PV := xs.map fun x => i64 x
theorem ints_at {l r : List Int} {i : Nat} {v : Int} (h : l.drop i = v :: r) : (ints l).drop i = i64 v :: ints r := by
  unfold ints
  rw [← List.map_drop, h]
  rfl
theorem con_cmp_Or_int : Contract Try.prog id_cmp_Or_int (RelP (fun (xs : List Int) => xs.length ≤ 1048576) (fun xs => [.sl xs.length (ints xs)]) fun xs => i64 (orI xs)) := by
  refine (code_cmp_Or_int).pure Known.nil (by rintro x -; first | exact Nat.le_of_ble_eq_true rfl | (obtain ⟨_, _⟩ := x; exact Nat.le_of_ble_eq_true rfl) | (obtain ⟨_, _, _⟩ := x; exact Nat.le_of_ble_eq_true rfl) | (obtain ⟨_, _, _, _⟩ := x; exact Nat.le_of_ble_eq_true rfl) | (obtain ⟨_, _, _, _, _⟩ := x; exact Nat.le_of_ble_eq_true rfl) | (obtain ⟨_, _, _, _, _, _⟩ := x; exact Nat.le_of_ble_eq_true rfl) | (obtain ⟨_, _, _, _, _, _, _⟩ := x; exact Nat.le_of_ble_eq_true rfl) | (obtain ⟨_, _, _, _, _, _, _, _⟩ := x; exact Nat.le_of_ble_eq_true rfl)) ?_
  rintro xs hx
  generalize hR : orI xs = R
  have hl : (ints xs).length = xs.length * 1 := by simp [ints]
  repeat' first
    | (with_reducible first | refine bo_run ?_ | refine bw_run ?_ | refine bd_run ?_ | refine Br.tt ?_ | refine Br.ff ?_); conv => whnf
    | (with_reducible refine br_not ?_)
    | (with_reducible first | refine br_dec_tt (by assumption) ?_ | refine br_dec_ff (by assumption) ?_ | refine br_dec_tt (by decide) ?_ | refine br_dec_ff (by decide) ?_); conv => whnf
    | (with_reducible refine br_dec_intro (fun _ => ?_) (fun _ => ?_)) <;> conv => whnf
    | (with_reducible first | refine br_beq_tt (by assumption) ?_ | refine br_beq_ff (by assumption) ?_ | refine br_beq_tt (by decide) ?_ | refine br_beq_ff (by decide) ?_); conv => whnf
    | (with_reducible refine br_beq_intro (fun _ => ?_) (fun _ => ?_)) <;> conv => whnf
    | (with_reducible first | refine br_bne_tt (by assumption) ?_ | refine br_bne_ff (by assumption) ?_ | refine br_bne_tt (by decide) ?_ | refine br_bne_ff (by decide) ?_); conv => whnf
    | (with_reducible refine br_bne_intro (fun _ => ?_) (fun _ => ?_)) <;> conv => whnf
    | (with_reducible first | refine br_of_true (by assumption) ?_ | refine br_of_false (by assumption) ?_); conv => whnf
    | (with_reducible refine br_intro (fun _ => ?_) (fun _ => ?_)) <;> conv => whnf
    | (with_reducible refine and_rfl ?_); conv => whnf
    | (refine and_late (fun _ => ?_) (by first | omega | (show _ = _; rfl) | exact trivial | exact ⟨rfl, trivial⟩ | exact ⟨rfl, rfl, trivial⟩ | exact (fun h => by cases h) | exact (fun _ => ⟨rfl, rfl⟩) | exact Nat.le_of_ble_eq_true rfl | (simp only [List.length_map, List.length_append, pbytes, Nat.mul_one, List.length_cons, List.length_nil]; first | done | omega))); conv => whnf
    | (with_reducible refine and_late (fun _ => ?_) ?_); conv => whnf
    | (with_reducible refine vcall_id ?_)
      first
      | (refine vcall_inl rfl rfl rfl rfl (Nat.le_of_ble_eq_true rfl) ?_)
    | (with_reducible refine Both.mk ?_ ?_) <;> conv => whnf
    | (refine ⟨[], _, _, rfl, ?_⟩); conv => whnf
    | (refine ⟨_, rfl, ?_⟩); conv => whnf
    | (refine ⟨_, unbytes_pbytes _, ?_⟩); conv => whnf
    | exact ⟨_, _, rfl, rfl⟩
    | exact rensG_pu _ _ _ _
    | rfl
    | (rw [snap_own rfl (show (pbytes _).length = _ * 1 from by rw [pbytes_length, Nat.mul_one])]); conv => whnf
    | fail
  refine bw_loop (α := Nat) (fun j => [(3, .pu (i64 0)), (6, .pu (.sl xs.length (ints xs))), (7, .pu (i64 xs.length)), (8, .pu (i64 (j : Int)))]) (fun _ => []) (fun j => j ≤ xs.length ∧ orI (xs.drop j) = R) (fun j => xs.length - j) 0 rfl rfl ⟨Nat.zero_le _, hR⟩ ?_
  rintro j ⟨h1, h2⟩
  by_cases hj : j < xs.length
  · obtain ⟨v, hv⟩ : ∃ v, xs.drop j = v :: xs.drop (j + 1) := ⟨_, List.drop_eq_getElem_cons hj⟩
    have g : (j : Int) < (xs.length : Int) := by omega
    have hd := ints_at hv
    have hd' : List.drop ((j : Int).toNat * 1) (ints xs) = i64 v :: ints (xs.drop (j + 1)) := by rw [Int.toNat_natCast, Nat.mul_one]; exact hd
    have hd1 : 1 ≤ (List.drop ((j : Int).toNat * 1) (ints xs)).length := by rw [hd']; simp
    rw [hv, orI] at h2
    repeat' first
      | (with_reducible first | refine bo_run ?_ | refine bw_run ?_ | refine bd_run ?_ | refine Br.tt ?_ | refine Br.ff ?_); conv => whnf
      | (with_reducible refine br_not ?_)
      | (with_reducible first | refine br_dec_tt (by assumption) ?_ | refine br_dec_ff (by assumption) ?_ | refine br_dec_tt (by decide) ?_ | refine br_dec_ff (by decide) ?_); conv => whnf
      | (with_reducible refine br_dec_intro (fun _ => ?_) (fun _ => ?_)) <;> conv => whnf
      | (with_reducible first | refine br_beq_tt (by assumption) ?_ | refine br_beq_ff (by assumption) ?_ | refine br_beq_tt (by decide) ?_ | refine br_beq_ff (by decide) ?_); conv => whnf
      | (with_reducible refine br_beq_intro (fun _ => ?_) (fun _ => ?_)) <;> conv => whnf
      | (with_reducible first | refine br_bne_tt (by assumption) ?_ | refine br_bne_ff (by assumption) ?_ | refine br_bne_tt (by decide) ?_ | refine br_bne_ff (by decide) ?_); conv => whnf
      | (with_reducible refine br_bne_intro (fun _ => ?_) (fun _ => ?_)) <;> conv => whnf
      | (with_reducible first | refine br_of_true (by assumption) ?_ | refine br_of_false (by assumption) ?_); conv => whnf
      | (with_reducible refine br_intro (fun _ => ?_) (fun _ => ?_)) <;> conv => whnf
      | (with_reducible refine and_rfl ?_); conv => whnf
      | (refine and_late (fun _ => ?_) (by first | omega | (show _ = _; rfl) | exact trivial | exact ⟨rfl, trivial⟩ | exact ⟨rfl, rfl, trivial⟩ | exact (fun h => by cases h) | exact (fun _ => ⟨rfl, rfl⟩) | exact Nat.le_of_ble_eq_true rfl | (simp only [List.length_map, List.length_append, pbytes, Nat.mul_one, List.length_cons, List.length_nil]; first | done | omega))); conv => whnf
      | (with_reducible refine and_late (fun _ => ?_) ?_); conv => whnf
      | (with_reducible refine vcall_id ?_)
        first
        | (refine vcall_inl rfl rfl rfl rfl (Nat.le_of_ble_eq_true rfl) ?_)
      | (with_reducible refine Both.mk ?_ ?_) <;> conv => whnf
      | (refine ⟨[], _, _, rfl, ?_⟩); conv => whnf
      | (refine ⟨_, rfl, ?_⟩); conv => whnf
      | (refine ⟨_, unbytes_pbytes _, ?_⟩); conv => whnf
      | exact ⟨_, _, rfl, rfl⟩
      | exact rensG_pu _ _ _ _
      | rfl
      | (rw [snap_own rfl (show (pbytes _).length = _ * 1 from by rw [pbytes_length, Nat.mul_one])]); conv => whnf
      | fail
    rw [hd']
    conv => whnf
    repeat' first
      | (with_reducible first | refine bo_run ?_ | refine bw_run ?_ | refine bd_run ?_ | refine Br.tt ?_ | refine Br.ff ?_); conv => whnf
      | (with_reducible refine br_not ?_)
      | (with_reducible first | refine br_dec_tt (by assumption) ?_ | refine br_dec_ff (by assumption) ?_ | refine br_dec_tt (by decide) ?_ | refine br_dec_ff (by decide) ?_); conv => whnf
      | (with_reducible refine br_dec_intro (fun _ => ?_) (fun _ => ?_)) <;> conv => whnf
      | (with_reducible first | refine br_beq_tt (by assumption) ?_ | refine br_beq_ff (by assumption) ?_ | refine br_beq_tt (by decide) ?_ | refine br_beq_ff (by decide) ?_); conv => whnf
      | (with_reducible refine br_beq_intro (fun _ => ?_) (fun _ => ?_)) <;> conv => whnf
      | (with_reducible first | refine br_bne_tt (by assumption) ?_ | refine br_bne_ff (by assumption) ?_ | refine br_bne_tt (by decide) ?_ | refine br_bne_ff (by decide) ?_); conv => whnf
      | (with_reducible refine br_bne_intro (fun _ => ?_) (fun _ => ?_)) <;> conv => whnf
      | (with_reducible first | refine br_of_true (by assumption) ?_ | refine br_of_false (by assumption) ?_); conv => whnf
      | (with_reducible refine br_intro (fun _ => ?_) (fun _ => ?_)) <;> conv => whnf
      | (with_reducible refine and_rfl ?_); conv => whnf
      | (refine and_late (fun _ => ?_) (by first | omega | (show _ = _; rfl) | exact trivial | exact ⟨rfl, trivial⟩ | exact ⟨rfl, rfl, trivial⟩ | exact (fun h => by cases h) | exact (fun _ => ⟨rfl, rfl⟩) | exact Nat.le_of_ble_eq_true rfl | (simp only [List.length_map, List.length_append, pbytes, Nat.mul_one, List.length_cons, List.length_nil]; first | done | omega))); conv => whnf
      | (with_reducible refine and_late (fun _ => ?_) ?_); conv => whnf
      | (with_reducible refine vcall_id ?_)
        first
        | (refine vcall_inl rfl rfl rfl rfl (Nat.le_of_ble_eq_true rfl) ?_)
      | (with_reducible refine Both.mk ?_ ?_) <;> conv => whnf
      | (refine ⟨[], _, _, rfl, ?_⟩); conv => whnf
      | (refine ⟨_, rfl, ?_⟩); conv => whnf
      | (refine ⟨_, unbytes_pbytes _, ?_⟩); conv => whnf
      | exact ⟨_, _, rfl, rfl⟩
      | exact rensG_pu _ _ _ _
      | rfl
      | (rw [snap_own rfl (show (pbytes _).length = _ * 1 from by rw [pbytes_length, Nat.mul_one])]); conv => whnf
      | fail
    · rename_i q
      rw [if_neg q] at h2
      subst h2
      rfl
    · rename_i q
      rw [if_pos q] at h2
      refine ⟨_, ?_, j + 1, ⟨by omega, h2⟩, rfl, by rw [i64_in _ (by omega)]; rfl, rfl⟩
      omega
  · have g : ¬ (j : Int) < (xs.length : Int) := by omega
    repeat' first
      | (with_reducible first | refine bo_run ?_ | refine bw_run ?_ | refine bd_run ?_ | refine Br.tt ?_ | refine Br.ff ?_); conv => whnf
      | (with_reducible refine br_not ?_)
      | (with_reducible first | refine br_dec_tt (by assumption) ?_ | refine br_dec_ff (by assumption) ?_ | refine br_dec_tt (by decide) ?_ | refine br_dec_ff (by decide) ?_); conv => whnf
      | (with_reducible refine br_dec_intro (fun _ => ?_) (fun _ => ?_)) <;> conv => whnf
      | (with_reducible first | refine br_beq_tt (by assumption) ?_ | refine br_beq_ff (by assumption) ?_ | refine br_beq_tt (by decide) ?_ | refine br_beq_ff (by decide) ?_); conv => whnf
      | (with_reducible refine br_beq_intro (fun _ => ?_) (fun _ => ?_)) <;> conv => whnf
      | (with_reducible first | refine br_bne_tt (by assumption) ?_ | refine br_bne_ff (by assumption) ?_ | refine br_bne_tt (by decide) ?_ | refine br_bne_ff (by decide) ?_); conv => whnf
      | (with_reducible refine br_bne_intro (fun _ => ?_) (fun _ => ?_)) <;> conv => whnf
      | (with_reducible first | refine br_of_true (by assumption) ?_ | refine br_of_false (by assumption) ?_); conv => whnf
      | (with_reducible refine br_intro (fun _ => ?_) (fun _ => ?_)) <;> conv => whnf
      | (with_reducible refine and_rfl ?_); conv => whnf
      | (refine and_late (fun _ => ?_) (by first | omega | (show _ = _; rfl) | exact trivial | exact ⟨rfl, trivial⟩ | exact ⟨rfl, rfl, trivial⟩ | exact (fun h => by cases h) | exact (fun _ => ⟨rfl, rfl⟩) | exact Nat.le_of_ble_eq_true rfl | (simp only [List.length_map, List.length_append, pbytes, Nat.mul_one, List.length_cons, List.length_nil]; first | done | omega))); conv => whnf
      | (with_reducible refine and_late (fun _ => ?_) ?_); conv => whnf
      | (with_reducible refine vcall_id ?_)
        first
        | (refine vcall_inl rfl rfl rfl rfl (Nat.le_of_ble_eq_true rfl) ?_)
      | (with_reducible refine Both.mk ?_ ?_) <;> conv => whnf
      | (refine ⟨[], _, _, rfl, ?_⟩); conv => whnf
      | (refine ⟨_, rfl, ?_⟩); conv => whnf
      | (refine ⟨_, unbytes_pbytes _, ?_⟩); conv => whnf
      | exact ⟨_, _, rfl, rfl⟩
      | exact rensG_pu _ _ _ _
      | rfl
      | (rw [snap_own rfl (show (pbytes _).length = _ * 1 from by rw [pbytes_length, Nat.mul_one])]); conv => whnf
      | fail
    rw [List.drop_of_length_le (by omega), orI] at h2
    subst h2
    rfl
def cmpB : List Int → List Int → Int
  | [], [] => 0
  | [], _ :: _ => -1
  | _ :: _, [] => 1
  | a :: u, b :: v => if a < b then -1 else if b < a then 1 else cmpB u v
def cmpS (s t : ByteArray) : Int := cmpB (bytesOf s) (bytesOf t)
theorem compareBytes_cmp : ∀ (l m : List UInt8), Lib.compareBytes l m = cmpB (l.map fun b => (b.toNat : Int)) (m.map fun b => (b.toNat : Int))
  | [], [] => rfl
  | [], _ :: _ => rfl
  | _ :: _, [] => rfl
  | a :: u, b :: v => by
    show (if a < b then -1 else if b < a then 1 else Lib.compareBytes u v) = _
    rw [List.map_cons, List.map_cons, cmpB, compareBytes_cmp u v]
    have e1 : a < b ↔ (a.toNat : Int) < b.toNat := by rw [UInt8.lt_iff_toNat_lt]; omega
    have e2 : b < a ↔ (b.toNat : Int) < a.toNat := by rw [UInt8.lt_iff_toNat_lt]; omega
    simp only [e1, e2]
theorem x_bytealg_cmpstring : XContract Try.prog id_bytealg_abigen_runtime_cmpstring (RelP (fun ((s, t) : ByteArray × ByteArray) => True) (fun (s, t) => [str s, str t]) fun (s, t) => i64 (cmpS s t)) := by
  intro w objs β Z vs ars K hS hR hK
  obtain ⟨rfl, ⟨s, t⟩, -, rfl, k⟩ := hK
  simp only [List.map, RepAs, RepA] at hR
  obtain ⟨u, _, rfl, _, h1, v, _, rfl, _, h2, rfl⟩ := hR
  simp only [RepP] at h1 h2
  subst h1 h2
  refine ⟨.int .i64 (cmpS s t), w, β, .pu (i64 (cmpS s t)), [], ?_, Step.refl _ _, hS, rfl, k⟩
  rw [run_callFunc_extern Try.func150 (by kernel_rfl) (by kernel_rfl) (by kernel_rfl) (e := Extern.BytealgCompare.compare) (by kernel_rfl)]
  show (Sem.run Try.prog (Extern.BytealgCompare.compare #[.string s, .string t]) w).andThen _ = _
  rw [Lib.run_compareString, compareBytes_cmp]
  rfl
theorem con_bytealg_CompareString : Contract Try.prog id_bytealg_CompareString (RelP (fun ((s, t) : ByteArray × ByteArray) => True) (fun (s, t) => [str s, str t]) fun (s, t) => i64 (cmpS s t)) := by
  refine (code_bytealg_CompareString).pure (Known.consX x_bytealg_cmpstring Known.nil) (by rintro x -; first | exact Nat.le_of_ble_eq_true rfl | (obtain ⟨_, _⟩ := x; exact Nat.le_of_ble_eq_true rfl) | (obtain ⟨_, _, _⟩ := x; exact Nat.le_of_ble_eq_true rfl) | (obtain ⟨_, _, _, _⟩ := x; exact Nat.le_of_ble_eq_true rfl) | (obtain ⟨_, _, _, _, _⟩ := x; exact Nat.le_of_ble_eq_true rfl) | (obtain ⟨_, _, _, _, _, _⟩ := x; exact Nat.le_of_ble_eq_true rfl) | (obtain ⟨_, _, _, _, _, _, _⟩ := x; exact Nat.le_of_ble_eq_true rfl) | (obtain ⟨_, _, _, _, _, _, _, _⟩ := x; exact Nat.le_of_ble_eq_true rfl)) ?_
  rintro ⟨s, t⟩ -
  dsimp only
  repeat' first
    | (with_reducible first | refine bo_run ?_ | refine bw_run ?_ | refine bd_run ?_ | refine Br.tt ?_ | refine Br.ff ?_); conv => whnf
    | (with_reducible refine br_not ?_)
    | (with_reducible first | refine br_dec_tt (by assumption) ?_ | refine br_dec_ff (by assumption) ?_ | refine br_dec_tt (by decide) ?_ | refine br_dec_ff (by decide) ?_); conv => whnf
    | (with_reducible refine br_dec_intro (fun _ => ?_) (fun _ => ?_)) <;> conv => whnf
    | (with_reducible first | refine br_beq_tt (by assumption) ?_ | refine br_beq_ff (by assumption) ?_ | refine br_beq_tt (by decide) ?_ | refine br_beq_ff (by decide) ?_); conv => whnf
    | (with_reducible refine br_beq_intro (fun _ => ?_) (fun _ => ?_)) <;> conv => whnf
    | (with_reducible first | refine br_bne_tt (by assumption) ?_ | refine br_bne_ff (by assumption) ?_ | refine br_bne_tt (by decide) ?_ | refine br_bne_ff (by decide) ?_); conv => whnf
    | (with_reducible refine br_bne_intro (fun _ => ?_) (fun _ => ?_)) <;> conv => whnf
    | (with_reducible first | refine br_of_true (by assumption) ?_ | refine br_of_false (by assumption) ?_); conv => whnf
    | (with_reducible refine br_intro (fun _ => ?_) (fun _ => ?_)) <;> conv => whnf
    | (with_reducible refine and_rfl ?_); conv => whnf
    | (refine and_late (fun _ => ?_) (by first | omega | (show _ = _; rfl) | exact trivial | exact ⟨rfl, trivial⟩ | exact ⟨rfl, rfl, trivial⟩ | exact (fun h => by cases h) | exact (fun _ => ⟨rfl, rfl⟩) | exact Nat.le_of_ble_eq_true rfl | (simp only [List.length_map, List.length_append, pbytes, Nat.mul_one, List.length_cons, List.length_nil]; first | done | omega))); conv => whnf
    | (with_reducible refine and_late (fun _ => ?_) ?_); conv => whnf
    | (with_reducible refine vcall_id ?_)
      first
      | (refine vcall_inl rfl rfl rfl rfl (Nat.le_of_ble_eq_true rfl) ?_)
    | (with_reducible refine Both.mk ?_ ?_) <;> conv => whnf
    | (refine ⟨[], _, _, rfl, ?_⟩); conv => whnf
    | (refine ⟨_, rfl, ?_⟩); conv => whnf
    | (refine ⟨_, unbytes_pbytes _, ?_⟩); conv => whnf
    | exact ⟨_, _, rfl, rfl⟩
    | exact rensG_pu _ _ _ _
    | rfl
    | (rw [snap_own rfl (show (pbytes _).length = _ * 1 from by rw [pbytes_length, Nat.mul_one])]); conv => whnf
    | fail
  refine call_rel (x := (s, t)) rfl trivial rfl (.inl rfl) ?_
  conv => whnf
  repeat' first
    | (with_reducible first | refine bo_run ?_ | refine bw_run ?_ | refine bd_run ?_ | refine Br.tt ?_ | refine Br.ff ?_); conv => whnf
    | (with_reducible refine br_not ?_)
    | (with_reducible first | refine br_dec_tt (by assumption) ?_ | refine br_dec_ff (by assumption) ?_ | refine br_dec_tt (by decide) ?_ | refine br_dec_ff (by decide) ?_); conv => whnf
    | (with_reducible refine br_dec_intro (fun _ => ?_) (fun _ => ?_)) <;> conv => whnf
    | (with_reducible first | refine br_beq_tt (by assumption) ?_ | refine br_beq_ff (by assumption) ?_ | refine br_beq_tt (by decide) ?_ | refine br_beq_ff (by decide) ?_); conv => whnf
    | (with_reducible refine br_beq_intro (fun _ => ?_) (fun _ => ?_)) <;> conv => whnf
    | (with_reducible first | refine br_bne_tt (by assumption) ?_ | refine br_bne_ff (by assumption) ?_ | refine br_bne_tt (by decide) ?_ | refine br_bne_ff (by decide) ?_); conv => whnf
    | (with_reducible refine br_bne_intro (fun _ => ?_) (fun _ => ?_)) <;> conv => whnf
    | (with_reducible first | refine br_of_true (by assumption) ?_ | refine br_of_false (by assumption) ?_); conv => whnf
    | (with_reducible refine br_intro (fun _ => ?_) (fun _ => ?_)) <;> conv => whnf
    | (with_reducible refine and_rfl ?_); conv => whnf
    | (refine and_late (fun _ => ?_) (by first | omega | (show _ = _; rfl) | exact trivial | exact ⟨rfl, trivial⟩ | exact ⟨rfl, rfl, trivial⟩ | exact (fun h => by cases h) | exact (fun _ => ⟨rfl, rfl⟩) | exact Nat.le_of_ble_eq_true rfl | (simp only [List.length_map, List.length_append, pbytes, Nat.mul_one, List.length_cons, List.length_nil]; first | done | omega))); conv => whnf
    | (with_reducible refine and_late (fun _ => ?_) ?_); conv => whnf
    | (with_reducible refine vcall_id ?_)
      first
      | (refine vcall_inl rfl rfl rfl rfl (Nat.le_of_ble_eq_true rfl) ?_)
    | (with_reducible refine Both.mk ?_ ?_) <;> conv => whnf
    | (refine ⟨[], _, _, rfl, ?_⟩); conv => whnf
    | (refine ⟨_, rfl, ?_⟩); conv => whnf
    | (refine ⟨_, unbytes_pbytes _, ?_⟩); conv => whnf
    | exact ⟨_, _, rfl, rfl⟩
    | exact rensG_pu _ _ _ _
    | rfl
    | (rw [snap_own rfl (show (pbytes _).length = _ * 1 from by rw [pbytes_length, Nat.mul_one])]); conv => whnf
    | fail
theorem con_strings_Compare : Contract Try.prog id_strings_Compare (RelP (fun ((s, t) : ByteArray × ByteArray) => True) (fun (s, t) => [str s, str t]) fun (s, t) => i64 (cmpS s t)) := by
  refine (code_strings_Compare).pure (Known.cons con_bytealg_CompareString Known.nil) (by rintro x -; first | exact Nat.le_of_ble_eq_true rfl | (obtain ⟨_, _⟩ := x; exact Nat.le_of_ble_eq_true rfl) | (obtain ⟨_, _, _⟩ := x; exact Nat.le_of_ble_eq_true rfl) | (obtain ⟨_, _, _, _⟩ := x; exact Nat.le_of_ble_eq_true rfl) | (obtain ⟨_, _, _, _, _⟩ := x; exact Nat.le_of_ble_eq_true rfl) | (obtain ⟨_, _, _, _, _, _⟩ := x; exact Nat.le_of_ble_eq_true rfl) | (obtain ⟨_, _, _, _, _, _, _⟩ := x; exact Nat.le_of_ble_eq_true rfl) | (obtain ⟨_, _, _, _, _, _, _, _⟩ := x; exact Nat.le_of_ble_eq_true rfl)) ?_
  rintro ⟨s, t⟩ -
  dsimp only
  repeat' first
    | (with_reducible first | refine bo_run ?_ | refine bw_run ?_ | refine bd_run ?_ | refine Br.tt ?_ | refine Br.ff ?_); conv => whnf
    | (with_reducible refine br_not ?_)
    | (with_reducible first | refine br_dec_tt (by assumption) ?_ | refine br_dec_ff (by assumption) ?_ | refine br_dec_tt (by decide) ?_ | refine br_dec_ff (by decide) ?_); conv => whnf
    | (with_reducible refine br_dec_intro (fun _ => ?_) (fun _ => ?_)) <;> conv => whnf
    | (with_reducible first | refine br_beq_tt (by assumption) ?_ | refine br_beq_ff (by assumption) ?_ | refine br_beq_tt (by decide) ?_ | refine br_beq_ff (by decide) ?_); conv => whnf
    | (with_reducible refine br_beq_intro (fun _ => ?_) (fun _ => ?_)) <;> conv => whnf
    | (with_reducible first | refine br_bne_tt (by assumption) ?_ | refine br_bne_ff (by assumption) ?_ | refine br_bne_tt (by decide) ?_ | refine br_bne_ff (by decide) ?_); conv => whnf
    | (with_reducible refine br_bne_intro (fun _ => ?_) (fun _ => ?_)) <;> conv => whnf
    | (with_reducible first | refine br_of_true (by assumption) ?_ | refine br_of_false (by assumption) ?_); conv => whnf
    | (with_reducible refine br_intro (fun _ => ?_) (fun _ => ?_)) <;> conv => whnf
    | (with_reducible refine and_rfl ?_); conv => whnf
    | (refine and_late (fun _ => ?_) (by first | omega | (show _ = _; rfl) | exact trivial | exact ⟨rfl, trivial⟩ | exact ⟨rfl, rfl, trivial⟩ | exact (fun h => by cases h) | exact (fun _ => ⟨rfl, rfl⟩) | exact Nat.le_of_ble_eq_true rfl | (simp only [List.length_map, List.length_append, pbytes, Nat.mul_one, List.length_cons, List.length_nil]; first | done | omega))); conv => whnf
    | (with_reducible refine and_late (fun _ => ?_) ?_); conv => whnf
    | (with_reducible refine vcall_id ?_)
      first
      | (refine vcall_inl rfl rfl rfl rfl (Nat.le_of_ble_eq_true rfl) ?_)
    | (with_reducible refine Both.mk ?_ ?_) <;> conv => whnf
    | (refine ⟨[], _, _, rfl, ?_⟩); conv => whnf
    | (refine ⟨_, rfl, ?_⟩); conv => whnf
    | (refine ⟨_, unbytes_pbytes _, ?_⟩); conv => whnf
    | exact ⟨_, _, rfl, rfl⟩
    | exact rensG_pu _ _ _ _
    | rfl
    | (rw [snap_own rfl (show (pbytes _).length = _ * 1 from by rw [pbytes_length, Nat.mul_one])]); conv => whnf
    | fail
  refine call_rel (x := (s, t)) rfl trivial rfl (.inl rfl) ?_
  conv => whnf
  repeat' first
    | (with_reducible first | refine bo_run ?_ | refine bw_run ?_ | refine bd_run ?_ | refine Br.tt ?_ | refine Br.ff ?_); conv => whnf
    | (with_reducible refine br_not ?_)
    | (with_reducible first | refine br_dec_tt (by assumption) ?_ | refine br_dec_ff (by assumption) ?_ | refine br_dec_tt (by decide) ?_ | refine br_dec_ff (by decide) ?_); conv => whnf
    | (with_reducible refine br_dec_intro (fun _ => ?_) (fun _ => ?_)) <;> conv => whnf
    | (with_reducible first | refine br_beq_tt (by assumption) ?_ | refine br_beq_ff (by assumption) ?_ | refine br_beq_tt (by decide) ?_ | refine br_beq_ff (by decide) ?_); conv => whnf
    | (with_reducible refine br_beq_intro (fun _ => ?_) (fun _ => ?_)) <;> conv => whnf
    | (with_reducible first | refine br_bne_tt (by assumption) ?_ | refine br_bne_ff (by assumption) ?_ | refine br_bne_tt (by decide) ?_ | refine br_bne_ff (by decide) ?_); conv => whnf
    | (with_reducible refine br_bne_intro (fun _ => ?_) (fun _ => ?_)) <;> conv => whnf
    | (with_reducible first | refine br_of_true (by assumption) ?_ | refine br_of_false (by assumption) ?_); conv => whnf
    | (with_reducible refine br_intro (fun _ => ?_) (fun _ => ?_)) <;> conv => whnf
    | (with_reducible refine and_rfl ?_); conv => whnf
    | (refine and_late (fun _ => ?_) (by first | omega | (show _ = _; rfl) | exact trivial | exact ⟨rfl, trivial⟩ | exact ⟨rfl, rfl, trivial⟩ | exact (fun h => by cases h) | exact (fun _ => ⟨rfl, rfl⟩) | exact Nat.le_of_ble_eq_true rfl | (simp only [List.length_map, List.length_append, pbytes, Nat.mul_one, List.length_cons, List.length_nil]; first | done | omega))); conv => whnf
    | (with_reducible refine and_late (fun _ => ?_) ?_); conv => whnf
    | (with_reducible refine vcall_id ?_)
      first
      | (refine vcall_inl rfl rfl rfl rfl (Nat.le_of_ble_eq_true rfl) ?_)
    | (with_reducible refine Both.mk ?_ ?_) <;> conv => whnf
    | (refine ⟨[], _, _, rfl, ?_⟩); conv => whnf
    | (refine ⟨_, rfl, ?_⟩); conv => whnf
    | (refine ⟨_, unbytes_pbytes _, ?_⟩); conv => whnf
    | exact ⟨_, _, rfl, rfl⟩
    | exact rensG_pu _ _ _ _
    | rfl
    | (rw [snap_own rfl (show (pbytes _).length = _ * 1 from by rw [pbytes_length, Nat.mul_one])]); conv => whnf
    | fail
end Go.Proofs.Ytlodbaikbgbhjaa
