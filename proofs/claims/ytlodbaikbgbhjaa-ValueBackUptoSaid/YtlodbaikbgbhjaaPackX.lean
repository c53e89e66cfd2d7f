/- usher/pack and its reference: numbers, texts, flags behind bytes. -/
import Derived.Test.YtlodbaikbgbhjaaPackW
set_option linter.unusedVariables false
set_option linter.unusedSimpArgs false
set_option maxRecDepth 20000
namespace Go.Proofs.Ytlodbaikbgbhjaa
open Go Go.Vm Go.IntWalk

abbrev SNum : Vm.Spec := RelB ty_uint8 (fun ((p, m, xs) : PV × Int × List Int) => asB p = some xs ∧ xs.length ≤ 536870912 ∧ m < 9223372036854775808) (fun (p, m, _) => [p, i64 m]) fun (_, m, xs) => xs ++ numB m.toNat
abbrev SBits : Vm.Spec := RelB ty_uint8 (fun ((p, x, xs) : PV × Nat × List Int) => asB p = some xs ∧ xs.length ≤ 536870912 ∧ x < 18446744073709551616) (fun (p, x, _) => [p, u64 x]) fun (_, x, xs) => xs ++ be 8 x
abbrev SInt : Vm.Spec := RelB ty_uint8 (fun ((p, n, xs) : PV × Int × List Int) => asB p = some xs ∧ xs.length ≤ 536870912) (fun (p, n, _) => [p, i64 n]) fun (_, n, xs) => xs ++ be 8 (tw n)
abbrev SText : Vm.Spec := RelB ty_uint8 (fun ((p, s, xs) : PV × ByteArray × List Int) => asB p = some xs ∧ xs.length ≤ 268435456 ∧ s.size ≤ 268435456) (fun (p, s, _) => [p, str s]) fun (_, s, xs) => xs ++ textB s
abbrev SFlag : Vm.Spec := RelB ty_uint8 (fun ((p, b, xs) : PV × Bool × List Int) => asB p = some xs ∧ xs.length ≤ 268435456) (fun (p, b, _) => [p, bl b]) fun (_, b, xs) => xs ++ [flagB b]

theorem con_pack_Num : Contract Try.prog id_pack_Num SNum := by
  refine (code_pack_Num).own (Known.cons con_pack_room (Known.cons con_pack_width (Known.cons con_pack_big Known.nil))) (by rintro x -; first | exact Nat.le_of_ble_eq_true rfl | (obtain ⟨_, _⟩ := x; exact Nat.le_of_ble_eq_true rfl) | (obtain ⟨_, _, _⟩ := x; exact Nat.le_of_ble_eq_true rfl) | (obtain ⟨_, _, _, _⟩ := x; exact Nat.le_of_ble_eq_true rfl) | (obtain ⟨_, _, _, _, _⟩ := x; exact Nat.le_of_ble_eq_true rfl) | (obtain ⟨_, _, _, _, _, _⟩ := x; exact Nat.le_of_ble_eq_true rfl) | (obtain ⟨_, _, _, _, _, _, _⟩ := x; exact Nat.le_of_ble_eq_true rfl) | (obtain ⟨_, _, _, _, _, _, _, _⟩ := x; exact Nat.le_of_ble_eq_true rfl)) ?_
  rintro ⟨p, m, xs⟩ ⟨ha, hx, hm⟩
  obtain ⟨k, hk⟩ : ∃ k, k = m.toNat := ⟨_, rfl⟩
  simp only [← hk]
  have e0 : (if (0 : Int) > m then 0 else m) = (k : Int) := by split <;> omega
  have e1 : IntKind.u64.wrap (if (0 : Int) > m then 0 else m) = (k : Int) := by rw [e0]; exact u64_nat _ (by omega)
  repeat' first
    | (with_reducible first | refine bo_run ?_ | refine bw_run ?_ | refine bd_run ?_ | refine Br.tt ?_ | refine Br.ff ?_); conv => whnf
    | (with_reducible refine br_not ?_)
    | (with_reducible first | refine br_dec_tt (by assumption) ?_ | refine br_dec_ff (by assumption) ?_ | refine br_dec_tt (by decide) ?_ | refine br_dec_ff (by decide) ?_); conv => whnf
    | (with_reducible refine br_dec_intro (fun _ => ?_) (fun _ => ?_)) <;> conv => whnf
    | (with_reducible first | refine br_beq_tt (by assumption) ?_ | refine br_beq_ff (by assumption) ?_ | refine br_beq_tt (by decide) ?_ | refine br_beq_ff (by decide) ?_); conv => whnf
    | (with_reducible refine br_beq_intro (fun _ => ?_) (fun _ => ?_)) <;> conv => whnf
    | (with_reducible first | refine br_bne_tt (by assumption) ?_ | refine br_bne_ff (by assumption) ?_ | refine br_bne_tt (by decide) ?_ | refine br_bne_ff (by decide) ?_); conv => whnf
    | (with_reducible refine br_bne_intro (fun _ => ?_) (fun _ => ?_)) <;> conv => whnf
    | (with_reducible first | refine br_of_true (by assumption) ?_ | refine br_of_false (by assumption) ?_); conv => whnf
    | (with_reducible refine br_intro (fun _ => ?_) (fun _ => ?_)) <;> conv => whnf
    | (with_reducible refine and_rfl ?_); conv => whnf
    | (refine and_late (fun _ => ?_) (by first | omega | (show _ = _; rfl) | exact trivial | exact ⟨rfl, trivial⟩ | exact ⟨rfl, rfl, trivial⟩ | exact (fun h => by cases h) | exact (fun _ => ⟨rfl, rfl⟩) | exact Nat.le_of_ble_eq_true rfl | (simp only [List.length_map, List.length_append, pbytes, Nat.mul_one, List.length_cons, List.length_nil]; first | done | omega))); conv => whnf
    | (with_reducible refine and_late (fun _ => ?_) ?_); conv => whnf
    | (with_reducible refine vcall_id ?_)
      first
      | (refine call_pure rfl rfl (.inl rfl) ?_); conv => whnf
      | (refine call_rel (α := Nat) (x := _) (by first | exact rfl | exact snaps1 rfl | exact snapsA rfl | exact snaps1' rfl | exact snaps2 rfl rfl) (by ((iterate 40 (try (first | assumption | apply okR_num | apply okR_text | apply okR_int | apply okR_take | apply okR_flag | apply okR_fail | exact trivial | exact asB_sl _ | rfl | omega | refine And.intro ?_ ?_ | (simp only [List.length_append, List.length_cons, List.length_nil, List.length_map, pbytes_length, Nat.mul_one]; omega)))); done)) (by first | (dsimp only; done) | (dsimp only; exact rfl) | exact rfl) (.inl rfl) ?_); conv => whnf
      | (refine call_relB (α := PV × Int × List Int) (x := (_, _, _)) (by first | exact rfl | exact snaps1 rfl | exact snapsA rfl | exact snaps1' rfl | exact snaps2 rfl rfl) (by ((iterate 40 (try (first | assumption | apply okR_num | apply okR_text | apply okR_int | apply okR_take | apply okR_flag | apply okR_fail | exact trivial | exact asB_sl _ | rfl | omega | refine And.intro ?_ ?_ | (simp only [List.length_append, List.length_cons, List.length_nil, List.length_map, pbytes_length, Nat.mul_one]; omega)))); done)) (by first | (dsimp only; done) | (dsimp only; exact rfl) | exact rfl) ?_); conv => whnf
      | (refine vcall_inl rfl rfl rfl rfl (Nat.le_of_ble_eq_true rfl) ?_)
    | (with_reducible refine Both.mk ?_ ?_) <;> conv => whnf
    | (refine ⟨[], _, _, rfl, ?_⟩); conv => whnf
    | (refine ⟨_, rfl, ?_⟩); conv => whnf
    | (refine ⟨_, unbytes_pbytes _, ?_⟩); conv => whnf
    | exact ⟨_, _, rfl, rfl⟩
    | exact rensG_pu _ _ _ _
    | rfl
    | (rw [snap_own rfl (show (pbytes _).length = _ * 1 from by rw [pbytes_length, Nat.mul_one])]); conv => whnf
    | fail
  · rename_i q _ _ _ _ _ _ _
    rw [e1] at q
    have hk240 : k < 240 := by omega
    have hn : numB k = [(k : Int)] := by rw [numB, if_pos hk240]
    refine ⟨0, 1, by simp [packRes, hn], ?_⟩
    rw [e1, u8_in _ (by omega), hn]
    simp [pbytes]
  · rename_i q
    rw [e1] at q
    have hk240 : ¬ k < 240 := by omega
    have hn : numB k = ((239 + byt k : Nat) : Int) :: be (byt k) k := by rw [numB, if_neg hk240]
    have e2 : byt (k / 256) + 1 = byt k := (byt_pos (by omega)).symm
    have hb := byt_le 8 k (by omega)
    simp only [e1]
    refine call_rel (x := k) rfl (by omega) rfl (.inl rfl) ?_
    rw [e2]
    conv => whnf
    have e4 : IntKind.u8.wrap (IntKind.i64.wrap (239 + ((byt k : Nat) : Int))) = ((239 + byt k : Nat) : Int) := by rw [i64_in _ (by omega), u8_in _ (by omega)]; omega
    repeat' first
      | (with_reducible first | refine bo_run ?_ | refine bw_run ?_ | refine bd_run ?_ | refine Br.tt ?_ | refine Br.ff ?_); conv => whnf
      | (with_reducible refine br_not ?_)
      | (with_reducible first | refine br_dec_tt (by assumption) ?_ | refine br_dec_ff (by assumption) ?_ | refine br_dec_tt (by decide) ?_ | refine br_dec_ff (by decide) ?_); conv => whnf
      | (with_reducible refine br_dec_intro (fun _ => ?_) (fun _ => ?_)) <;> conv => whnf
      | (with_reducible first | refine br_beq_tt (by assumption) ?_ | refine br_beq_ff (by assumption) ?_ | refine br_beq_tt (by decide) ?_ | refine br_beq_ff (by decide) ?_); conv => whnf
      | (with_reducible refine br_beq_intro (fun _ => ?_) (fun _ => ?_)) <;> conv => whnf
      | (with_reducible first | refine br_bne_tt (by assumption) ?_ | refine br_bne_ff (by assumption) ?_ | refine br_bne_tt (by decide) ?_ | refine br_bne_ff (by decide) ?_); conv => whnf
      | (with_reducible refine br_bne_intro (fun _ => ?_) (fun _ => ?_)) <;> conv => whnf
      | (with_reducible first | refine br_of_true (by assumption) ?_ | refine br_of_false (by assumption) ?_); conv => whnf
      | (with_reducible refine br_intro (fun _ => ?_) (fun _ => ?_)) <;> conv => whnf
      | (with_reducible refine and_rfl ?_); conv => whnf
      | (refine and_late (fun _ => ?_) (by first | omega | (show _ = _; rfl) | exact trivial | exact ⟨rfl, trivial⟩ | exact ⟨rfl, rfl, trivial⟩ | exact (fun h => by cases h) | exact (fun _ => ⟨rfl, rfl⟩) | exact Nat.le_of_ble_eq_true rfl | (simp only [List.length_map, List.length_append, pbytes, Nat.mul_one, List.length_cons, List.length_nil]; first | done | omega))); conv => whnf
      | (with_reducible refine and_late (fun _ => ?_) ?_); conv => whnf
      | (with_reducible refine vcall_id ?_)
        first
        | (refine call_pure rfl rfl (.inl rfl) ?_); conv => whnf
        | (refine call_rel (α := Nat) (x := _) (by first | exact rfl | exact snaps1 rfl | exact snapsA rfl | exact snaps1' rfl | exact snaps2 rfl rfl) (by ((iterate 40 (try (first | assumption | apply okR_num | apply okR_text | apply okR_int | apply okR_take | apply okR_flag | apply okR_fail | exact trivial | exact asB_sl _ | rfl | omega | refine And.intro ?_ ?_ | (simp only [List.length_append, List.length_cons, List.length_nil, List.length_map, pbytes_length, Nat.mul_one]; omega)))); done)) (by first | (dsimp only; done) | (dsimp only; exact rfl) | exact rfl) (.inl rfl) ?_); conv => whnf
        | (refine call_relB (α := PV × Int × List Int) (x := (_, _, _)) (by first | exact rfl | exact snaps1 rfl | exact snapsA rfl | exact snaps1' rfl | exact snaps2 rfl rfl) (by ((iterate 40 (try (first | assumption | apply okR_num | apply okR_text | apply okR_int | apply okR_take | apply okR_flag | apply okR_fail | exact trivial | exact asB_sl _ | rfl | omega | refine And.intro ?_ ?_ | (simp only [List.length_append, List.length_cons, List.length_nil, List.length_map, pbytes_length, Nat.mul_one]; omega)))); done)) (by first | (dsimp only; done) | (dsimp only; exact rfl) | exact rfl) ?_); conv => whnf
        | (refine vcall_inl rfl rfl rfl rfl (Nat.le_of_ble_eq_true rfl) ?_)
      | (with_reducible refine Both.mk ?_ ?_) <;> conv => whnf
      | (refine ⟨[], _, _, rfl, ?_⟩); conv => whnf
      | (refine ⟨_, rfl, ?_⟩); conv => whnf
      | (refine ⟨_, unbytes_pbytes _, ?_⟩); conv => whnf
      | exact ⟨_, _, rfl, rfl⟩
      | exact rensG_pu _ _ _ _
      | rfl
      | (rw [snap_own rfl (show (pbytes _).length = _ * 1 from by rw [pbytes_length, Nat.mul_one])]); conv => whnf
      | fail
    simp only [e4]
    refine call_append (cs := pbytes (xs ++ [((239 + byt k : Nat) : Int)])) (ps := [_, _]) (by simp [pbytes]) (by simp [pbytes]) rfl (F71_eq (by omega) hb (by simp [pbytes]; omega)) ?_
    conv => whnf
    repeat' first
      | (with_reducible first | refine bo_run ?_ | refine bw_run ?_ | refine bd_run ?_ | refine Br.tt ?_ | refine Br.ff ?_); conv => whnf
      | (with_reducible refine br_not ?_)
      | (with_reducible first | refine br_dec_tt (by assumption) ?_ | refine br_dec_ff (by assumption) ?_ | refine br_dec_tt (by decide) ?_ | refine br_dec_ff (by decide) ?_); conv => whnf
      | (with_reducible refine br_dec_intro (fun _ => ?_) (fun _ => ?_)) <;> conv => whnf
      | (with_reducible first | refine br_beq_tt (by assumption) ?_ | refine br_beq_ff (by assumption) ?_ | refine br_beq_tt (by decide) ?_ | refine br_beq_ff (by decide) ?_); conv => whnf
      | (with_reducible refine br_beq_intro (fun _ => ?_) (fun _ => ?_)) <;> conv => whnf
      | (with_reducible first | refine br_bne_tt (by assumption) ?_ | refine br_bne_ff (by assumption) ?_ | refine br_bne_tt (by decide) ?_ | refine br_bne_ff (by decide) ?_); conv => whnf
      | (with_reducible refine br_bne_intro (fun _ => ?_) (fun _ => ?_)) <;> conv => whnf
      | (with_reducible first | refine br_of_true (by assumption) ?_ | refine br_of_false (by assumption) ?_); conv => whnf
      | (with_reducible refine br_intro (fun _ => ?_) (fun _ => ?_)) <;> conv => whnf
      | (with_reducible refine and_rfl ?_); conv => whnf
      | (refine and_late (fun _ => ?_) (by first | omega | (show _ = _; rfl) | exact trivial | exact ⟨rfl, trivial⟩ | exact ⟨rfl, rfl, trivial⟩ | exact (fun h => by cases h) | exact (fun _ => ⟨rfl, rfl⟩) | exact Nat.le_of_ble_eq_true rfl | (simp only [List.length_map, List.length_append, pbytes, Nat.mul_one, List.length_cons, List.length_nil]; first | done | omega))); conv => whnf
      | (with_reducible refine and_late (fun _ => ?_) ?_); conv => whnf
      | (with_reducible refine vcall_id ?_)
        first
        | (refine call_pure rfl rfl (.inl rfl) ?_); conv => whnf
        | (refine call_rel (α := Nat) (x := _) (by first | exact rfl | exact snaps1 rfl | exact snapsA rfl | exact snaps1' rfl | exact snaps2 rfl rfl) (by ((iterate 40 (try (first | assumption | apply okR_num | apply okR_text | apply okR_int | apply okR_take | apply okR_flag | apply okR_fail | exact trivial | exact asB_sl _ | rfl | omega | refine And.intro ?_ ?_ | (simp only [List.length_append, List.length_cons, List.length_nil, List.length_map, pbytes_length, Nat.mul_one]; omega)))); done)) (by first | (dsimp only; done) | (dsimp only; exact rfl) | exact rfl) (.inl rfl) ?_); conv => whnf
        | (refine call_relB (α := PV × Int × List Int) (x := (_, _, _)) (by first | exact rfl | exact snaps1 rfl | exact snapsA rfl | exact snaps1' rfl | exact snaps2 rfl rfl) (by ((iterate 40 (try (first | assumption | apply okR_num | apply okR_text | apply okR_int | apply okR_take | apply okR_flag | apply okR_fail | exact trivial | exact asB_sl _ | rfl | omega | refine And.intro ?_ ?_ | (simp only [List.length_append, List.length_cons, List.length_nil, List.length_map, pbytes_length, Nat.mul_one]; omega)))); done)) (by first | (dsimp only; done) | (dsimp only; exact rfl) | exact rfl) ?_); conv => whnf
        | (refine vcall_inl rfl rfl rfl rfl (Nat.le_of_ble_eq_true rfl) ?_)
      | (with_reducible refine Both.mk ?_ ?_) <;> conv => whnf
      | (refine ⟨[], _, _, rfl, ?_⟩); conv => whnf
      | (refine ⟨_, rfl, ?_⟩); conv => whnf
      | (refine ⟨_, unbytes_pbytes _, ?_⟩); conv => whnf
      | exact ⟨_, _, rfl, rfl⟩
      | exact rensG_pu _ _ _ _
      | rfl
      | (rw [snap_own rfl (show (pbytes _).length = _ * 1 from by rw [pbytes_length, Nat.mul_one])]); conv => whnf
      | fail
    refine ⟨0, 0 + 1 + byt k, ?_, by simp [hn, pbytes]⟩
    simp [packRes, hn, pbytes, be_length]
    omega
theorem con_ref02_Num : Contract Try.prog id_ref02_Num SNum := by
  refine (code_ref02_Num).own (Known.cons con_ref02_copied (Known.cons con_ref02_bytes (Known.cons con_ref02_high Known.nil))) (by rintro x -; first | exact Nat.le_of_ble_eq_true rfl | (obtain ⟨_, _⟩ := x; exact Nat.le_of_ble_eq_true rfl) | (obtain ⟨_, _, _⟩ := x; exact Nat.le_of_ble_eq_true rfl) | (obtain ⟨_, _, _, _⟩ := x; exact Nat.le_of_ble_eq_true rfl) | (obtain ⟨_, _, _, _, _⟩ := x; exact Nat.le_of_ble_eq_true rfl) | (obtain ⟨_, _, _, _, _, _⟩ := x; exact Nat.le_of_ble_eq_true rfl) | (obtain ⟨_, _, _, _, _, _, _⟩ := x; exact Nat.le_of_ble_eq_true rfl) | (obtain ⟨_, _, _, _, _, _, _, _⟩ := x; exact Nat.le_of_ble_eq_true rfl)) ?_
  rintro ⟨p, m, xs⟩ ⟨ha, hx, hm⟩
  have small : ∀ k : Nat, k < 240 → numB k = [(k : Int)] := fun k h => by rw [numB, if_pos h]
  repeat' first
    | (with_reducible first | refine bo_run ?_ | refine bw_run ?_ | refine bd_run ?_ | refine Br.tt ?_ | refine Br.ff ?_); conv => whnf
    | (with_reducible refine br_not ?_)
    | (with_reducible first | refine br_dec_tt (by assumption) ?_ | refine br_dec_ff (by assumption) ?_ | refine br_dec_tt (by decide) ?_ | refine br_dec_ff (by decide) ?_); conv => whnf
    | (with_reducible refine br_dec_intro (fun _ => ?_) (fun _ => ?_)) <;> conv => whnf
    | (with_reducible first | refine br_beq_tt (by assumption) ?_ | refine br_beq_ff (by assumption) ?_ | refine br_beq_tt (by decide) ?_ | refine br_beq_ff (by decide) ?_); conv => whnf
    | (with_reducible refine br_beq_intro (fun _ => ?_) (fun _ => ?_)) <;> conv => whnf
    | (with_reducible first | refine br_bne_tt (by assumption) ?_ | refine br_bne_ff (by assumption) ?_ | refine br_bne_tt (by decide) ?_ | refine br_bne_ff (by decide) ?_); conv => whnf
    | (with_reducible refine br_bne_intro (fun _ => ?_) (fun _ => ?_)) <;> conv => whnf
    | (with_reducible first | refine br_of_true (by assumption) ?_ | refine br_of_false (by assumption) ?_); conv => whnf
    | (with_reducible refine br_intro (fun _ => ?_) (fun _ => ?_)) <;> conv => whnf
    | (with_reducible refine and_rfl ?_); conv => whnf
    | (refine and_late (fun _ => ?_) (by first | omega | (show _ = _; rfl) | exact trivial | exact ⟨rfl, trivial⟩ | exact ⟨rfl, rfl, trivial⟩ | exact (fun h => by cases h) | exact (fun _ => ⟨rfl, rfl⟩) | exact Nat.le_of_ble_eq_true rfl | (simp only [List.length_map, List.length_append, pbytes, Nat.mul_one, List.length_cons, List.length_nil]; first | done | omega))); conv => whnf
    | (with_reducible refine and_late (fun _ => ?_) ?_); conv => whnf
    | (with_reducible refine vcall_id ?_)
      first
      | (refine call_pure rfl rfl (.inl rfl) ?_); conv => whnf
      | (refine call_rel (α := Int) (x := _) (by first | exact rfl | exact snaps1 rfl | exact snapsA rfl | exact snaps1' rfl | exact snaps2 rfl rfl) (by ((iterate 40 (try (first | assumption | apply okR_num | apply okR_text | apply okR_int | apply okR_take | apply okR_flag | apply okR_fail | exact trivial | exact asB_sl _ | rfl | omega | refine And.intro ?_ ?_ | (simp only [List.length_append, List.length_cons, List.length_nil, List.length_map, pbytes_length, Nat.mul_one]; omega)))); done)) (by first | (dsimp only; done) | (dsimp only; exact rfl) | exact rfl) (.inl rfl) ?_); conv => whnf
      | (refine call_relB (α := PV × List Int) (x := (_, _)) (by first | exact rfl | exact snaps1 rfl | exact snapsA rfl | exact snaps1' rfl | exact snaps2 rfl rfl) (by ((iterate 40 (try (first | assumption | apply okR_num | apply okR_text | apply okR_int | apply okR_take | apply okR_flag | apply okR_fail | exact trivial | exact asB_sl _ | rfl | omega | refine And.intro ?_ ?_ | (simp only [List.length_append, List.length_cons, List.length_nil, List.length_map, pbytes_length, Nat.mul_one]; omega)))); done)) (by first | (dsimp only; done) | (dsimp only; exact rfl) | exact rfl) ?_); conv => whnf
      | (refine vcall_inl rfl rfl rfl rfl (Nat.le_of_ble_eq_true rfl) ?_)
    | (with_reducible refine Both.mk ?_ ?_) <;> conv => whnf
    | (refine ⟨[], _, _, rfl, ?_⟩); conv => whnf
    | (refine ⟨_, rfl, ?_⟩); conv => whnf
    | (refine ⟨_, unbytes_pbytes _, ?_⟩); conv => whnf
    | exact ⟨_, _, rfl, rfl⟩
    | exact rensG_pu _ _ _ _
    | rfl
    | (rw [snap_own rfl (show (pbytes _).length = _ * 1 from by rw [pbytes_length, Nat.mul_one])]); conv => whnf
    | fail
  · simp only [show m.toNat = 0 from by omega, small 0 (by omega)]
    exact ⟨0, 1, by simp [packRes], by simp [pbytes, IntKind.wrap, IntKind.bits, IntKind.signed]⟩
  · obtain ⟨k, rfl⟩ : ∃ k : Nat, m = (k : Int) := ⟨m.toNat, by omega⟩
    simp only [Int.toNat_natCast, small k (by omega)]
    exact ⟨0, 1, by simp [packRes], by rw [u8_in _ (by omega)]; simp [pbytes]⟩
  · obtain ⟨k, rfl⟩ : ∃ k : Nat, m = (k : Int) := ⟨m.toNat, by omega⟩
    simp only [Int.toNat_natCast]
    have hk240 : ¬ k < 240 := by omega
    have hn : numB k = ((239 + byt k : Nat) : Int) :: be (byt k) k := by rw [numB, if_neg hk240]
    have hb := byt_le 8 k (by omega)
    have e4 : IntKind.u8.wrap (IntKind.i64.wrap (239 + ((byt k : Nat) : Int))) = ((239 + byt k : Nat) : Int) := by rw [i64_in _ (by omega), u8_in _ (by omega)]; omega
    have e5 := u64_nat k (by omega)
    repeat' first
      | (with_reducible first | refine bo_run ?_ | refine bw_run ?_ | refine bd_run ?_ | refine Br.tt ?_ | refine Br.ff ?_); conv => whnf
      | (with_reducible refine br_not ?_)
      | (with_reducible first | refine br_dec_tt (by assumption) ?_ | refine br_dec_ff (by assumption) ?_ | refine br_dec_tt (by decide) ?_ | refine br_dec_ff (by decide) ?_); conv => whnf
      | (with_reducible refine br_dec_intro (fun _ => ?_) (fun _ => ?_)) <;> conv => whnf
      | (with_reducible first | refine br_beq_tt (by assumption) ?_ | refine br_beq_ff (by assumption) ?_ | refine br_beq_tt (by decide) ?_ | refine br_beq_ff (by decide) ?_); conv => whnf
      | (with_reducible refine br_beq_intro (fun _ => ?_) (fun _ => ?_)) <;> conv => whnf
      | (with_reducible first | refine br_bne_tt (by assumption) ?_ | refine br_bne_ff (by assumption) ?_ | refine br_bne_tt (by decide) ?_ | refine br_bne_ff (by decide) ?_); conv => whnf
      | (with_reducible refine br_bne_intro (fun _ => ?_) (fun _ => ?_)) <;> conv => whnf
      | (with_reducible first | refine br_of_true (by assumption) ?_ | refine br_of_false (by assumption) ?_); conv => whnf
      | (with_reducible refine br_intro (fun _ => ?_) (fun _ => ?_)) <;> conv => whnf
      | (with_reducible refine and_rfl ?_); conv => whnf
      | (refine and_late (fun _ => ?_) (by first | omega | (show _ = _; rfl) | exact trivial | exact ⟨rfl, trivial⟩ | exact ⟨rfl, rfl, trivial⟩ | exact (fun h => by cases h) | exact (fun _ => ⟨rfl, rfl⟩) | exact Nat.le_of_ble_eq_true rfl | (simp only [List.length_map, List.length_append, pbytes, Nat.mul_one, List.length_cons, List.length_nil]; first | done | omega))); conv => whnf
      | (with_reducible refine and_late (fun _ => ?_) ?_); conv => whnf
      | (with_reducible refine vcall_id ?_)
        first
        | (refine call_pure rfl rfl (.inl rfl) ?_); conv => whnf
        | (refine call_rel (α := Int) (x := _) (by first | exact rfl | exact snaps1 rfl | exact snapsA rfl | exact snaps1' rfl | exact snaps2 rfl rfl) (by ((iterate 40 (try (first | assumption | apply okR_num | apply okR_text | apply okR_int | apply okR_take | apply okR_flag | apply okR_fail | exact trivial | exact asB_sl _ | rfl | omega | refine And.intro ?_ ?_ | (simp only [List.length_append, List.length_cons, List.length_nil, List.length_map, pbytes_length, Nat.mul_one]; omega)))); done)) (by first | (dsimp only; done) | (dsimp only; exact rfl) | exact rfl) (.inl rfl) ?_); conv => whnf
        | (refine call_relB (α := PV × List Int) (x := (_, _)) (by first | exact rfl | exact snaps1 rfl | exact snapsA rfl | exact snaps1' rfl | exact snaps2 rfl rfl) (by ((iterate 40 (try (first | assumption | apply okR_num | apply okR_text | apply okR_int | apply okR_take | apply okR_flag | apply okR_fail | exact trivial | exact asB_sl _ | rfl | omega | refine And.intro ?_ ?_ | (simp only [List.length_append, List.length_cons, List.length_nil, List.length_map, pbytes_length, Nat.mul_one]; omega)))); done)) (by first | (dsimp only; done) | (dsimp only; exact rfl) | exact rfl) ?_); conv => whnf
        | (refine vcall_inl rfl rfl rfl rfl (Nat.le_of_ble_eq_true rfl) ?_)
      | (with_reducible refine Both.mk ?_ ?_) <;> conv => whnf
      | (refine ⟨[], _, _, rfl, ?_⟩); conv => whnf
      | (refine ⟨_, rfl, ?_⟩); conv => whnf
      | (refine ⟨_, unbytes_pbytes _, ?_⟩); conv => whnf
      | exact ⟨_, _, rfl, rfl⟩
      | exact rensG_pu _ _ _ _
      | rfl
      | (rw [snap_own rfl (show (pbytes _).length = _ * 1 from by rw [pbytes_length, Nat.mul_one])]); conv => whnf
      | fail
    simp only [e4, e5]
    refine call_append (cs := pbytes (xs ++ [((239 + byt k : Nat) : Int)])) (ps := [_, _]) (by simp [pbytes]) (by simp [pbytes]) rfl (F71_eq (by omega) hb (by simp [pbytes]; omega)) ?_
    conv => whnf
    repeat' first
      | (with_reducible first | refine bo_run ?_ | refine bw_run ?_ | refine bd_run ?_ | refine Br.tt ?_ | refine Br.ff ?_); conv => whnf
      | (with_reducible refine br_not ?_)
      | (with_reducible first | refine br_dec_tt (by assumption) ?_ | refine br_dec_ff (by assumption) ?_ | refine br_dec_tt (by decide) ?_ | refine br_dec_ff (by decide) ?_); conv => whnf
      | (with_reducible refine br_dec_intro (fun _ => ?_) (fun _ => ?_)) <;> conv => whnf
      | (with_reducible first | refine br_beq_tt (by assumption) ?_ | refine br_beq_ff (by assumption) ?_ | refine br_beq_tt (by decide) ?_ | refine br_beq_ff (by decide) ?_); conv => whnf
      | (with_reducible refine br_beq_intro (fun _ => ?_) (fun _ => ?_)) <;> conv => whnf
      | (with_reducible first | refine br_bne_tt (by assumption) ?_ | refine br_bne_ff (by assumption) ?_ | refine br_bne_tt (by decide) ?_ | refine br_bne_ff (by decide) ?_); conv => whnf
      | (with_reducible refine br_bne_intro (fun _ => ?_) (fun _ => ?_)) <;> conv => whnf
      | (with_reducible first | refine br_of_true (by assumption) ?_ | refine br_of_false (by assumption) ?_); conv => whnf
      | (with_reducible refine br_intro (fun _ => ?_) (fun _ => ?_)) <;> conv => whnf
      | (with_reducible refine and_rfl ?_); conv => whnf
      | (refine and_late (fun _ => ?_) (by first | omega | (show _ = _; rfl) | exact trivial | exact ⟨rfl, trivial⟩ | exact ⟨rfl, rfl, trivial⟩ | exact (fun h => by cases h) | exact (fun _ => ⟨rfl, rfl⟩) | exact Nat.le_of_ble_eq_true rfl | (simp only [List.length_map, List.length_append, pbytes, Nat.mul_one, List.length_cons, List.length_nil]; first | done | omega))); conv => whnf
      | (with_reducible refine and_late (fun _ => ?_) ?_); conv => whnf
      | (with_reducible refine vcall_id ?_)
        first
        | (refine call_pure rfl rfl (.inl rfl) ?_); conv => whnf
        | (refine call_rel (α := Int) (x := _) (by first | exact rfl | exact snaps1 rfl | exact snapsA rfl | exact snaps1' rfl | exact snaps2 rfl rfl) (by ((iterate 40 (try (first | assumption | apply okR_num | apply okR_text | apply okR_int | apply okR_take | apply okR_flag | apply okR_fail | exact trivial | exact asB_sl _ | rfl | omega | refine And.intro ?_ ?_ | (simp only [List.length_append, List.length_cons, List.length_nil, List.length_map, pbytes_length, Nat.mul_one]; omega)))); done)) (by first | (dsimp only; done) | (dsimp only; exact rfl) | exact rfl) (.inl rfl) ?_); conv => whnf
        | (refine call_relB (α := PV × List Int) (x := (_, _)) (by first | exact rfl | exact snaps1 rfl | exact snapsA rfl | exact snaps1' rfl | exact snaps2 rfl rfl) (by ((iterate 40 (try (first | assumption | apply okR_num | apply okR_text | apply okR_int | apply okR_take | apply okR_flag | apply okR_fail | exact trivial | exact asB_sl _ | rfl | omega | refine And.intro ?_ ?_ | (simp only [List.length_append, List.length_cons, List.length_nil, List.length_map, pbytes_length, Nat.mul_one]; omega)))); done)) (by first | (dsimp only; done) | (dsimp only; exact rfl) | exact rfl) ?_); conv => whnf
        | (refine vcall_inl rfl rfl rfl rfl (Nat.le_of_ble_eq_true rfl) ?_)
      | (with_reducible refine Both.mk ?_ ?_) <;> conv => whnf
      | (refine ⟨[], _, _, rfl, ?_⟩); conv => whnf
      | (refine ⟨_, rfl, ?_⟩); conv => whnf
      | (refine ⟨_, unbytes_pbytes _, ?_⟩); conv => whnf
      | exact ⟨_, _, rfl, rfl⟩
      | exact rensG_pu _ _ _ _
      | rfl
      | (rw [snap_own rfl (show (pbytes _).length = _ * 1 from by rw [pbytes_length, Nat.mul_one])]); conv => whnf
      | fail
    refine ⟨0, 0 + 1 + byt k, ?_, by simp [hn, pbytes]⟩
    simp [packRes, hn, pbytes, be_length]
    omega
theorem con_pack_Bits : Contract Try.prog id_pack_Bits SBits := by
  refine (code_pack_Bits).own (Known.cons con_pack_room (Known.cons con_pack_big Known.nil)) (by rintro x -; first | exact Nat.le_of_ble_eq_true rfl | (obtain ⟨_, _⟩ := x; exact Nat.le_of_ble_eq_true rfl) | (obtain ⟨_, _, _⟩ := x; exact Nat.le_of_ble_eq_true rfl) | (obtain ⟨_, _, _, _⟩ := x; exact Nat.le_of_ble_eq_true rfl) | (obtain ⟨_, _, _, _, _⟩ := x; exact Nat.le_of_ble_eq_true rfl) | (obtain ⟨_, _, _, _, _, _⟩ := x; exact Nat.le_of_ble_eq_true rfl) | (obtain ⟨_, _, _, _, _, _, _⟩ := x; exact Nat.le_of_ble_eq_true rfl) | (obtain ⟨_, _, _, _, _, _, _, _⟩ := x; exact Nat.le_of_ble_eq_true rfl)) ?_
  rintro ⟨p, x, xs⟩ ⟨ha, hx, hm⟩
  repeat' first
    | (with_reducible first | refine bo_run ?_ | refine bw_run ?_ | refine bd_run ?_ | refine Br.tt ?_ | refine Br.ff ?_); conv => whnf
    | (with_reducible refine br_not ?_)
    | (with_reducible first | refine br_dec_tt (by assumption) ?_ | refine br_dec_ff (by assumption) ?_ | refine br_dec_tt (by decide) ?_ | refine br_dec_ff (by decide) ?_); conv => whnf
    | (with_reducible refine br_dec_intro (fun _ => ?_) (fun _ => ?_)) <;> conv => whnf
    | (with_reducible first | refine br_beq_tt (by assumption) ?_ | refine br_beq_ff (by assumption) ?_ | refine br_beq_tt (by decide) ?_ | refine br_beq_ff (by decide) ?_); conv => whnf
    | (with_reducible refine br_beq_intro (fun _ => ?_) (fun _ => ?_)) <;> conv => whnf
    | (with_reducible first | refine br_bne_tt (by assumption) ?_ | refine br_bne_ff (by assumption) ?_ | refine br_bne_tt (by decide) ?_ | refine br_bne_ff (by decide) ?_); conv => whnf
    | (with_reducible refine br_bne_intro (fun _ => ?_) (fun _ => ?_)) <;> conv => whnf
    | (with_reducible first | refine br_of_true (by assumption) ?_ | refine br_of_false (by assumption) ?_); conv => whnf
    | (with_reducible refine br_intro (fun _ => ?_) (fun _ => ?_)) <;> conv => whnf
    | (with_reducible refine and_rfl ?_); conv => whnf
    | (refine and_late (fun _ => ?_) (by first | omega | (show _ = _; rfl) | exact trivial | exact ⟨rfl, trivial⟩ | exact ⟨rfl, rfl, trivial⟩ | exact (fun h => by cases h) | exact (fun _ => ⟨rfl, rfl⟩) | exact Nat.le_of_ble_eq_true rfl | (simp only [List.length_map, List.length_append, pbytes, Nat.mul_one, List.length_cons, List.length_nil]; first | done | omega))); conv => whnf
    | (with_reducible refine and_late (fun _ => ?_) ?_); conv => whnf
    | (with_reducible refine vcall_id ?_)
      first
      | (refine call_pure rfl rfl (.inl rfl) ?_); conv => whnf
      | (refine call_relB (α := PV × Int × List Int) (x := (_, _, _)) (by first | exact rfl | exact snaps1 rfl | exact snapsA rfl | exact snaps1' rfl | exact snaps2 rfl rfl) (by ((iterate 40 (try (first | assumption | apply okR_num | apply okR_text | apply okR_int | apply okR_take | apply okR_flag | apply okR_fail | exact trivial | exact asB_sl _ | rfl | omega | refine And.intro ?_ ?_ | (simp only [List.length_append, List.length_cons, List.length_nil, List.length_map, pbytes_length, Nat.mul_one]; omega)))); done)) (by first | (dsimp only; done) | (dsimp only; exact rfl) | exact rfl) ?_); conv => whnf
      | (refine vcall_inl rfl rfl rfl rfl (Nat.le_of_ble_eq_true rfl) ?_)
    | (with_reducible refine Both.mk ?_ ?_) <;> conv => whnf
    | (refine ⟨[], _, _, rfl, ?_⟩); conv => whnf
    | (refine ⟨_, rfl, ?_⟩); conv => whnf
    | (refine ⟨_, unbytes_pbytes _, ?_⟩); conv => whnf
    | exact ⟨_, _, rfl, rfl⟩
    | exact rensG_pu _ _ _ _
    | rfl
    | (rw [snap_own rfl (show (pbytes _).length = _ * 1 from by rw [pbytes_length, Nat.mul_one])]); conv => whnf
    | fail
  refine call_append (ps := [_, _]) rfl (by simp [pbytes]) rfl (F71_eq (k := 8) hm (by omega) (by simp [pbytes]; omega)) ?_
  conv => whnf
  repeat' first
    | (with_reducible first | refine bo_run ?_ | refine bw_run ?_ | refine bd_run ?_ | refine Br.tt ?_ | refine Br.ff ?_); conv => whnf
    | (with_reducible refine br_not ?_)
    | (with_reducible first | refine br_dec_tt (by assumption) ?_ | refine br_dec_ff (by assumption) ?_ | refine br_dec_tt (by decide) ?_ | refine br_dec_ff (by decide) ?_); conv => whnf
    | (with_reducible refine br_dec_intro (fun _ => ?_) (fun _ => ?_)) <;> conv => whnf
    | (with_reducible first | refine br_beq_tt (by assumption) ?_ | refine br_beq_ff (by assumption) ?_ | refine br_beq_tt (by decide) ?_ | refine br_beq_ff (by decide) ?_); conv => whnf
    | (with_reducible refine br_beq_intro (fun _ => ?_) (fun _ => ?_)) <;> conv => whnf
    | (with_reducible first | refine br_bne_tt (by assumption) ?_ | refine br_bne_ff (by assumption) ?_ | refine br_bne_tt (by decide) ?_ | refine br_bne_ff (by decide) ?_); conv => whnf
    | (with_reducible refine br_bne_intro (fun _ => ?_) (fun _ => ?_)) <;> conv => whnf
    | (with_reducible first | refine br_of_true (by assumption) ?_ | refine br_of_false (by assumption) ?_); conv => whnf
    | (with_reducible refine br_intro (fun _ => ?_) (fun _ => ?_)) <;> conv => whnf
    | (with_reducible refine and_rfl ?_); conv => whnf
    | (refine and_late (fun _ => ?_) (by first | omega | (show _ = _; rfl) | exact trivial | exact ⟨rfl, trivial⟩ | exact ⟨rfl, rfl, trivial⟩ | exact (fun h => by cases h) | exact (fun _ => ⟨rfl, rfl⟩) | exact Nat.le_of_ble_eq_true rfl | (simp only [List.length_map, List.length_append, pbytes, Nat.mul_one, List.length_cons, List.length_nil]; first | done | omega))); conv => whnf
    | (with_reducible refine and_late (fun _ => ?_) ?_); conv => whnf
    | (with_reducible refine vcall_id ?_)
      first
      | (refine call_pure rfl rfl (.inl rfl) ?_); conv => whnf
      | (refine call_relB (α := PV × Int × List Int) (x := (_, _, _)) (by first | exact rfl | exact snaps1 rfl | exact snapsA rfl | exact snaps1' rfl | exact snaps2 rfl rfl) (by ((iterate 40 (try (first | assumption | apply okR_num | apply okR_text | apply okR_int | apply okR_take | apply okR_flag | apply okR_fail | exact trivial | exact asB_sl _ | rfl | omega | refine And.intro ?_ ?_ | (simp only [List.length_append, List.length_cons, List.length_nil, List.length_map, pbytes_length, Nat.mul_one]; omega)))); done)) (by first | (dsimp only; done) | (dsimp only; exact rfl) | exact rfl) ?_); conv => whnf
      | (refine vcall_inl rfl rfl rfl rfl (Nat.le_of_ble_eq_true rfl) ?_)
    | (with_reducible refine Both.mk ?_ ?_) <;> conv => whnf
    | (refine ⟨[], _, _, rfl, ?_⟩); conv => whnf
    | (refine ⟨_, rfl, ?_⟩); conv => whnf
    | (refine ⟨_, unbytes_pbytes _, ?_⟩); conv => whnf
    | exact ⟨_, _, rfl, rfl⟩
    | exact rensG_pu _ _ _ _
    | rfl
    | (rw [snap_own rfl (show (pbytes _).length = _ * 1 from by rw [pbytes_length, Nat.mul_one])]); conv => whnf
    | fail
  refine ⟨0, 0 + 8, ?_, by simp [pbytes]⟩
  simp [packRes, pbytes, be_length]
theorem con_ref02_Bits : Contract Try.prog id_ref02_Bits SBits := by
  refine (code_ref02_Bits).own (Known.cons con_ref02_copied (Known.cons con_ref02_high Known.nil)) (by rintro x -; first | exact Nat.le_of_ble_eq_true rfl | (obtain ⟨_, _⟩ := x; exact Nat.le_of_ble_eq_true rfl) | (obtain ⟨_, _, _⟩ := x; exact Nat.le_of_ble_eq_true rfl) | (obtain ⟨_, _, _, _⟩ := x; exact Nat.le_of_ble_eq_true rfl) | (obtain ⟨_, _, _, _, _⟩ := x; exact Nat.le_of_ble_eq_true rfl) | (obtain ⟨_, _, _, _, _, _⟩ := x; exact Nat.le_of_ble_eq_true rfl) | (obtain ⟨_, _, _, _, _, _, _⟩ := x; exact Nat.le_of_ble_eq_true rfl) | (obtain ⟨_, _, _, _, _, _, _, _⟩ := x; exact Nat.le_of_ble_eq_true rfl)) ?_
  rintro ⟨p, x, xs⟩ ⟨ha, hx, hm⟩
  repeat' first
    | (with_reducible first | refine bo_run ?_ | refine bw_run ?_ | refine bd_run ?_ | refine Br.tt ?_ | refine Br.ff ?_); conv => whnf
    | (with_reducible refine br_not ?_)
    | (with_reducible first | refine br_dec_tt (by assumption) ?_ | refine br_dec_ff (by assumption) ?_ | refine br_dec_tt (by decide) ?_ | refine br_dec_ff (by decide) ?_); conv => whnf
    | (with_reducible refine br_dec_intro (fun _ => ?_) (fun _ => ?_)) <;> conv => whnf
    | (with_reducible first | refine br_beq_tt (by assumption) ?_ | refine br_beq_ff (by assumption) ?_ | refine br_beq_tt (by decide) ?_ | refine br_beq_ff (by decide) ?_); conv => whnf
    | (with_reducible refine br_beq_intro (fun _ => ?_) (fun _ => ?_)) <;> conv => whnf
    | (with_reducible first | refine br_bne_tt (by assumption) ?_ | refine br_bne_ff (by assumption) ?_ | refine br_bne_tt (by decide) ?_ | refine br_bne_ff (by decide) ?_); conv => whnf
    | (with_reducible refine br_bne_intro (fun _ => ?_) (fun _ => ?_)) <;> conv => whnf
    | (with_reducible first | refine br_of_true (by assumption) ?_ | refine br_of_false (by assumption) ?_); conv => whnf
    | (with_reducible refine br_intro (fun _ => ?_) (fun _ => ?_)) <;> conv => whnf
    | (with_reducible refine and_rfl ?_); conv => whnf
    | (refine and_late (fun _ => ?_) (by first | omega | (show _ = _; rfl) | exact trivial | exact ⟨rfl, trivial⟩ | exact ⟨rfl, rfl, trivial⟩ | exact (fun h => by cases h) | exact (fun _ => ⟨rfl, rfl⟩) | exact Nat.le_of_ble_eq_true rfl | (simp only [List.length_map, List.length_append, pbytes, Nat.mul_one, List.length_cons, List.length_nil]; first | done | omega))); conv => whnf
    | (with_reducible refine and_late (fun _ => ?_) ?_); conv => whnf
    | (with_reducible refine vcall_id ?_)
      first
      | (refine call_pure rfl rfl (.inl rfl) ?_); conv => whnf
      | (refine call_relB (α := PV × List Int) (x := (_, _)) (by first | exact rfl | exact snaps1 rfl | exact snapsA rfl | exact snaps1' rfl | exact snaps2 rfl rfl) (by ((iterate 40 (try (first | assumption | apply okR_num | apply okR_text | apply okR_int | apply okR_take | apply okR_flag | apply okR_fail | exact trivial | exact asB_sl _ | rfl | omega | refine And.intro ?_ ?_ | (simp only [List.length_append, List.length_cons, List.length_nil, List.length_map, pbytes_length, Nat.mul_one]; omega)))); done)) (by first | (dsimp only; done) | (dsimp only; exact rfl) | exact rfl) ?_); conv => whnf
      | (refine vcall_inl rfl rfl rfl rfl (Nat.le_of_ble_eq_true rfl) ?_)
    | (with_reducible refine Both.mk ?_ ?_) <;> conv => whnf
    | (refine ⟨[], _, _, rfl, ?_⟩); conv => whnf
    | (refine ⟨_, rfl, ?_⟩); conv => whnf
    | (refine ⟨_, unbytes_pbytes _, ?_⟩); conv => whnf
    | exact ⟨_, _, rfl, rfl⟩
    | exact rensG_pu _ _ _ _
    | rfl
    | (rw [snap_own rfl (show (pbytes _).length = _ * 1 from by rw [pbytes_length, Nat.mul_one])]); conv => whnf
    | fail
  refine call_append (ps := [_, _]) rfl (by simp [pbytes]) rfl (F71_eq (k := 8) hm (by omega) (by simp [pbytes]; omega)) ?_
  conv => whnf
  repeat' first
    | (with_reducible first | refine bo_run ?_ | refine bw_run ?_ | refine bd_run ?_ | refine Br.tt ?_ | refine Br.ff ?_); conv => whnf
    | (with_reducible refine br_not ?_)
    | (with_reducible first | refine br_dec_tt (by assumption) ?_ | refine br_dec_ff (by assumption) ?_ | refine br_dec_tt (by decide) ?_ | refine br_dec_ff (by decide) ?_); conv => whnf
    | (with_reducible refine br_dec_intro (fun _ => ?_) (fun _ => ?_)) <;> conv => whnf
    | (with_reducible first | refine br_beq_tt (by assumption) ?_ | refine br_beq_ff (by assumption) ?_ | refine br_beq_tt (by decide) ?_ | refine br_beq_ff (by decide) ?_); conv => whnf
    | (with_reducible refine br_beq_intro (fun _ => ?_) (fun _ => ?_)) <;> conv => whnf
    | (with_reducible first | refine br_bne_tt (by assumption) ?_ | refine br_bne_ff (by assumption) ?_ | refine br_bne_tt (by decide) ?_ | refine br_bne_ff (by decide) ?_); conv => whnf
    | (with_reducible refine br_bne_intro (fun _ => ?_) (fun _ => ?_)) <;> conv => whnf
    | (with_reducible first | refine br_of_true (by assumption) ?_ | refine br_of_false (by assumption) ?_); conv => whnf
    | (with_reducible refine br_intro (fun _ => ?_) (fun _ => ?_)) <;> conv => whnf
    | (with_reducible refine and_rfl ?_); conv => whnf
    | (refine and_late (fun _ => ?_) (by first | omega | (show _ = _; rfl) | exact trivial | exact ⟨rfl, trivial⟩ | exact ⟨rfl, rfl, trivial⟩ | exact (fun h => by cases h) | exact (fun _ => ⟨rfl, rfl⟩) | exact Nat.le_of_ble_eq_true rfl | (simp only [List.length_map, List.length_append, pbytes, Nat.mul_one, List.length_cons, List.length_nil]; first | done | omega))); conv => whnf
    | (with_reducible refine and_late (fun _ => ?_) ?_); conv => whnf
    | (with_reducible refine vcall_id ?_)
      first
      | (refine call_pure rfl rfl (.inl rfl) ?_); conv => whnf
      | (refine call_relB (α := PV × List Int) (x := (_, _)) (by first | exact rfl | exact snaps1 rfl | exact snapsA rfl | exact snaps1' rfl | exact snaps2 rfl rfl) (by ((iterate 40 (try (first | assumption | apply okR_num | apply okR_text | apply okR_int | apply okR_take | apply okR_flag | apply okR_fail | exact trivial | exact asB_sl _ | rfl | omega | refine And.intro ?_ ?_ | (simp only [List.length_append, List.length_cons, List.length_nil, List.length_map, pbytes_length, Nat.mul_one]; omega)))); done)) (by first | (dsimp only; done) | (dsimp only; exact rfl) | exact rfl) ?_); conv => whnf
      | (refine vcall_inl rfl rfl rfl rfl (Nat.le_of_ble_eq_true rfl) ?_)
    | (with_reducible refine Both.mk ?_ ?_) <;> conv => whnf
    | (refine ⟨[], _, _, rfl, ?_⟩); conv => whnf
    | (refine ⟨_, rfl, ?_⟩); conv => whnf
    | (refine ⟨_, unbytes_pbytes _, ?_⟩); conv => whnf
    | exact ⟨_, _, rfl, rfl⟩
    | exact rensG_pu _ _ _ _
    | rfl
    | (rw [snap_own rfl (show (pbytes _).length = _ * 1 from by rw [pbytes_length, Nat.mul_one])]); conv => whnf
    | fail
  refine ⟨0, 0 + 8, ?_, by simp [pbytes]⟩
  simp [packRes, pbytes, be_length]
theorem con_pack_Int : Contract Try.prog id_pack_Int SInt := by
  refine (code_pack_Int).own (Known.cons con_pack_Bits Known.nil) (by rintro x -; first | exact Nat.le_of_ble_eq_true rfl | (obtain ⟨_, _⟩ := x; exact Nat.le_of_ble_eq_true rfl) | (obtain ⟨_, _, _⟩ := x; exact Nat.le_of_ble_eq_true rfl) | (obtain ⟨_, _, _, _⟩ := x; exact Nat.le_of_ble_eq_true rfl) | (obtain ⟨_, _, _, _, _⟩ := x; exact Nat.le_of_ble_eq_true rfl) | (obtain ⟨_, _, _, _, _, _⟩ := x; exact Nat.le_of_ble_eq_true rfl) | (obtain ⟨_, _, _, _, _, _, _⟩ := x; exact Nat.le_of_ble_eq_true rfl) | (obtain ⟨_, _, _, _, _, _, _, _⟩ := x; exact Nat.le_of_ble_eq_true rfl)) ?_
  rintro ⟨p, n, xs⟩ ⟨ha, hx⟩
  have := tw_lt n
  repeat' first
    | (with_reducible first | refine bo_run ?_ | refine bw_run ?_ | refine bd_run ?_ | refine Br.tt ?_ | refine Br.ff ?_); conv => whnf
    | (with_reducible refine br_not ?_)
    | (with_reducible first | refine br_dec_tt (by assumption) ?_ | refine br_dec_ff (by assumption) ?_ | refine br_dec_tt (by decide) ?_ | refine br_dec_ff (by decide) ?_); conv => whnf
    | (with_reducible refine br_dec_intro (fun _ => ?_) (fun _ => ?_)) <;> conv => whnf
    | (with_reducible first | refine br_beq_tt (by assumption) ?_ | refine br_beq_ff (by assumption) ?_ | refine br_beq_tt (by decide) ?_ | refine br_beq_ff (by decide) ?_); conv => whnf
    | (with_reducible refine br_beq_intro (fun _ => ?_) (fun _ => ?_)) <;> conv => whnf
    | (with_reducible first | refine br_bne_tt (by assumption) ?_ | refine br_bne_ff (by assumption) ?_ | refine br_bne_tt (by decide) ?_ | refine br_bne_ff (by decide) ?_); conv => whnf
    | (with_reducible refine br_bne_intro (fun _ => ?_) (fun _ => ?_)) <;> conv => whnf
    | (with_reducible first | refine br_of_true (by assumption) ?_ | refine br_of_false (by assumption) ?_); conv => whnf
    | (with_reducible refine br_intro (fun _ => ?_) (fun _ => ?_)) <;> conv => whnf
    | (with_reducible refine and_rfl ?_); conv => whnf
    | (refine and_late (fun _ => ?_) (by first | omega | (show _ = _; rfl) | exact trivial | exact ⟨rfl, trivial⟩ | exact ⟨rfl, rfl, trivial⟩ | exact (fun h => by cases h) | exact (fun _ => ⟨rfl, rfl⟩) | exact Nat.le_of_ble_eq_true rfl | (simp only [List.length_map, List.length_append, pbytes, Nat.mul_one, List.length_cons, List.length_nil]; first | done | omega))); conv => whnf
    | (with_reducible refine and_late (fun _ => ?_) ?_); conv => whnf
    | (with_reducible refine vcall_id ?_)
      first
      | (refine call_relB (α := PV × Nat × List Int) (x := (_, _, _)) (by first | exact rfl | exact snaps1 rfl | exact snapsA rfl | exact snaps1' rfl | exact snaps2 rfl rfl) (by ((iterate 40 (try (first | assumption | apply okR_num | apply okR_text | apply okR_int | apply okR_take | apply okR_flag | apply okR_fail | exact trivial | exact asB_sl _ | rfl | omega | refine And.intro ?_ ?_ | (simp only [List.length_append, List.length_cons, List.length_nil, List.length_map, pbytes_length, Nat.mul_one]; omega)))); done)) (by first | (dsimp only; done) | (dsimp only; exact rfl) | exact rfl) ?_); conv => whnf
      | (refine vcall_inl rfl rfl rfl rfl (Nat.le_of_ble_eq_true rfl) ?_)
    | (with_reducible refine Both.mk ?_ ?_) <;> conv => whnf
    | (refine ⟨[], _, _, rfl, ?_⟩); conv => whnf
    | (refine ⟨_, rfl, ?_⟩); conv => whnf
    | (refine ⟨_, unbytes_pbytes _, ?_⟩); conv => whnf
    | exact ⟨_, _, rfl, rfl⟩
    | exact rensG_pu _ _ _ _
    | rfl
    | (rw [snap_own rfl (show (pbytes _).length = _ * 1 from by rw [pbytes_length, Nat.mul_one])]); conv => whnf
    | fail
theorem con_ref02_Int : Contract Try.prog id_ref02_Int SInt := by
  refine (code_ref02_Int).own (Known.cons con_ref02_copied (Known.cons con_ref02_high Known.nil)) (by rintro x -; first | exact Nat.le_of_ble_eq_true rfl | (obtain ⟨_, _⟩ := x; exact Nat.le_of_ble_eq_true rfl) | (obtain ⟨_, _, _⟩ := x; exact Nat.le_of_ble_eq_true rfl) | (obtain ⟨_, _, _, _⟩ := x; exact Nat.le_of_ble_eq_true rfl) | (obtain ⟨_, _, _, _, _⟩ := x; exact Nat.le_of_ble_eq_true rfl) | (obtain ⟨_, _, _, _, _, _⟩ := x; exact Nat.le_of_ble_eq_true rfl) | (obtain ⟨_, _, _, _, _, _, _⟩ := x; exact Nat.le_of_ble_eq_true rfl) | (obtain ⟨_, _, _, _, _, _, _, _⟩ := x; exact Nat.le_of_ble_eq_true rfl)) ?_
  rintro ⟨p, n, xs⟩ ⟨ha, hx⟩
  have e1 := tw_eq n
  repeat' first
    | (with_reducible first | refine bo_run ?_ | refine bw_run ?_ | refine bd_run ?_ | refine Br.tt ?_ | refine Br.ff ?_); conv => whnf
    | (with_reducible refine br_not ?_)
    | (with_reducible first | refine br_dec_tt (by assumption) ?_ | refine br_dec_ff (by assumption) ?_ | refine br_dec_tt (by decide) ?_ | refine br_dec_ff (by decide) ?_); conv => whnf
    | (with_reducible refine br_dec_intro (fun _ => ?_) (fun _ => ?_)) <;> conv => whnf
    | (with_reducible first | refine br_beq_tt (by assumption) ?_ | refine br_beq_ff (by assumption) ?_ | refine br_beq_tt (by decide) ?_ | refine br_beq_ff (by decide) ?_); conv => whnf
    | (with_reducible refine br_beq_intro (fun _ => ?_) (fun _ => ?_)) <;> conv => whnf
    | (with_reducible first | refine br_bne_tt (by assumption) ?_ | refine br_bne_ff (by assumption) ?_ | refine br_bne_tt (by decide) ?_ | refine br_bne_ff (by decide) ?_); conv => whnf
    | (with_reducible refine br_bne_intro (fun _ => ?_) (fun _ => ?_)) <;> conv => whnf
    | (with_reducible first | refine br_of_true (by assumption) ?_ | refine br_of_false (by assumption) ?_); conv => whnf
    | (with_reducible refine br_intro (fun _ => ?_) (fun _ => ?_)) <;> conv => whnf
    | (with_reducible refine and_rfl ?_); conv => whnf
    | (refine and_late (fun _ => ?_) (by first | omega | (show _ = _; rfl) | exact trivial | exact ⟨rfl, trivial⟩ | exact ⟨rfl, rfl, trivial⟩ | exact (fun h => by cases h) | exact (fun _ => ⟨rfl, rfl⟩) | exact Nat.le_of_ble_eq_true rfl | (simp only [List.length_map, List.length_append, pbytes, Nat.mul_one, List.length_cons, List.length_nil]; first | done | omega))); conv => whnf
    | (with_reducible refine and_late (fun _ => ?_) ?_); conv => whnf
    | (with_reducible refine vcall_id ?_)
      first
      | (refine call_pure rfl rfl (.inl rfl) ?_); conv => whnf
      | (refine call_relB (α := PV × List Int) (x := (_, _)) (by first | exact rfl | exact snaps1 rfl | exact snapsA rfl | exact snaps1' rfl | exact snaps2 rfl rfl) (by ((iterate 40 (try (first | assumption | apply okR_num | apply okR_text | apply okR_int | apply okR_take | apply okR_flag | apply okR_fail | exact trivial | exact asB_sl _ | rfl | omega | refine And.intro ?_ ?_ | (simp only [List.length_append, List.length_cons, List.length_nil, List.length_map, pbytes_length, Nat.mul_one]; omega)))); done)) (by first | (dsimp only; done) | (dsimp only; exact rfl) | exact rfl) ?_); conv => whnf
      | (refine vcall_inl rfl rfl rfl rfl (Nat.le_of_ble_eq_true rfl) ?_)
    | (with_reducible refine Both.mk ?_ ?_) <;> conv => whnf
    | (refine ⟨[], _, _, rfl, ?_⟩); conv => whnf
    | (refine ⟨_, rfl, ?_⟩); conv => whnf
    | (refine ⟨_, unbytes_pbytes _, ?_⟩); conv => whnf
    | exact ⟨_, _, rfl, rfl⟩
    | exact rensG_pu _ _ _ _
    | rfl
    | (rw [snap_own rfl (show (pbytes _).length = _ * 1 from by rw [pbytes_length, Nat.mul_one])]); conv => whnf
    | fail
  simp only [e1]
  refine call_append (ps := [_, _]) rfl (by simp [pbytes]) rfl (F71_eq (k := 8) (tw_lt n) (by omega) (by simp [pbytes]; omega)) ?_
  conv => whnf
  repeat' first
    | (with_reducible first | refine bo_run ?_ | refine bw_run ?_ | refine bd_run ?_ | refine Br.tt ?_ | refine Br.ff ?_); conv => whnf
    | (with_reducible refine br_not ?_)
    | (with_reducible first | refine br_dec_tt (by assumption) ?_ | refine br_dec_ff (by assumption) ?_ | refine br_dec_tt (by decide) ?_ | refine br_dec_ff (by decide) ?_); conv => whnf
    | (with_reducible refine br_dec_intro (fun _ => ?_) (fun _ => ?_)) <;> conv => whnf
    | (with_reducible first | refine br_beq_tt (by assumption) ?_ | refine br_beq_ff (by assumption) ?_ | refine br_beq_tt (by decide) ?_ | refine br_beq_ff (by decide) ?_); conv => whnf
    | (with_reducible refine br_beq_intro (fun _ => ?_) (fun _ => ?_)) <;> conv => whnf
    | (with_reducible first | refine br_bne_tt (by assumption) ?_ | refine br_bne_ff (by assumption) ?_ | refine br_bne_tt (by decide) ?_ | refine br_bne_ff (by decide) ?_); conv => whnf
    | (with_reducible refine br_bne_intro (fun _ => ?_) (fun _ => ?_)) <;> conv => whnf
    | (with_reducible first | refine br_of_true (by assumption) ?_ | refine br_of_false (by assumption) ?_); conv => whnf
    | (with_reducible refine br_intro (fun _ => ?_) (fun _ => ?_)) <;> conv => whnf
    | (with_reducible refine and_rfl ?_); conv => whnf
    | (refine and_late (fun _ => ?_) (by first | omega | (show _ = _; rfl) | exact trivial | exact ⟨rfl, trivial⟩ | exact ⟨rfl, rfl, trivial⟩ | exact (fun h => by cases h) | exact (fun _ => ⟨rfl, rfl⟩) | exact Nat.le_of_ble_eq_true rfl | (simp only [List.length_map, List.length_append, pbytes, Nat.mul_one, List.length_cons, List.length_nil]; first | done | omega))); conv => whnf
    | (with_reducible refine and_late (fun _ => ?_) ?_); conv => whnf
    | (with_reducible refine vcall_id ?_)
      first
      | (refine call_pure rfl rfl (.inl rfl) ?_); conv => whnf
      | (refine call_relB (α := PV × List Int) (x := (_, _)) (by first | exact rfl | exact snaps1 rfl | exact snapsA rfl | exact snaps1' rfl | exact snaps2 rfl rfl) (by ((iterate 40 (try (first | assumption | apply okR_num | apply okR_text | apply okR_int | apply okR_take | apply okR_flag | apply okR_fail | exact trivial | exact asB_sl _ | rfl | omega | refine And.intro ?_ ?_ | (simp only [List.length_append, List.length_cons, List.length_nil, List.length_map, pbytes_length, Nat.mul_one]; omega)))); done)) (by first | (dsimp only; done) | (dsimp only; exact rfl) | exact rfl) ?_); conv => whnf
      | (refine vcall_inl rfl rfl rfl rfl (Nat.le_of_ble_eq_true rfl) ?_)
    | (with_reducible refine Both.mk ?_ ?_) <;> conv => whnf
    | (refine ⟨[], _, _, rfl, ?_⟩); conv => whnf
    | (refine ⟨_, rfl, ?_⟩); conv => whnf
    | (refine ⟨_, unbytes_pbytes _, ?_⟩); conv => whnf
    | exact ⟨_, _, rfl, rfl⟩
    | exact rensG_pu _ _ _ _
    | rfl
    | (rw [snap_own rfl (show (pbytes _).length = _ * 1 from by rw [pbytes_length, Nat.mul_one])]); conv => whnf
    | fail
  refine ⟨0, 0 + 8, ?_, by simp [pbytes]⟩
  simp [packRes, pbytes, be_length]
theorem con_pack_Text : Contract Try.prog id_pack_Text SText := by
  refine (code_pack_Text).own (Known.cons con_pack_room (Known.cons con_pack_Num Known.nil)) (by rintro x -; first | exact Nat.le_of_ble_eq_true rfl | (obtain ⟨_, _⟩ := x; exact Nat.le_of_ble_eq_true rfl) | (obtain ⟨_, _, _⟩ := x; exact Nat.le_of_ble_eq_true rfl) | (obtain ⟨_, _, _, _⟩ := x; exact Nat.le_of_ble_eq_true rfl) | (obtain ⟨_, _, _, _, _⟩ := x; exact Nat.le_of_ble_eq_true rfl) | (obtain ⟨_, _, _, _, _, _⟩ := x; exact Nat.le_of_ble_eq_true rfl) | (obtain ⟨_, _, _, _, _, _, _⟩ := x; exact Nat.le_of_ble_eq_true rfl) | (obtain ⟨_, _, _, _, _, _, _, _⟩ := x; exact Nat.le_of_ble_eq_true rfl)) ?_
  rintro ⟨p, s, xs⟩ ⟨ha, hx, hs⟩
  have e1 : IntKind.i64.wrap (9 + (s.size : Int)) = 9 + (s.size : Int) := i64_in _ (by omega)
  have hs' : 0 ≤ 9 + (s.size : Int) ∧ 9 + (s.size : Int) ≤ 1073741824 := by omega
  have hn := numB_length s.size (by omega)
  have hb := bytesOf_length s
  rw [← e1] at hs'
  repeat' first
    | (with_reducible first | refine bo_run ?_ | refine bw_run ?_ | refine bd_run ?_ | refine Br.tt ?_ | refine Br.ff ?_); conv => whnf
    | (with_reducible refine br_not ?_)
    | (with_reducible first | refine br_dec_tt (by assumption) ?_ | refine br_dec_ff (by assumption) ?_ | refine br_dec_tt (by decide) ?_ | refine br_dec_ff (by decide) ?_); conv => whnf
    | (with_reducible refine br_dec_intro (fun _ => ?_) (fun _ => ?_)) <;> conv => whnf
    | (with_reducible first | refine br_beq_tt (by assumption) ?_ | refine br_beq_ff (by assumption) ?_ | refine br_beq_tt (by decide) ?_ | refine br_beq_ff (by decide) ?_); conv => whnf
    | (with_reducible refine br_beq_intro (fun _ => ?_) (fun _ => ?_)) <;> conv => whnf
    | (with_reducible first | refine br_bne_tt (by assumption) ?_ | refine br_bne_ff (by assumption) ?_ | refine br_bne_tt (by decide) ?_ | refine br_bne_ff (by decide) ?_); conv => whnf
    | (with_reducible refine br_bne_intro (fun _ => ?_) (fun _ => ?_)) <;> conv => whnf
    | (with_reducible first | refine br_of_true (by assumption) ?_ | refine br_of_false (by assumption) ?_); conv => whnf
    | (with_reducible refine br_intro (fun _ => ?_) (fun _ => ?_)) <;> conv => whnf
    | (with_reducible refine and_rfl ?_); conv => whnf
    | (refine and_late (fun _ => ?_) (by first | omega | (show _ = _; rfl) | exact trivial | exact ⟨rfl, trivial⟩ | exact ⟨rfl, rfl, trivial⟩ | exact (fun h => by cases h) | exact (fun _ => ⟨rfl, rfl⟩) | exact Nat.le_of_ble_eq_true rfl | (simp only [List.length_map, List.length_append, pbytes, Nat.mul_one, List.length_cons, List.length_nil]; first | done | omega))); conv => whnf
    | (with_reducible refine and_late (fun _ => ?_) ?_); conv => whnf
    | (with_reducible refine vcall_id ?_)
      first
      | (refine call_relB (α := PV × Int × List Int) (x := (_, _, _)) (by first | exact rfl | exact snaps1 rfl | exact snapsA rfl | exact snaps1' rfl | exact snaps2 rfl rfl) (by ((iterate 40 (try (first | assumption | apply okR_num | apply okR_text | apply okR_int | apply okR_take | apply okR_flag | apply okR_fail | exact trivial | exact asB_sl _ | rfl | omega | refine And.intro ?_ ?_ | (simp only [List.length_append, List.length_cons, List.length_nil, List.length_map, pbytes_length, Nat.mul_one]; omega)))); done)) (by first | (dsimp only; done) | (dsimp only; exact rfl) | exact rfl) ?_); conv => whnf
      | (refine vcall_inl rfl rfl rfl rfl (Nat.le_of_ble_eq_true rfl) ?_)
    | (with_reducible refine Both.mk ?_ ?_) <;> conv => whnf
    | (refine ⟨[], _, _, rfl, ?_⟩); conv => whnf
    | (refine ⟨_, rfl, ?_⟩); conv => whnf
    | (refine ⟨_, unbytes_pbytes _, ?_⟩); conv => whnf
    | exact ⟨_, _, rfl, rfl⟩
    | exact rensG_pu _ _ _ _
    | rfl
    | (rw [snap_own rfl (show (pbytes _).length = _ * 1 from by rw [pbytes_length, Nat.mul_one])]); conv => whnf
    | fail
  · refine ⟨1, 1, ?_, by simp [textB, pbytes]⟩
    simp [packRes, textB, hb]
    omega
  · simp only [List.length_append, Int.toNat_natCast]
    omega
theorem con_ref02_Text : Contract Try.prog id_ref02_Text SText := by
  refine (code_ref02_Text).own (Known.cons con_ref02_Num Known.nil) (by rintro x -; first | exact Nat.le_of_ble_eq_true rfl | (obtain ⟨_, _⟩ := x; exact Nat.le_of_ble_eq_true rfl) | (obtain ⟨_, _, _⟩ := x; exact Nat.le_of_ble_eq_true rfl) | (obtain ⟨_, _, _, _⟩ := x; exact Nat.le_of_ble_eq_true rfl) | (obtain ⟨_, _, _, _, _⟩ := x; exact Nat.le_of_ble_eq_true rfl) | (obtain ⟨_, _, _, _, _, _⟩ := x; exact Nat.le_of_ble_eq_true rfl) | (obtain ⟨_, _, _, _, _, _, _⟩ := x; exact Nat.le_of_ble_eq_true rfl) | (obtain ⟨_, _, _, _, _, _, _, _⟩ := x; exact Nat.le_of_ble_eq_true rfl)) ?_
  rintro ⟨p, s, xs⟩ ⟨ha, hx, hs⟩
  have hn := numB_length s.size (by omega)
  have hb := bytesOf_length s
  repeat' first
    | (with_reducible first | refine bo_run ?_ | refine bw_run ?_ | refine bd_run ?_ | refine Br.tt ?_ | refine Br.ff ?_); conv => whnf
    | (with_reducible refine br_not ?_)
    | (with_reducible first | refine br_dec_tt (by assumption) ?_ | refine br_dec_ff (by assumption) ?_ | refine br_dec_tt (by decide) ?_ | refine br_dec_ff (by decide) ?_); conv => whnf
    | (with_reducible refine br_dec_intro (fun _ => ?_) (fun _ => ?_)) <;> conv => whnf
    | (with_reducible first | refine br_beq_tt (by assumption) ?_ | refine br_beq_ff (by assumption) ?_ | refine br_beq_tt (by decide) ?_ | refine br_beq_ff (by decide) ?_); conv => whnf
    | (with_reducible refine br_beq_intro (fun _ => ?_) (fun _ => ?_)) <;> conv => whnf
    | (with_reducible first | refine br_bne_tt (by assumption) ?_ | refine br_bne_ff (by assumption) ?_ | refine br_bne_tt (by decide) ?_ | refine br_bne_ff (by decide) ?_); conv => whnf
    | (with_reducible refine br_bne_intro (fun _ => ?_) (fun _ => ?_)) <;> conv => whnf
    | (with_reducible first | refine br_of_true (by assumption) ?_ | refine br_of_false (by assumption) ?_); conv => whnf
    | (with_reducible refine br_intro (fun _ => ?_) (fun _ => ?_)) <;> conv => whnf
    | (with_reducible refine and_rfl ?_); conv => whnf
    | (refine and_late (fun _ => ?_) (by first | omega | (show _ = _; rfl) | exact trivial | exact ⟨rfl, trivial⟩ | exact ⟨rfl, rfl, trivial⟩ | exact (fun h => by cases h) | exact (fun _ => ⟨rfl, rfl⟩) | exact Nat.le_of_ble_eq_true rfl | (simp only [List.length_map, List.length_append, pbytes, Nat.mul_one, List.length_cons, List.length_nil]; first | done | omega))); conv => whnf
    | (with_reducible refine and_late (fun _ => ?_) ?_); conv => whnf
    | (with_reducible refine vcall_id ?_)
      first
      | (refine call_relB (α := PV × Int × List Int) (x := (_, _, _)) (by first | exact rfl | exact snaps1 rfl | exact snapsA rfl | exact snaps1' rfl | exact snaps2 rfl rfl) (by ((iterate 40 (try (first | assumption | apply okR_num | apply okR_text | apply okR_int | apply okR_take | apply okR_flag | apply okR_fail | exact trivial | exact asB_sl _ | rfl | omega | refine And.intro ?_ ?_ | (simp only [List.length_append, List.length_cons, List.length_nil, List.length_map, pbytes_length, Nat.mul_one]; omega)))); done)) (by first | (dsimp only; done) | (dsimp only; exact rfl) | exact rfl) ?_); conv => whnf
      | (refine vcall_inl rfl rfl rfl rfl (Nat.le_of_ble_eq_true rfl) ?_)
    | (with_reducible refine Both.mk ?_ ?_) <;> conv => whnf
    | (refine ⟨[], _, _, rfl, ?_⟩); conv => whnf
    | (refine ⟨_, rfl, ?_⟩); conv => whnf
    | (refine ⟨_, unbytes_pbytes _, ?_⟩); conv => whnf
    | exact ⟨_, _, rfl, rfl⟩
    | exact rensG_pu _ _ _ _
    | rfl
    | (rw [snap_own rfl (show (pbytes _).length = _ * 1 from by rw [pbytes_length, Nat.mul_one])]); conv => whnf
    | fail
  · refine ⟨0, 1, ?_, by simp [textB, pbytes]⟩
    simp [packRes, textB, hb]
    omega
  · simp only [List.length_append, Int.toNat_natCast]
    omega
end Go.Proofs.Ytlodbaikbgbhjaa
