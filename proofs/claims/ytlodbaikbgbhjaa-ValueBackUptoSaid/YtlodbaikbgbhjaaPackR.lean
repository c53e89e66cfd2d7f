/- usher/pack's reader. -/
import Derived.Test.YtlodbaikbgbhjaaPackX
set_option linter.unusedVariables false
set_option linter.unusedSimpArgs false
set_option maxRecDepth 20000
namespace Go.Proofs.Ytlodbaikbgbhjaa
open Go Go.Vm Go.IntWalk

/-- a reader's cells -/
def rc (r : R) : List PV := [rp r, i64 r.2, bl true]
theorem or_byte {x c : Nat} (hx : x < 72057594037927936) (hc : c < 256) : bitsI .or .u64 (IntKind.u64.wrap ((x : Int) * 2 ^ min (Int.toNat 8) IntKind.u64.bits)) (IntKind.u64.wrap (c : Int)) = ((x * 256 + c : Nat) : Int) := by
  rw [show (2 : Int) ^ min (Int.toNat 8) IntKind.u64.bits = 256 from rfl, show (x : Int) * 256 = ((x * 256 : Nat) : Int) from by simp, u64_nat _ (by omega), u64_nat c (by omega)]
  unfold bitsI
  simp only [BitVec.toNat_or]
  rw [show (BitVec.ofInt IntKind.u64.bits ((x * 256 : Nat) : Int)).toNat = x * 256 from by simp [IntKind.bits]; omega, show (BitVec.ofInt IntKind.u64.bits (c : Int)).toNat = c from by simp [IntKind.bits]; omega]
  have h := Nat.shiftLeft_add_eq_or_of_lt (show c < 2 ^ 8 from hc) x
  rw [Nat.shiftLeft_eq] at h
  rw [show x * 256 ||| c = x * 256 + c from h.symm]
  exact u64_nat _ (by omega)
def rForm (so : Bool) (r : R) : R := if so = true then r else rFail 3 r
theorem okR_form {so : Bool} {r : R} (h : okR r) : okR (rForm so r) := by unfold rForm; split; exact h; exact okR_fail h
def rBytes (n : Nat) (r : R) : PV := if r.2 = 0 ∧ n ≤ r.1.length then bsl (r.1.take n) else nilS
theorem con_pack_Reader_alive : Contract Try.prog id_pack_Reader_alive (RelM ty_pack_Reader (fun (r : R) => True) (fun r => rc r) (fun _ => []) (fun r => bl (r.2 == 0)) (fun r => rc r)) := by
  refine (code_pack_Reader_alive).meth Known.nil (by rintro x -; first | exact Nat.le_of_ble_eq_true rfl | (obtain ⟨_, _⟩ := x; exact Nat.le_of_ble_eq_true rfl) | (obtain ⟨_, _, _⟩ := x; exact Nat.le_of_ble_eq_true rfl) | (obtain ⟨_, _, _, _⟩ := x; exact Nat.le_of_ble_eq_true rfl) | (obtain ⟨_, _, _, _, _⟩ := x; exact Nat.le_of_ble_eq_true rfl) | (obtain ⟨_, _, _, _, _, _⟩ := x; exact Nat.le_of_ble_eq_true rfl) | (obtain ⟨_, _, _, _, _, _, _⟩ := x; exact Nat.le_of_ble_eq_true rfl) | (obtain ⟨_, _, _, _, _, _, _, _⟩ := x; exact Nat.le_of_ble_eq_true rfl)) ?_
  intro r g _
  repeat' first
    | (with_reducible first | refine bo_run ?_ | refine bw_run ?_ | refine bd_run ?_ | refine Br.tt ?_ | refine Br.ff ?_); conv => whnf
    | (with_reducible refine br_not ?_)
    | (with_reducible first | refine br_dec_tt (by assumption) ?_ | refine br_dec_ff (by assumption) ?_ | refine br_dec_tt (by decide) ?_ | refine br_dec_ff (by decide) ?_); conv => whnf
    | (with_reducible refine br_dec_intro (fun _ => ?_) (fun _ => ?_)) <;> conv => whnf
    | (with_reducible first | refine br_beq_tt (by assumption) ?_ | refine br_beq_ff (by assumption) ?_ | refine br_beq_tt (by decide) ?_ | refine br_beq_ff (by decide) ?_); conv => whnf
    | (with_reducible refine br_beq_intro (fun _ => ?_) (fun _ => ?_)) <;> conv => whnf
    | (with_reducible first | refine br_bne_tt (by assumption) ?_ | refine br_bne_ff (by assumption) ?_ | refine br_bne_tt (by decide) ?_ | refine br_bne_ff (by decide) ?_); conv => whnf
    | (with_reducible refine br_bne_intro (fun _ => ?_) (fun _ => ?_)) <;> conv => whnf
    | (with_reducible first | refine br_of_true (by assumption) ?_ | refine br_of_false (by assumption) ?_); conv => whnf
    | (with_reducible refine br_intro (fun _ => ?_) (fun _ => ?_)) <;> conv => whnf
    | (with_reducible refine and_rfl ?_); conv => whnf
    | (refine and_late (fun _ => ?_) (by first | omega | (show _ = _; rfl) | exact trivial | exact ⟨rfl, trivial⟩ | exact ⟨rfl, rfl, trivial⟩ | exact (fun h => by cases h) | exact (fun _ => ⟨rfl, rfl⟩) | exact Nat.le_of_ble_eq_true rfl | (simp only [List.length_map, List.length_append, pbytes, Nat.mul_one, List.length_cons, List.length_nil]; first | done | omega))); conv => whnf
    | (with_reducible refine and_late (fun _ => ?_) ?_); conv => whnf
    | (with_reducible refine vcall_id ?_)
      first
      | (refine vcall_inl rfl rfl rfl rfl (Nat.le_of_ble_eq_true rfl) ?_)
    | (with_reducible refine Both.mk ?_ ?_) <;> conv => whnf
    | (refine ⟨[], _, _, rfl, ?_⟩); conv => whnf
    | (refine ⟨_, rfl, ?_⟩); conv => whnf
    | (refine ⟨_, unbytes_pbytes _, ?_⟩); conv => whnf
    | exact ⟨_, _, rfl, rfl⟩
    | exact rensG_pu _ _ _ _
    | rfl
    | (rw [snap_own rfl (show (pbytes _).length = _ * 1 from by rw [pbytes_length, Nat.mul_one])]); conv => whnf
    | fail
theorem rFail_0 {xs : List Int} {e' : Int} (h : ¬ e' = 0) : rFail e' (xs, 0) = ([], e') := by unfold rFail; rw [if_pos ⟨rfl, h⟩]
theorem rFail_ok {r : R} : rFail 0 r = r := by unfold rFail; rw [if_neg (fun h => h.2 rfl)]
theorem rFail_bad {e : Int} {r : R} (h : r.2 ≠ 0) : rFail e r = r := by unfold rFail; rw [if_neg (fun q => h q.1)]
theorem con_pack_Reader_Fail : Contract Try.prog id_pack_Reader_Fail (RelM ty_pack_Reader (fun ((r, e) : R × Int) => True) (fun (r, _) => rc r) (fun (_, e) => [i64 e]) (fun _ => .tup []) (fun (r, e) => rc (rFail e r))) := by
  refine (code_pack_Reader_Fail).meth (Known.cons con_pack_Reader_alive Known.nil) (by rintro x -; first | exact Nat.le_of_ble_eq_true rfl | (obtain ⟨_, _⟩ := x; exact Nat.le_of_ble_eq_true rfl) | (obtain ⟨_, _, _⟩ := x; exact Nat.le_of_ble_eq_true rfl) | (obtain ⟨_, _, _, _⟩ := x; exact Nat.le_of_ble_eq_true rfl) | (obtain ⟨_, _, _, _, _⟩ := x; exact Nat.le_of_ble_eq_true rfl) | (obtain ⟨_, _, _, _, _, _⟩ := x; exact Nat.le_of_ble_eq_true rfl) | (obtain ⟨_, _, _, _, _, _, _⟩ := x; exact Nat.le_of_ble_eq_true rfl) | (obtain ⟨_, _, _, _, _, _, _, _⟩ := x; exact Nat.le_of_ble_eq_true rfl)) ?_
  rintro ⟨⟨xs, e⟩, e'⟩ g -
  dsimp only
  by_cases he : e = 0
  · subst he
    by_cases he' : e' = 0
    · subst he'
      rw [rFail_ok]
      have hb : (0 == (0 : Int)) = true := rfl
      repeat' first
        | (with_reducible first | refine bo_run ?_ | refine bw_run ?_ | refine bd_run ?_ | refine Br.tt ?_ | refine Br.ff ?_); conv => whnf
        | (with_reducible refine br_not ?_)
        | (with_reducible first | refine br_dec_tt (by assumption) ?_ | refine br_dec_ff (by assumption) ?_ | refine br_dec_tt (by decide) ?_ | refine br_dec_ff (by decide) ?_); conv => whnf
        | (with_reducible refine br_dec_intro (fun _ => ?_) (fun _ => ?_)) <;> conv => whnf
        | (with_reducible first | refine br_beq_tt (by assumption) ?_ | refine br_beq_ff (by assumption) ?_ | refine br_beq_tt (by decide) ?_ | refine br_beq_ff (by decide) ?_); conv => whnf
        | (with_reducible refine br_beq_intro (fun _ => ?_) (fun _ => ?_)) <;> conv => whnf
        | (with_reducible first | refine br_bne_tt (by assumption) ?_ | refine br_bne_ff (by assumption) ?_ | refine br_bne_tt (by decide) ?_ | refine br_bne_ff (by decide) ?_); conv => whnf
        | (with_reducible refine br_bne_intro (fun _ => ?_) (fun _ => ?_)) <;> conv => whnf
        | (with_reducible first | refine br_of_true (by assumption) ?_ | refine br_of_false (by assumption) ?_); conv => whnf
        | (with_reducible refine br_intro (fun _ => ?_) (fun _ => ?_)) <;> conv => whnf
        | (with_reducible refine and_rfl ?_); conv => whnf
        | (refine and_late (fun _ => ?_) (by first | omega | (show _ = _; rfl) | exact trivial | exact ⟨rfl, trivial⟩ | exact ⟨rfl, rfl, trivial⟩ | exact (fun h => by cases h) | exact (fun _ => ⟨rfl, rfl⟩) | exact Nat.le_of_ble_eq_true rfl | (simp only [List.length_map, List.length_append, pbytes, Nat.mul_one, List.length_cons, List.length_nil]; first | done | omega))); conv => whnf
        | (with_reducible refine and_late (fun _ => ?_) ?_); conv => whnf
        | (with_reducible refine vcall_id ?_)
          first
          | (refine call_relM (α := R) (x := _) rfl rfl (by ((iterate 40 (try (first | assumption | apply okR_num | apply okR_text | apply okR_int | apply okR_take | apply okR_flag | apply okR_fail | exact trivial | exact asB_sl _ | rfl | omega | refine And.intro ?_ ?_ | (simp only [List.length_append, List.length_cons, List.length_nil, List.length_map, pbytes_length, Nat.mul_one]; omega)))); done)) (by first | (dsimp only; done) | (dsimp only; exact rfl) | exact rfl) (by first | (dsimp only; done) | (dsimp only; exact rfl) | exact rfl) ?_); conv => whnf
          | (refine vcall_inl rfl rfl rfl rfl (Nat.le_of_ble_eq_true rfl) ?_)
        | (with_reducible refine Both.mk ?_ ?_) <;> conv => whnf
        | (refine ⟨[], _, _, rfl, ?_⟩); conv => whnf
        | (refine ⟨_, rfl, ?_⟩); conv => whnf
        | (refine ⟨_, unbytes_pbytes _, ?_⟩); conv => whnf
        | exact ⟨_, _, rfl, rfl⟩
        | exact rensG_pu _ _ _ _
        | rfl
        | (rw [snap_own rfl (show (pbytes _).length = _ * 1 from by rw [pbytes_length, Nat.mul_one])]); conv => whnf
        | fail
    · rw [rFail_0 he', show rc (xs, 0) = [bsl xs, i64 0, bl true] from rfl, show rc ([], e') = [nilS, i64 e', bl true] from by rw [rc, rp_bad (r := ([], e')) he']]
      have hb : (0 == (0 : Int)) = true := rfl
      refine bw_run ?_
      conv => whnf
      refine call_relM (x := (xs, 0)) (p := bl true) rfl rfl trivial (by rfl) rfl ?_
      rw [show rc (xs, 0) = [bsl xs, i64 0, bl true] from rfl]
      conv => whnf
      repeat' first
        | (with_reducible first | refine bo_run ?_ | refine bw_run ?_ | refine bd_run ?_ | refine Br.tt ?_ | refine Br.ff ?_); conv => whnf
        | (with_reducible refine br_not ?_)
        | (with_reducible first | refine br_dec_tt (by assumption) ?_ | refine br_dec_ff (by assumption) ?_ | refine br_dec_tt (by decide) ?_ | refine br_dec_ff (by decide) ?_); conv => whnf
        | (with_reducible refine br_dec_intro (fun _ => ?_) (fun _ => ?_)) <;> conv => whnf
        | (with_reducible first | refine br_beq_tt (by assumption) ?_ | refine br_beq_ff (by assumption) ?_ | refine br_beq_tt (by decide) ?_ | refine br_beq_ff (by decide) ?_); conv => whnf
        | (with_reducible refine br_beq_intro (fun _ => ?_) (fun _ => ?_)) <;> conv => whnf
        | (with_reducible first | refine br_bne_tt (by assumption) ?_ | refine br_bne_ff (by assumption) ?_ | refine br_bne_tt (by decide) ?_ | refine br_bne_ff (by decide) ?_); conv => whnf
        | (with_reducible refine br_bne_intro (fun _ => ?_) (fun _ => ?_)) <;> conv => whnf
        | (with_reducible first | refine br_of_true (by assumption) ?_ | refine br_of_false (by assumption) ?_); conv => whnf
        | (with_reducible refine br_intro (fun _ => ?_) (fun _ => ?_)) <;> conv => whnf
        | (with_reducible refine and_rfl ?_); conv => whnf
        | (refine and_late (fun _ => ?_) (by first | omega | (show _ = _; rfl) | exact trivial | exact ⟨rfl, trivial⟩ | exact ⟨rfl, rfl, trivial⟩ | exact (fun h => by cases h) | exact (fun _ => ⟨rfl, rfl⟩) | exact Nat.le_of_ble_eq_true rfl | (simp only [List.length_map, List.length_append, pbytes, Nat.mul_one, List.length_cons, List.length_nil]; first | done | omega))); conv => whnf
        | (with_reducible refine and_late (fun _ => ?_) ?_); conv => whnf
        | (with_reducible refine vcall_id ?_)
          first
          | (refine call_relM (α := R) (x := _) rfl rfl (by ((iterate 40 (try (first | assumption | apply okR_num | apply okR_text | apply okR_int | apply okR_take | apply okR_flag | apply okR_fail | exact trivial | exact asB_sl _ | rfl | omega | refine And.intro ?_ ?_ | (simp only [List.length_append, List.length_cons, List.length_nil, List.length_map, pbytes_length, Nat.mul_one]; omega)))); done)) (by first | (dsimp only; done) | (dsimp only; exact rfl) | exact rfl) (by first | (dsimp only; done) | (dsimp only; exact rfl) | exact rfl) ?_); conv => whnf
          | (refine vcall_inl rfl rfl rfl rfl (Nat.le_of_ble_eq_true rfl) ?_)
        | (with_reducible refine Both.mk ?_ ?_) <;> conv => whnf
        | (refine ⟨[], _, _, rfl, ?_⟩); conv => whnf
        | (refine ⟨_, rfl, ?_⟩); conv => whnf
        | (refine ⟨_, unbytes_pbytes _, ?_⟩); conv => whnf
        | exact ⟨_, _, rfl, rfl⟩
        | exact rensG_pu _ _ _ _
        | rfl
        | (rw [snap_own rfl (show (pbytes _).length = _ * 1 from by rw [pbytes_length, Nat.mul_one])]); conv => whnf
        | fail
  · rw [rFail_bad (r := (xs, e)) he]
    have hb : (e == 0) = false := by simpa using he
    repeat' first
      | (with_reducible first | refine bo_run ?_ | refine bw_run ?_ | refine bd_run ?_ | refine Br.tt ?_ | refine Br.ff ?_); conv => whnf
      | (with_reducible refine br_not ?_)
      | (with_reducible first | refine br_dec_tt (by assumption) ?_ | refine br_dec_ff (by assumption) ?_ | refine br_dec_tt (by decide) ?_ | refine br_dec_ff (by decide) ?_); conv => whnf
      | (with_reducible refine br_dec_intro (fun _ => ?_) (fun _ => ?_)) <;> conv => whnf
      | (with_reducible first | refine br_beq_tt (by assumption) ?_ | refine br_beq_ff (by assumption) ?_ | refine br_beq_tt (by decide) ?_ | refine br_beq_ff (by decide) ?_); conv => whnf
      | (with_reducible refine br_beq_intro (fun _ => ?_) (fun _ => ?_)) <;> conv => whnf
      | (with_reducible first | refine br_bne_tt (by assumption) ?_ | refine br_bne_ff (by assumption) ?_ | refine br_bne_tt (by decide) ?_ | refine br_bne_ff (by decide) ?_); conv => whnf
      | (with_reducible refine br_bne_intro (fun _ => ?_) (fun _ => ?_)) <;> conv => whnf
      | (with_reducible first | refine br_of_true (by assumption) ?_ | refine br_of_false (by assumption) ?_); conv => whnf
      | (with_reducible refine br_intro (fun _ => ?_) (fun _ => ?_)) <;> conv => whnf
      | (with_reducible refine and_rfl ?_); conv => whnf
      | (refine and_late (fun _ => ?_) (by first | omega | (show _ = _; rfl) | exact trivial | exact ⟨rfl, trivial⟩ | exact ⟨rfl, rfl, trivial⟩ | exact (fun h => by cases h) | exact (fun _ => ⟨rfl, rfl⟩) | exact Nat.le_of_ble_eq_true rfl | (simp only [List.length_map, List.length_append, pbytes, Nat.mul_one, List.length_cons, List.length_nil]; first | done | omega))); conv => whnf
      | (with_reducible refine and_late (fun _ => ?_) ?_); conv => whnf
      | (with_reducible refine vcall_id ?_)
        first
        | (refine call_relM (α := R) (x := _) rfl rfl (by ((iterate 40 (try (first | assumption | apply okR_num | apply okR_text | apply okR_int | apply okR_take | apply okR_flag | apply okR_fail | exact trivial | exact asB_sl _ | rfl | omega | refine And.intro ?_ ?_ | (simp only [List.length_append, List.length_cons, List.length_nil, List.length_map, pbytes_length, Nat.mul_one]; omega)))); done)) (by first | (dsimp only; done) | (dsimp only; exact rfl) | exact rfl) (by first | (dsimp only; done) | (dsimp only; exact rfl) | exact rfl) ?_); conv => whnf
        | (refine vcall_inl rfl rfl rfl rfl (Nat.le_of_ble_eq_true rfl) ?_)
      | (with_reducible refine Both.mk ?_ ?_) <;> conv => whnf
      | (refine ⟨[], _, _, rfl, ?_⟩); conv => whnf
      | (refine ⟨_, rfl, ?_⟩); conv => whnf
      | (refine ⟨_, unbytes_pbytes _, ?_⟩); conv => whnf
      | exact ⟨_, _, rfl, rfl⟩
      | exact rensG_pu _ _ _ _
      | rfl
      | (rw [snap_own rfl (show (pbytes _).length = _ * 1 from by rw [pbytes_length, Nat.mul_one])]); conv => whnf
      | fail
theorem con_pack_Reader_form : Contract Try.prog id_pack_Reader_form (RelM ty_pack_Reader (fun ((r, so, x) : R × Bool × Int) => True) (fun (r, _) => rc r) (fun (_, so, x) => [bl so, u64 x]) (fun (r, so, x) => u64 (if (rForm so r).2 = 0 then x else 0)) (fun (r, so, _) => rc (rForm so r))) := by
  refine (code_pack_Reader_form).meth (Known.cons con_pack_Reader_Fail (Known.cons con_pack_Reader_alive Known.nil)) (by rintro x -; first | exact Nat.le_of_ble_eq_true rfl | (obtain ⟨_, _⟩ := x; exact Nat.le_of_ble_eq_true rfl) | (obtain ⟨_, _, _⟩ := x; exact Nat.le_of_ble_eq_true rfl) | (obtain ⟨_, _, _, _⟩ := x; exact Nat.le_of_ble_eq_true rfl) | (obtain ⟨_, _, _, _, _⟩ := x; exact Nat.le_of_ble_eq_true rfl) | (obtain ⟨_, _, _, _, _, _⟩ := x; exact Nat.le_of_ble_eq_true rfl) | (obtain ⟨_, _, _, _, _, _, _⟩ := x; exact Nat.le_of_ble_eq_true rfl) | (obtain ⟨_, _, _, _, _, _, _, _⟩ := x; exact Nat.le_of_ble_eq_true rfl)) ?_
  rintro ⟨r, so, x⟩ g -
  dsimp only
  cases so
  · simp only [rForm, Bool.false_eq_true, if_false]
    repeat' first
      | (with_reducible first | refine bo_run ?_ | refine bw_run ?_ | refine bd_run ?_ | refine Br.tt ?_ | refine Br.ff ?_); conv => whnf
      | (with_reducible refine br_not ?_)
      | (with_reducible first | refine br_dec_tt (by assumption) ?_ | refine br_dec_ff (by assumption) ?_ | refine br_dec_tt (by decide) ?_ | refine br_dec_ff (by decide) ?_); conv => whnf
      | (with_reducible refine br_dec_intro (fun _ => ?_) (fun _ => ?_)) <;> conv => whnf
      | (with_reducible first | refine br_beq_tt (by assumption) ?_ | refine br_beq_ff (by assumption) ?_ | refine br_beq_tt (by decide) ?_ | refine br_beq_ff (by decide) ?_); conv => whnf
      | (with_reducible refine br_beq_intro (fun _ => ?_) (fun _ => ?_)) <;> conv => whnf
      | (with_reducible first | refine br_bne_tt (by assumption) ?_ | refine br_bne_ff (by assumption) ?_ | refine br_bne_tt (by decide) ?_ | refine br_bne_ff (by decide) ?_); conv => whnf
      | (with_reducible refine br_bne_intro (fun _ => ?_) (fun _ => ?_)) <;> conv => whnf
      | (with_reducible first | refine br_of_true (by assumption) ?_ | refine br_of_false (by assumption) ?_); conv => whnf
      | (with_reducible refine br_intro (fun _ => ?_) (fun _ => ?_)) <;> conv => whnf
      | (with_reducible refine and_rfl ?_); conv => whnf
      | (refine and_late (fun _ => ?_) (by first | omega | (show _ = _; rfl) | exact trivial | exact ⟨rfl, trivial⟩ | exact ⟨rfl, rfl, trivial⟩ | exact (fun h => by cases h) | exact (fun _ => ⟨rfl, rfl⟩) | exact Nat.le_of_ble_eq_true rfl | (simp only [List.length_map, List.length_append, pbytes, Nat.mul_one, List.length_cons, List.length_nil]; first | done | omega))); conv => whnf
      | (with_reducible refine and_late (fun _ => ?_) ?_); conv => whnf
      | (with_reducible refine vcall_id ?_)
        first
        | (refine call_relM (α := R) (x := _) rfl rfl (by ((iterate 40 (try (first | assumption | apply okR_num | apply okR_text | apply okR_int | apply okR_take | apply okR_flag | apply okR_fail | exact trivial | exact asB_sl _ | rfl | omega | refine And.intro ?_ ?_ | (simp only [List.length_append, List.length_cons, List.length_nil, List.length_map, pbytes_length, Nat.mul_one]; omega)))); done)) (by first | (dsimp only; done) | (dsimp only; exact rfl) | exact rfl) (by first | (dsimp only; done) | (dsimp only; exact rfl) | exact rfl) ?_); conv => whnf
        | (refine call_relM (α := R × Int) (x := (_, _)) rfl rfl (by ((iterate 40 (try (first | assumption | apply okR_num | apply okR_text | apply okR_int | apply okR_take | apply okR_flag | apply okR_fail | exact trivial | exact asB_sl _ | rfl | omega | refine And.intro ?_ ?_ | (simp only [List.length_append, List.length_cons, List.length_nil, List.length_map, pbytes_length, Nat.mul_one]; omega)))); done)) (by first | (dsimp only; done) | (dsimp only; exact rfl) | exact rfl) (by first | (dsimp only; done) | (dsimp only; exact rfl) | exact rfl) ?_); conv => whnf
        | (refine vcall_inl rfl rfl rfl rfl (Nat.le_of_ble_eq_true rfl) ?_)
      | (with_reducible refine Both.mk ?_ ?_) <;> conv => whnf
      | (refine ⟨[], _, _, rfl, ?_⟩); conv => whnf
      | (refine ⟨_, rfl, ?_⟩); conv => whnf
      | (refine ⟨_, unbytes_pbytes _, ?_⟩); conv => whnf
      | exact ⟨_, _, rfl, rfl⟩
      | exact rensG_pu _ _ _ _
      | rfl
      | (rw [snap_own rfl (show (pbytes _).length = _ * 1 from by rw [pbytes_length, Nat.mul_one])]); conv => whnf
      | fail
    all_goals rename_i q
    all_goals first | rw [if_pos q]; rfl | rw [if_neg q]; rfl
  · simp only [rForm, if_true]
    repeat' first
      | (with_reducible first | refine bo_run ?_ | refine bw_run ?_ | refine bd_run ?_ | refine Br.tt ?_ | refine Br.ff ?_); conv => whnf
      | (with_reducible refine br_not ?_)
      | (with_reducible first | refine br_dec_tt (by assumption) ?_ | refine br_dec_ff (by assumption) ?_ | refine br_dec_tt (by decide) ?_ | refine br_dec_ff (by decide) ?_); conv => whnf
      | (with_reducible refine br_dec_intro (fun _ => ?_) (fun _ => ?_)) <;> conv => whnf
      | (with_reducible first | refine br_beq_tt (by assumption) ?_ | refine br_beq_ff (by assumption) ?_ | refine br_beq_tt (by decide) ?_ | refine br_beq_ff (by decide) ?_); conv => whnf
      | (with_reducible refine br_beq_intro (fun _ => ?_) (fun _ => ?_)) <;> conv => whnf
      | (with_reducible first | refine br_bne_tt (by assumption) ?_ | refine br_bne_ff (by assumption) ?_ | refine br_bne_tt (by decide) ?_ | refine br_bne_ff (by decide) ?_); conv => whnf
      | (with_reducible refine br_bne_intro (fun _ => ?_) (fun _ => ?_)) <;> conv => whnf
      | (with_reducible first | refine br_of_true (by assumption) ?_ | refine br_of_false (by assumption) ?_); conv => whnf
      | (with_reducible refine br_intro (fun _ => ?_) (fun _ => ?_)) <;> conv => whnf
      | (with_reducible refine and_rfl ?_); conv => whnf
      | (refine and_late (fun _ => ?_) (by first | omega | (show _ = _; rfl) | exact trivial | exact ⟨rfl, trivial⟩ | exact ⟨rfl, rfl, trivial⟩ | exact (fun h => by cases h) | exact (fun _ => ⟨rfl, rfl⟩) | exact Nat.le_of_ble_eq_true rfl | (simp only [List.length_map, List.length_append, pbytes, Nat.mul_one, List.length_cons, List.length_nil]; first | done | omega))); conv => whnf
      | (with_reducible refine and_late (fun _ => ?_) ?_); conv => whnf
      | (with_reducible refine vcall_id ?_)
        first
        | (refine call_relM (α := R) (x := _) rfl rfl (by ((iterate 40 (try (first | assumption | apply okR_num | apply okR_text | apply okR_int | apply okR_take | apply okR_flag | apply okR_fail | exact trivial | exact asB_sl _ | rfl | omega | refine And.intro ?_ ?_ | (simp only [List.length_append, List.length_cons, List.length_nil, List.length_map, pbytes_length, Nat.mul_one]; omega)))); done)) (by first | (dsimp only; done) | (dsimp only; exact rfl) | exact rfl) (by first | (dsimp only; done) | (dsimp only; exact rfl) | exact rfl) ?_); conv => whnf
        | (refine call_relM (α := R × Int) (x := (_, _)) rfl rfl (by ((iterate 40 (try (first | assumption | apply okR_num | apply okR_text | apply okR_int | apply okR_take | apply okR_flag | apply okR_fail | exact trivial | exact asB_sl _ | rfl | omega | refine And.intro ?_ ?_ | (simp only [List.length_append, List.length_cons, List.length_nil, List.length_map, pbytes_length, Nat.mul_one]; omega)))); done)) (by first | (dsimp only; done) | (dsimp only; exact rfl) | exact rfl) (by first | (dsimp only; done) | (dsimp only; exact rfl) | exact rfl) ?_); conv => whnf
        | (refine vcall_inl rfl rfl rfl rfl (Nat.le_of_ble_eq_true rfl) ?_)
      | (with_reducible refine Both.mk ?_ ?_) <;> conv => whnf
      | (refine ⟨[], _, _, rfl, ?_⟩); conv => whnf
      | (refine ⟨_, rfl, ?_⟩); conv => whnf
      | (refine ⟨_, unbytes_pbytes _, ?_⟩); conv => whnf
      | exact ⟨_, _, rfl, rfl⟩
      | exact rensG_pu _ _ _ _
      | rfl
      | (rw [snap_own rfl (show (pbytes _).length = _ * 1 from by rw [pbytes_length, Nat.mul_one])]); conv => whnf
      | fail
    all_goals rename_i q
    all_goals first | rw [if_pos q]; rfl | rw [if_neg q]; rfl
theorem cut_take {xs : List Int} {n : Nat} (h : n ≤ xs.length) : PV.sl ((n : Int).toNat - Int.toNat 0) (List.drop (Int.toNat 0 * 1) (List.take ((n : Int).toNat * 1) (pbytes xs))) = bsl (xs.take n) := by
  simp [pbytes, List.map_take, Nat.min_eq_left h]
theorem cut_drop {xs : List Int} {n : Nat} (h : n ≤ xs.length) : PV.sl ((xs.length : Int).toNat - (n : Int).toNat) (List.drop ((n : Int).toNat * 1) (List.take ((xs.length : Int).toNat * 1) (pbytes xs))) = bsl (xs.drop n) := by
  simp only [Int.toNat_natCast, Nat.mul_one]
  rw [List.take_of_length_le (by rw [pbytes_length]; exact Nat.le_refl _)]
  simp [pbytes, List.map_drop]
theorem con_pack_Reader_bytes : Contract Try.prog id_pack_Reader_bytes (RelM ty_pack_Reader (fun ((r, n) : R × Nat) => okR r) (fun (r, _) => rc r) (fun (_, n) => [i64 n]) (fun (r, n) => rBytes n r) (fun (r, n) => rc (rTake n r).2)) := by
  refine (code_pack_Reader_bytes).meth (Known.cons con_pack_Reader_alive (Known.cons con_pack_Reader_Fail Known.nil)) (by rintro x -; first | exact Nat.le_of_ble_eq_true rfl | (obtain ⟨_, _⟩ := x; exact Nat.le_of_ble_eq_true rfl) | (obtain ⟨_, _, _⟩ := x; exact Nat.le_of_ble_eq_true rfl) | (obtain ⟨_, _, _, _⟩ := x; exact Nat.le_of_ble_eq_true rfl) | (obtain ⟨_, _, _, _, _⟩ := x; exact Nat.le_of_ble_eq_true rfl) | (obtain ⟨_, _, _, _, _, _⟩ := x; exact Nat.le_of_ble_eq_true rfl) | (obtain ⟨_, _, _, _, _, _, _⟩ := x; exact Nat.le_of_ble_eq_true rfl) | (obtain ⟨_, _, _, _, _, _, _, _⟩ := x; exact Nat.le_of_ble_eq_true rfl)) ?_
  rintro ⟨⟨xs, e⟩, n⟩ g ok
  dsimp only
  have hl := ok.2.1
  simp only at hl
  by_cases he : e = 0
  · subst he
    have hb : (0 == (0 : Int)) = true := rfl
    by_cases hl : xs.length < n
    · have hgt : (n : Int) > (xs.length : Int) := by omega
      rw [rTake_short hl, show rBytes n (xs, 0) = nilS from by rw [rBytes, if_neg (by simp; omega)]]
      rw [show rc (xs, 0) = [bsl xs, i64 0, bl true] from rfl]
      repeat' first
        | (with_reducible first | refine bo_run ?_ | refine bw_run ?_ | refine bd_run ?_ | refine Br.tt ?_ | refine Br.ff ?_); conv => whnf
        | (with_reducible refine br_not ?_)
        | (with_reducible first | refine br_dec_tt (by assumption) ?_ | refine br_dec_ff (by assumption) ?_ | refine br_dec_tt (by decide) ?_ | refine br_dec_ff (by decide) ?_); conv => whnf
        | (with_reducible refine br_dec_intro (fun _ => ?_) (fun _ => ?_)) <;> conv => whnf
        | (with_reducible first | refine br_beq_tt (by assumption) ?_ | refine br_beq_ff (by assumption) ?_ | refine br_beq_tt (by decide) ?_ | refine br_beq_ff (by decide) ?_); conv => whnf
        | (with_reducible refine br_beq_intro (fun _ => ?_) (fun _ => ?_)) <;> conv => whnf
        | (with_reducible first | refine br_bne_tt (by assumption) ?_ | refine br_bne_ff (by assumption) ?_ | refine br_bne_tt (by decide) ?_ | refine br_bne_ff (by decide) ?_); conv => whnf
        | (with_reducible refine br_bne_intro (fun _ => ?_) (fun _ => ?_)) <;> conv => whnf
        | (with_reducible first | refine br_of_true (by assumption) ?_ | refine br_of_false (by assumption) ?_); conv => whnf
        | (with_reducible refine br_intro (fun _ => ?_) (fun _ => ?_)) <;> conv => whnf
        | (with_reducible refine and_rfl ?_); conv => whnf
        | (refine and_late (fun _ => ?_) (by first | omega | (show _ = _; rfl) | exact trivial | exact ⟨rfl, trivial⟩ | exact ⟨rfl, rfl, trivial⟩ | exact (fun h => by cases h) | exact (fun _ => ⟨rfl, rfl⟩) | exact Nat.le_of_ble_eq_true rfl | (simp only [List.length_map, List.length_append, pbytes, Nat.mul_one, List.length_cons, List.length_nil]; first | done | omega))); conv => whnf
        | (with_reducible refine and_late (fun _ => ?_) ?_); conv => whnf
        | (with_reducible refine vcall_id ?_)
          first
          | (refine vcall_inl rfl rfl rfl rfl (Nat.le_of_ble_eq_true rfl) ?_)
        | (with_reducible refine Both.mk ?_ ?_) <;> conv => whnf
        | (refine ⟨[], _, _, rfl, ?_⟩); conv => whnf
        | (refine ⟨_, rfl, ?_⟩); conv => whnf
        | (refine ⟨_, unbytes_pbytes _, ?_⟩); conv => whnf
        | exact ⟨_, _, rfl, rfl⟩
        | exact rensG_pu _ _ _ _
        | rfl
        | (rw [snap_own rfl (show (pbytes _).length = _ * 1 from by rw [pbytes_length, Nat.mul_one])]); conv => whnf
        | fail
      refine call_relM (x := (xs, 0)) (p := bl true) rfl rfl trivial (by rfl) rfl ?_
      rw [show rc (xs, 0) = [bsl xs, i64 0, bl true] from rfl]
      conv => whnf
      repeat' first
        | (with_reducible first | refine bo_run ?_ | refine bw_run ?_ | refine bd_run ?_ | refine Br.tt ?_ | refine Br.ff ?_); conv => whnf
        | (with_reducible refine br_not ?_)
        | (with_reducible first | refine br_dec_tt (by assumption) ?_ | refine br_dec_ff (by assumption) ?_ | refine br_dec_tt (by decide) ?_ | refine br_dec_ff (by decide) ?_); conv => whnf
        | (with_reducible refine br_dec_intro (fun _ => ?_) (fun _ => ?_)) <;> conv => whnf
        | (with_reducible first | refine br_beq_tt (by assumption) ?_ | refine br_beq_ff (by assumption) ?_ | refine br_beq_tt (by decide) ?_ | refine br_beq_ff (by decide) ?_); conv => whnf
        | (with_reducible refine br_beq_intro (fun _ => ?_) (fun _ => ?_)) <;> conv => whnf
        | (with_reducible first | refine br_bne_tt (by assumption) ?_ | refine br_bne_ff (by assumption) ?_ | refine br_bne_tt (by decide) ?_ | refine br_bne_ff (by decide) ?_); conv => whnf
        | (with_reducible refine br_bne_intro (fun _ => ?_) (fun _ => ?_)) <;> conv => whnf
        | (with_reducible first | refine br_of_true (by assumption) ?_ | refine br_of_false (by assumption) ?_); conv => whnf
        | (with_reducible refine br_intro (fun _ => ?_) (fun _ => ?_)) <;> conv => whnf
        | (with_reducible refine and_rfl ?_); conv => whnf
        | (refine and_late (fun _ => ?_) (by first | omega | (show _ = _; rfl) | exact trivial | exact ⟨rfl, trivial⟩ | exact ⟨rfl, rfl, trivial⟩ | exact (fun h => by cases h) | exact (fun _ => ⟨rfl, rfl⟩) | exact Nat.le_of_ble_eq_true rfl | (simp only [List.length_map, List.length_append, pbytes, Nat.mul_one, List.length_cons, List.length_nil]; first | done | omega))); conv => whnf
        | (with_reducible refine and_late (fun _ => ?_) ?_); conv => whnf
        | (with_reducible refine vcall_id ?_)
          first
          | (refine vcall_inl rfl rfl rfl rfl (Nat.le_of_ble_eq_true rfl) ?_)
        | (with_reducible refine Both.mk ?_ ?_) <;> conv => whnf
        | (refine ⟨[], _, _, rfl, ?_⟩); conv => whnf
        | (refine ⟨_, rfl, ?_⟩); conv => whnf
        | (refine ⟨_, unbytes_pbytes _, ?_⟩); conv => whnf
        | exact ⟨_, _, rfl, rfl⟩
        | exact rensG_pu _ _ _ _
        | rfl
        | (rw [snap_own rfl (show (pbytes _).length = _ * 1 from by rw [pbytes_length, Nat.mul_one])]); conv => whnf
        | fail
      refine call_relM (x := ((xs, 0), 4)) rfl rfl trivial rfl rfl ?_
      rw [rFail_0 (by omega)]
      conv => whnf
      repeat' first
        | (with_reducible first | refine bo_run ?_ | refine bw_run ?_ | refine bd_run ?_ | refine Br.tt ?_ | refine Br.ff ?_); conv => whnf
        | (with_reducible refine br_not ?_)
        | (with_reducible first | refine br_dec_tt (by assumption) ?_ | refine br_dec_ff (by assumption) ?_ | refine br_dec_tt (by decide) ?_ | refine br_dec_ff (by decide) ?_); conv => whnf
        | (with_reducible refine br_dec_intro (fun _ => ?_) (fun _ => ?_)) <;> conv => whnf
        | (with_reducible first | refine br_beq_tt (by assumption) ?_ | refine br_beq_ff (by assumption) ?_ | refine br_beq_tt (by decide) ?_ | refine br_beq_ff (by decide) ?_); conv => whnf
        | (with_reducible refine br_beq_intro (fun _ => ?_) (fun _ => ?_)) <;> conv => whnf
        | (with_reducible first | refine br_bne_tt (by assumption) ?_ | refine br_bne_ff (by assumption) ?_ | refine br_bne_tt (by decide) ?_ | refine br_bne_ff (by decide) ?_); conv => whnf
        | (with_reducible refine br_bne_intro (fun _ => ?_) (fun _ => ?_)) <;> conv => whnf
        | (with_reducible first | refine br_of_true (by assumption) ?_ | refine br_of_false (by assumption) ?_); conv => whnf
        | (with_reducible refine br_intro (fun _ => ?_) (fun _ => ?_)) <;> conv => whnf
        | (with_reducible refine and_rfl ?_); conv => whnf
        | (refine and_late (fun _ => ?_) (by first | omega | (show _ = _; rfl) | exact trivial | exact ⟨rfl, trivial⟩ | exact ⟨rfl, rfl, trivial⟩ | exact (fun h => by cases h) | exact (fun _ => ⟨rfl, rfl⟩) | exact Nat.le_of_ble_eq_true rfl | (simp only [List.length_map, List.length_append, pbytes, Nat.mul_one, List.length_cons, List.length_nil]; first | done | omega))); conv => whnf
        | (with_reducible refine and_late (fun _ => ?_) ?_); conv => whnf
        | (with_reducible refine vcall_id ?_)
          first
          | (refine call_relM (α := R × Int) (x := (_, _)) rfl rfl (by ((iterate 40 (try (first | assumption | apply okR_num | apply okR_text | apply okR_int | apply okR_take | apply okR_flag | apply okR_fail | exact trivial | exact asB_sl _ | rfl | omega | refine And.intro ?_ ?_ | (simp only [List.length_append, List.length_cons, List.length_nil, List.length_map, pbytes_length, Nat.mul_one]; omega)))); done)) (by first | (dsimp only; done) | (dsimp only; exact rfl) | exact rfl) (by first | (dsimp only; done) | (dsimp only; exact rfl) | exact rfl) ?_); conv => whnf
          | (refine call_relM (α := R) (x := _) rfl rfl (by ((iterate 40 (try (first | assumption | apply okR_num | apply okR_text | apply okR_int | apply okR_take | apply okR_flag | apply okR_fail | exact trivial | exact asB_sl _ | rfl | omega | refine And.intro ?_ ?_ | (simp only [List.length_append, List.length_cons, List.length_nil, List.length_map, pbytes_length, Nat.mul_one]; omega)))); done)) (by first | (dsimp only; done) | (dsimp only; exact rfl) | exact rfl) (by first | (dsimp only; done) | (dsimp only; exact rfl) | exact rfl) ?_); conv => whnf
          | (refine vcall_inl rfl rfl rfl rfl (Nat.le_of_ble_eq_true rfl) ?_)
        | (with_reducible refine Both.mk ?_ ?_) <;> conv => whnf
        | (refine ⟨[], _, _, rfl, ?_⟩); conv => whnf
        | (refine ⟨_, rfl, ?_⟩); conv => whnf
        | (refine ⟨_, unbytes_pbytes _, ?_⟩); conv => whnf
        | exact ⟨_, _, rfl, rfl⟩
        | exact rensG_pu _ _ _ _
        | rfl
        | (rw [snap_own rfl (show (pbytes _).length = _ * 1 from by rw [pbytes_length, Nat.mul_one])]); conv => whnf
        | fail
    · have hgt : ¬ (n : Int) > (xs.length : Int) := by omega
      have c1 := cut_take (xs := xs) (n := n) (by omega)
      have c2 := cut_drop (xs := xs) (n := n) (by omega)
      rw [rTake_ok (by omega), show rBytes n (xs, 0) = bsl (xs.take n) from by rw [rBytes, if_pos ⟨rfl, by simp; omega⟩]]
      rw [show rc (xs, 0) = [bsl xs, i64 0, bl true] from rfl]
      repeat' first
        | (with_reducible first | refine bo_run ?_ | refine bw_run ?_ | refine bd_run ?_ | refine Br.tt ?_ | refine Br.ff ?_); conv => whnf
        | (with_reducible refine br_not ?_)
        | (with_reducible first | refine br_dec_tt (by assumption) ?_ | refine br_dec_ff (by assumption) ?_ | refine br_dec_tt (by decide) ?_ | refine br_dec_ff (by decide) ?_); conv => whnf
        | (with_reducible refine br_dec_intro (fun _ => ?_) (fun _ => ?_)) <;> conv => whnf
        | (with_reducible first | refine br_beq_tt (by assumption) ?_ | refine br_beq_ff (by assumption) ?_ | refine br_beq_tt (by decide) ?_ | refine br_beq_ff (by decide) ?_); conv => whnf
        | (with_reducible refine br_beq_intro (fun _ => ?_) (fun _ => ?_)) <;> conv => whnf
        | (with_reducible first | refine br_bne_tt (by assumption) ?_ | refine br_bne_ff (by assumption) ?_ | refine br_bne_tt (by decide) ?_ | refine br_bne_ff (by decide) ?_); conv => whnf
        | (with_reducible refine br_bne_intro (fun _ => ?_) (fun _ => ?_)) <;> conv => whnf
        | (with_reducible first | refine br_of_true (by assumption) ?_ | refine br_of_false (by assumption) ?_); conv => whnf
        | (with_reducible refine br_intro (fun _ => ?_) (fun _ => ?_)) <;> conv => whnf
        | (with_reducible refine and_rfl ?_); conv => whnf
        | (refine and_late (fun _ => ?_) (by first | omega | (show _ = _; rfl) | exact trivial | exact ⟨rfl, trivial⟩ | exact ⟨rfl, rfl, trivial⟩ | exact (fun h => by cases h) | exact (fun _ => ⟨rfl, rfl⟩) | exact Nat.le_of_ble_eq_true rfl | (simp only [List.length_map, List.length_append, pbytes, Nat.mul_one, List.length_cons, List.length_nil]; first | done | omega))); conv => whnf
        | (with_reducible refine and_late (fun _ => ?_) ?_); conv => whnf
        | (with_reducible refine vcall_id ?_)
          first
          | (refine vcall_inl rfl rfl rfl rfl (Nat.le_of_ble_eq_true rfl) ?_)
        | (with_reducible refine Both.mk ?_ ?_) <;> conv => whnf
        | (refine ⟨[], _, _, rfl, ?_⟩); conv => whnf
        | (refine ⟨_, rfl, ?_⟩); conv => whnf
        | (refine ⟨_, unbytes_pbytes _, ?_⟩); conv => whnf
        | exact ⟨_, _, rfl, rfl⟩
        | exact rensG_pu _ _ _ _
        | rfl
        | (rw [snap_own rfl (show (pbytes _).length = _ * 1 from by rw [pbytes_length, Nat.mul_one])]); conv => whnf
        | fail
      refine call_relM (x := (xs, 0)) (p := bl true) rfl rfl trivial (by rfl) rfl ?_
      rw [show rc (xs, 0) = [bsl xs, i64 0, bl true] from rfl]
      conv => whnf
      repeat' first
        | (with_reducible first | refine bo_run ?_ | refine bw_run ?_ | refine bd_run ?_ | refine Br.tt ?_ | refine Br.ff ?_); conv => whnf
        | (with_reducible refine br_not ?_)
        | (with_reducible first | refine br_dec_tt (by assumption) ?_ | refine br_dec_ff (by assumption) ?_ | refine br_dec_tt (by decide) ?_ | refine br_dec_ff (by decide) ?_); conv => whnf
        | (with_reducible refine br_dec_intro (fun _ => ?_) (fun _ => ?_)) <;> conv => whnf
        | (with_reducible first | refine br_beq_tt (by assumption) ?_ | refine br_beq_ff (by assumption) ?_ | refine br_beq_tt (by decide) ?_ | refine br_beq_ff (by decide) ?_); conv => whnf
        | (with_reducible refine br_beq_intro (fun _ => ?_) (fun _ => ?_)) <;> conv => whnf
        | (with_reducible first | refine br_bne_tt (by assumption) ?_ | refine br_bne_ff (by assumption) ?_ | refine br_bne_tt (by decide) ?_ | refine br_bne_ff (by decide) ?_); conv => whnf
        | (with_reducible refine br_bne_intro (fun _ => ?_) (fun _ => ?_)) <;> conv => whnf
        | (with_reducible first | refine br_of_true (by assumption) ?_ | refine br_of_false (by assumption) ?_); conv => whnf
        | (with_reducible refine br_intro (fun _ => ?_) (fun _ => ?_)) <;> conv => whnf
        | (with_reducible refine and_rfl ?_); conv => whnf
        | (refine and_late (fun _ => ?_) (by first | omega | (show _ = _; rfl) | exact trivial | exact ⟨rfl, trivial⟩ | exact ⟨rfl, rfl, trivial⟩ | exact (fun h => by cases h) | exact (fun _ => ⟨rfl, rfl⟩) | exact Nat.le_of_ble_eq_true rfl | (simp only [List.length_map, List.length_append, pbytes, Nat.mul_one, List.length_cons, List.length_nil]; first | done | omega))); conv => whnf
        | (with_reducible refine and_late (fun _ => ?_) ?_); conv => whnf
        | (with_reducible refine vcall_id ?_)
          first
          | (refine vcall_inl rfl rfl rfl rfl (Nat.le_of_ble_eq_true rfl) ?_)
        | (with_reducible refine Both.mk ?_ ?_) <;> conv => whnf
        | (refine ⟨[], _, _, rfl, ?_⟩); conv => whnf
        | (refine ⟨_, rfl, ?_⟩); conv => whnf
        | (refine ⟨_, unbytes_pbytes _, ?_⟩); conv => whnf
        | exact ⟨_, _, rfl, rfl⟩
        | exact rensG_pu _ _ _ _
        | rfl
        | (rw [snap_own rfl (show (pbytes _).length = _ * 1 from by rw [pbytes_length, Nat.mul_one])]); conv => whnf
        | fail
      all_goals first
        | (simp only [packRes, c1, renG]; done)
        | (simp only [c2]; rfl)
  · rw [rTake_bad (r := (xs, e)) he, show rBytes n (xs, e) = nilS from by rw [rBytes, if_neg (fun h => he h.1)]]
    have hb : (e == 0) = false := by simpa using he
    repeat' first
      | (with_reducible first | refine bo_run ?_ | refine bw_run ?_ | refine bd_run ?_ | refine Br.tt ?_ | refine Br.ff ?_); conv => whnf
      | (with_reducible refine br_not ?_)
      | (with_reducible first | refine br_dec_tt (by assumption) ?_ | refine br_dec_ff (by assumption) ?_ | refine br_dec_tt (by decide) ?_ | refine br_dec_ff (by decide) ?_); conv => whnf
      | (with_reducible refine br_dec_intro (fun _ => ?_) (fun _ => ?_)) <;> conv => whnf
      | (with_reducible first | refine br_beq_tt (by assumption) ?_ | refine br_beq_ff (by assumption) ?_ | refine br_beq_tt (by decide) ?_ | refine br_beq_ff (by decide) ?_); conv => whnf
      | (with_reducible refine br_beq_intro (fun _ => ?_) (fun _ => ?_)) <;> conv => whnf
      | (with_reducible first | refine br_bne_tt (by assumption) ?_ | refine br_bne_ff (by assumption) ?_ | refine br_bne_tt (by decide) ?_ | refine br_bne_ff (by decide) ?_); conv => whnf
      | (with_reducible refine br_bne_intro (fun _ => ?_) (fun _ => ?_)) <;> conv => whnf
      | (with_reducible first | refine br_of_true (by assumption) ?_ | refine br_of_false (by assumption) ?_); conv => whnf
      | (with_reducible refine br_intro (fun _ => ?_) (fun _ => ?_)) <;> conv => whnf
      | (with_reducible refine and_rfl ?_); conv => whnf
      | (refine and_late (fun _ => ?_) (by first | omega | (show _ = _; rfl) | exact trivial | exact ⟨rfl, trivial⟩ | exact ⟨rfl, rfl, trivial⟩ | exact (fun h => by cases h) | exact (fun _ => ⟨rfl, rfl⟩) | exact Nat.le_of_ble_eq_true rfl | (simp only [List.length_map, List.length_append, pbytes, Nat.mul_one, List.length_cons, List.length_nil]; first | done | omega))); conv => whnf
      | (with_reducible refine and_late (fun _ => ?_) ?_); conv => whnf
      | (with_reducible refine vcall_id ?_)
        first
        | (refine call_relM (α := R × Int) (x := (_, _)) rfl rfl (by ((iterate 40 (try (first | assumption | apply okR_num | apply okR_text | apply okR_int | apply okR_take | apply okR_flag | apply okR_fail | exact trivial | exact asB_sl _ | rfl | omega | refine And.intro ?_ ?_ | (simp only [List.length_append, List.length_cons, List.length_nil, List.length_map, pbytes_length, Nat.mul_one]; omega)))); done)) (by first | (dsimp only; done) | (dsimp only; exact rfl) | exact rfl) (by first | (dsimp only; done) | (dsimp only; exact rfl) | exact rfl) ?_); conv => whnf
        | (refine call_relM (α := R) (x := _) rfl rfl (by ((iterate 40 (try (first | assumption | apply okR_num | apply okR_text | apply okR_int | apply okR_take | apply okR_flag | apply okR_fail | exact trivial | exact asB_sl _ | rfl | omega | refine And.intro ?_ ?_ | (simp only [List.length_append, List.length_cons, List.length_nil, List.length_map, pbytes_length, Nat.mul_one]; omega)))); done)) (by first | (dsimp only; done) | (dsimp only; exact rfl) | exact rfl) (by first | (dsimp only; done) | (dsimp only; exact rfl) | exact rfl) ?_); conv => whnf
        | (refine vcall_inl rfl rfl rfl rfl (Nat.le_of_ble_eq_true rfl) ?_)
      | (with_reducible refine Both.mk ?_ ?_) <;> conv => whnf
      | (refine ⟨[], _, _, rfl, ?_⟩); conv => whnf
      | (refine ⟨_, rfl, ?_⟩); conv => whnf
      | (refine ⟨_, unbytes_pbytes _, ?_⟩); conv => whnf
      | exact ⟨_, _, rfl, rfl⟩
      | exact rensG_pu _ _ _ _
      | rfl
      | (rw [snap_own rfl (show (pbytes _).length = _ * 1 from by rw [pbytes_length, Nat.mul_one])]); conv => whnf
      | fail
theorem bev_snoc (l : List Int) (c : Int) : bev (l ++ [c]) = bev l * 256 + c.toNat := by unfold bev; rw [List.foldl_append]; rfl
theorem pb_load (l : List Int) {i : Nat} {c : Int} (h : l[i]? = some c) : ((pbytes l).drop (i * 1)) = u8 c :: (pbytes l).drop (i + 1) := by
  rw [Nat.mul_one]
  have hi : i < (pbytes l).length := by rw [pbytes_length]; exact (List.getElem?_eq_some_iff.1 h).1
  rw [List.drop_eq_getElem_cons hi]
  congr 1
  have : (pbytes l)[i]? = some (u8 c) := by simp [pbytes, h]
  rw [List.getElem?_eq_getElem hi] at this
  simpa using this
theorem con_pack_Reader_number : Contract Try.prog id_pack_Reader_number (RelM ty_pack_Reader (fun ((r, n) : R × Nat) => okR r ∧ n ≤ 8) (fun (r, _) => rc r) (fun (_, n) => [i64 n]) (fun (r, n) => u64 (rTake n r).1) (fun (r, n) => rc (rTake n r).2)) := by
  refine (code_pack_Reader_number).meth (Known.cons con_pack_Reader_bytes Known.nil) (by rintro x -; first | exact Nat.le_of_ble_eq_true rfl | (obtain ⟨_, _⟩ := x; exact Nat.le_of_ble_eq_true rfl) | (obtain ⟨_, _, _⟩ := x; exact Nat.le_of_ble_eq_true rfl) | (obtain ⟨_, _, _, _⟩ := x; exact Nat.le_of_ble_eq_true rfl) | (obtain ⟨_, _, _, _, _⟩ := x; exact Nat.le_of_ble_eq_true rfl) | (obtain ⟨_, _, _, _, _, _⟩ := x; exact Nat.le_of_ble_eq_true rfl) | (obtain ⟨_, _, _, _, _, _, _⟩ := x; exact Nat.le_of_ble_eq_true rfl) | (obtain ⟨_, _, _, _, _, _, _, _⟩ := x; exact Nat.le_of_ble_eq_true rfl)) ?_
  rintro ⟨⟨xs, e⟩, n⟩ g ⟨ok, hn⟩
  dsimp only
  have key : ∀ l : List Int, okB l → l.length ≤ 8 → (0 + bev l < 18446744073709551616) := fun l h1 h2 => by
    have := bev_lt h1
    have : 256 ^ l.length ≤ 256 ^ 8 := Nat.pow_le_pow_right (by omega) h2
    omega
  by_cases hl : e = 0 ∧ n ≤ xs.length
  · obtain ⟨rfl, hl⟩ := hl
    have hb : rBytes n (xs, 0) = bsl (xs.take n) := by rw [rBytes, if_pos ⟨rfl, hl⟩]
    have ht := rTake_ok hl
    rw [ht]
    have ok1 := okB_take ok.1 n
    have hlen : (xs.take n).length = n := by rw [List.length_take]; omega
    simp only at ok1
    repeat' first
      | (with_reducible first | refine bo_run ?_ | refine bw_run ?_ | refine bd_run ?_ | refine Br.tt ?_ | refine Br.ff ?_); conv => whnf
      | (with_reducible refine br_not ?_)
      | (with_reducible first | refine br_dec_tt (by assumption) ?_ | refine br_dec_ff (by assumption) ?_ | refine br_dec_tt (by decide) ?_ | refine br_dec_ff (by decide) ?_); conv => whnf
      | (with_reducible refine br_dec_intro (fun _ => ?_) (fun _ => ?_)) <;> conv => whnf
      | (with_reducible first | refine br_beq_tt (by assumption) ?_ | refine br_beq_ff (by assumption) ?_ | refine br_beq_tt (by decide) ?_ | refine br_beq_ff (by decide) ?_); conv => whnf
      | (with_reducible refine br_beq_intro (fun _ => ?_) (fun _ => ?_)) <;> conv => whnf
      | (with_reducible first | refine br_bne_tt (by assumption) ?_ | refine br_bne_ff (by assumption) ?_ | refine br_bne_tt (by decide) ?_ | refine br_bne_ff (by decide) ?_); conv => whnf
      | (with_reducible refine br_bne_intro (fun _ => ?_) (fun _ => ?_)) <;> conv => whnf
      | (with_reducible first | refine br_of_true (by assumption) ?_ | refine br_of_false (by assumption) ?_); conv => whnf
      | (with_reducible refine br_intro (fun _ => ?_) (fun _ => ?_)) <;> conv => whnf
      | (with_reducible refine and_rfl ?_); conv => whnf
      | (refine and_late (fun _ => ?_) (by first | omega | (show _ = _; rfl) | exact trivial | exact ⟨rfl, trivial⟩ | exact ⟨rfl, rfl, trivial⟩ | exact (fun h => by cases h) | exact (fun _ => ⟨rfl, rfl⟩) | exact Nat.le_of_ble_eq_true rfl | (simp only [List.length_map, List.length_append, pbytes, Nat.mul_one, List.length_cons, List.length_nil]; first | done | omega))); conv => whnf
      | (with_reducible refine and_late (fun _ => ?_) ?_); conv => whnf
      | (with_reducible refine vcall_id ?_)
        first
        | (refine vcall_inl rfl rfl rfl rfl (Nat.le_of_ble_eq_true rfl) ?_)
      | (with_reducible refine Both.mk ?_ ?_) <;> conv => whnf
      | (refine ⟨[], _, _, rfl, ?_⟩); conv => whnf
      | (refine ⟨_, rfl, ?_⟩); conv => whnf
      | (refine ⟨_, unbytes_pbytes _, ?_⟩); conv => whnf
      | exact ⟨_, _, rfl, rfl⟩
      | exact rensG_pu _ _ _ _
      | rfl
      | (rw [snap_own rfl (show (pbytes _).length = _ * 1 from by rw [pbytes_length, Nat.mul_one])]); conv => whnf
      | fail
    refine call_relM (x := ((xs, 0), n)) (p := bsl (xs.take n)) rfl rfl ok hb rfl ?_
    dsimp only
    rw [ht]
    conv => whnf
    repeat' first
      | (with_reducible first | refine bo_run ?_ | refine bw_run ?_ | refine bd_run ?_ | refine Br.tt ?_ | refine Br.ff ?_); conv => whnf
      | (with_reducible refine br_not ?_)
      | (with_reducible first | refine br_dec_tt (by assumption) ?_ | refine br_dec_ff (by assumption) ?_ | refine br_dec_tt (by decide) ?_ | refine br_dec_ff (by decide) ?_); conv => whnf
      | (with_reducible refine br_dec_intro (fun _ => ?_) (fun _ => ?_)) <;> conv => whnf
      | (with_reducible first | refine br_beq_tt (by assumption) ?_ | refine br_beq_ff (by assumption) ?_ | refine br_beq_tt (by decide) ?_ | refine br_beq_ff (by decide) ?_); conv => whnf
      | (with_reducible refine br_beq_intro (fun _ => ?_) (fun _ => ?_)) <;> conv => whnf
      | (with_reducible first | refine br_bne_tt (by assumption) ?_ | refine br_bne_ff (by assumption) ?_ | refine br_bne_tt (by decide) ?_ | refine br_bne_ff (by decide) ?_); conv => whnf
      | (with_reducible refine br_bne_intro (fun _ => ?_) (fun _ => ?_)) <;> conv => whnf
      | (with_reducible first | refine br_of_true (by assumption) ?_ | refine br_of_false (by assumption) ?_); conv => whnf
      | (with_reducible refine br_intro (fun _ => ?_) (fun _ => ?_)) <;> conv => whnf
      | (with_reducible refine and_rfl ?_); conv => whnf
      | (refine and_late (fun _ => ?_) (by first | omega | (show _ = _; rfl) | exact trivial | exact ⟨rfl, trivial⟩ | exact ⟨rfl, rfl, trivial⟩ | exact (fun h => by cases h) | exact (fun _ => ⟨rfl, rfl⟩) | exact Nat.le_of_ble_eq_true rfl | (simp only [List.length_map, List.length_append, pbytes, Nat.mul_one, List.length_cons, List.length_nil]; first | done | omega))); conv => whnf
      | (with_reducible refine and_late (fun _ => ?_) ?_); conv => whnf
      | (with_reducible refine vcall_id ?_)
        first
        | (refine vcall_inl rfl rfl rfl rfl (Nat.le_of_ble_eq_true rfl) ?_)
      | (with_reducible refine Both.mk ?_ ?_) <;> conv => whnf
      | (refine ⟨[], _, _, rfl, ?_⟩); conv => whnf
      | (refine ⟨_, rfl, ?_⟩); conv => whnf
      | (refine ⟨_, unbytes_pbytes _, ?_⟩); conv => whnf
      | exact ⟨_, _, rfl, rfl⟩
      | exact rensG_pu _ _ _ _
      | rfl
      | (rw [snap_own rfl (show (pbytes _).length = _ * 1 from by rw [pbytes_length, Nat.mul_one])]); conv => whnf
      | fail
    generalize hl' : xs.take n = l at *
    refine bw_loop (α := Nat) (fun i => [(5, .pu (u64 (bev (l.take i) : Nat))), (10, .pu (bsl l)), (11, .pu (i64 l.length)), (12, .pu (i64 i))])
      (fun _ => [some ⟨ty_pack_Reader, g, (rc (xs.drop n, 0)).map .pu⟩]) (fun i => i ≤ l.length) (fun i => l.length - i) 0 rfl rfl (Nat.zero_le _) ?_
    intro i hi
    repeat' first
      | (with_reducible first | refine bo_run ?_ | refine bw_run ?_ | refine bd_run ?_ | refine Br.tt ?_ | refine Br.ff ?_); conv => whnf
      | (with_reducible refine br_not ?_)
      | (with_reducible first | refine br_dec_tt (by assumption) ?_ | refine br_dec_ff (by assumption) ?_ | refine br_dec_tt (by decide) ?_ | refine br_dec_ff (by decide) ?_); conv => whnf
      | (with_reducible refine br_dec_intro (fun _ => ?_) (fun _ => ?_)) <;> conv => whnf
      | (with_reducible first | refine br_beq_tt (by assumption) ?_ | refine br_beq_ff (by assumption) ?_ | refine br_beq_tt (by decide) ?_ | refine br_beq_ff (by decide) ?_); conv => whnf
      | (with_reducible refine br_beq_intro (fun _ => ?_) (fun _ => ?_)) <;> conv => whnf
      | (with_reducible first | refine br_bne_tt (by assumption) ?_ | refine br_bne_ff (by assumption) ?_ | refine br_bne_tt (by decide) ?_ | refine br_bne_ff (by decide) ?_); conv => whnf
      | (with_reducible refine br_bne_intro (fun _ => ?_) (fun _ => ?_)) <;> conv => whnf
      | (with_reducible first | refine br_of_true (by assumption) ?_ | refine br_of_false (by assumption) ?_); conv => whnf
      | (with_reducible refine br_intro (fun _ => ?_) (fun _ => ?_)) <;> conv => whnf
      | (with_reducible refine and_rfl ?_); conv => whnf
      | (refine and_late (fun _ => ?_) (by first | omega | (show _ = _; rfl) | exact trivial | exact ⟨rfl, trivial⟩ | exact ⟨rfl, rfl, trivial⟩ | exact (fun h => by cases h) | exact (fun _ => ⟨rfl, rfl⟩) | exact Nat.le_of_ble_eq_true rfl | (simp only [List.length_map, List.length_append, pbytes, Nat.mul_one, List.length_cons, List.length_nil]; first | done | omega))); conv => whnf
      | (with_reducible refine and_late (fun _ => ?_) ?_); conv => whnf
      | (with_reducible refine vcall_id ?_)
        first
        | (refine vcall_inl rfl rfl rfl rfl (Nat.le_of_ble_eq_true rfl) ?_)
      | (with_reducible refine Both.mk ?_ ?_) <;> conv => whnf
      | (refine ⟨[], _, _, rfl, ?_⟩); conv => whnf
      | (refine ⟨_, rfl, ?_⟩); conv => whnf
      | (refine ⟨_, unbytes_pbytes _, ?_⟩); conv => whnf
      | exact ⟨_, _, rfl, rfl⟩
      | exact rensG_pu _ _ _ _
      | rfl
      | (rw [snap_own rfl (show (pbytes _).length = _ * 1 from by rw [pbytes_length, Nat.mul_one])]); conv => whnf
      | fail
    · have hi' : i < l.length := by omega
      have hc : l[i]? = some l[i] := List.getElem?_eq_getElem hi'
      have hc2 := ok1 l[i] (List.getElem_mem hi')
      have hx : bev (l.take i) < 72057594037927936 := by
        have h1 := bev_lt (okB_take ok1 i)
        rw [List.length_take] at h1
        have : 256 ^ min i l.length ≤ 256 ^ 7 := Nat.pow_le_pow_right (by omega) (by omega)
        omega
      rw [show (Int.toNat (i : Int)) = i from by omega, pb_load l hc]
      conv => whnf
      repeat' first
        | (with_reducible first | refine bo_run ?_ | refine bw_run ?_ | refine bd_run ?_ | refine Br.tt ?_ | refine Br.ff ?_); conv => whnf
        | (with_reducible refine br_not ?_)
        | (with_reducible first | refine br_dec_tt (by assumption) ?_ | refine br_dec_ff (by assumption) ?_ | refine br_dec_tt (by decide) ?_ | refine br_dec_ff (by decide) ?_); conv => whnf
        | (with_reducible refine br_dec_intro (fun _ => ?_) (fun _ => ?_)) <;> conv => whnf
        | (with_reducible first | refine br_beq_tt (by assumption) ?_ | refine br_beq_ff (by assumption) ?_ | refine br_beq_tt (by decide) ?_ | refine br_beq_ff (by decide) ?_); conv => whnf
        | (with_reducible refine br_beq_intro (fun _ => ?_) (fun _ => ?_)) <;> conv => whnf
        | (with_reducible first | refine br_bne_tt (by assumption) ?_ | refine br_bne_ff (by assumption) ?_ | refine br_bne_tt (by decide) ?_ | refine br_bne_ff (by decide) ?_); conv => whnf
        | (with_reducible refine br_bne_intro (fun _ => ?_) (fun _ => ?_)) <;> conv => whnf
        | (with_reducible first | refine br_of_true (by assumption) ?_ | refine br_of_false (by assumption) ?_); conv => whnf
        | (with_reducible refine br_intro (fun _ => ?_) (fun _ => ?_)) <;> conv => whnf
        | (with_reducible refine and_rfl ?_); conv => whnf
        | (refine and_late (fun _ => ?_) (by first | omega | (show _ = _; rfl) | exact trivial | exact ⟨rfl, trivial⟩ | exact ⟨rfl, rfl, trivial⟩ | exact (fun h => by cases h) | exact (fun _ => ⟨rfl, rfl⟩) | exact Nat.le_of_ble_eq_true rfl | (simp only [List.length_map, List.length_append, pbytes, Nat.mul_one, List.length_cons, List.length_nil]; first | done | omega))); conv => whnf
        | (with_reducible refine and_late (fun _ => ?_) ?_); conv => whnf
        | (with_reducible refine vcall_id ?_)
          first
          | (refine vcall_inl rfl rfl rfl rfl (Nat.le_of_ble_eq_true rfl) ?_)
        | (with_reducible refine Both.mk ?_ ?_) <;> conv => whnf
        | (refine ⟨[], _, _, rfl, ?_⟩); conv => whnf
        | (refine ⟨_, rfl, ?_⟩); conv => whnf
        | (refine ⟨_, unbytes_pbytes _, ?_⟩); conv => whnf
        | exact ⟨_, _, rfl, rfl⟩
        | exact rensG_pu _ _ _ _
        | rfl
        | (rw [snap_own rfl (show (pbytes _).length = _ * 1 from by rw [pbytes_length, Nat.mul_one])]); conv => whnf
        | fail
      refine ⟨_, ?_, i + 1, by omega, rfl, ?_, rfl⟩
      · show l.length - (i + 1) < l.length - i
        omega
      · obtain ⟨c, hcn⟩ : ∃ c : Nat, l[i] = (c : Int) := ⟨l[i].toNat, by omega⟩
        rw [hcn, or_byte hx (by omega), i64_in _ (by omega), show l.take (i + 1) = l.take i ++ [l[i]] from by rw [List.take_add_one, hc]; rfl, bev_snoc, hcn]
        rfl
    · rw [List.length_drop, pbytes_length]
      omega
    · rw [show l.take i = l from List.take_of_length_le (by omega)]
      rfl
  · have hb : rBytes n (xs, e) = nilS := by rw [rBytes, if_neg hl]
    have ht : (rTake n (xs, e)).1 = 0 := by
      by_cases he : e = 0
      · subst he
        rw [rTake_short (by simp only [true_and] at hl; omega)]
      · rw [rTake_bad (r := (xs, e)) he]
    rw [ht]
    repeat' first
      | (with_reducible first | refine bo_run ?_ | refine bw_run ?_ | refine bd_run ?_ | refine Br.tt ?_ | refine Br.ff ?_); conv => whnf
      | (with_reducible refine br_not ?_)
      | (with_reducible first | refine br_dec_tt (by assumption) ?_ | refine br_dec_ff (by assumption) ?_ | refine br_dec_tt (by decide) ?_ | refine br_dec_ff (by decide) ?_); conv => whnf
      | (with_reducible refine br_dec_intro (fun _ => ?_) (fun _ => ?_)) <;> conv => whnf
      | (with_reducible first | refine br_beq_tt (by assumption) ?_ | refine br_beq_ff (by assumption) ?_ | refine br_beq_tt (by decide) ?_ | refine br_beq_ff (by decide) ?_); conv => whnf
      | (with_reducible refine br_beq_intro (fun _ => ?_) (fun _ => ?_)) <;> conv => whnf
      | (with_reducible first | refine br_bne_tt (by assumption) ?_ | refine br_bne_ff (by assumption) ?_ | refine br_bne_tt (by decide) ?_ | refine br_bne_ff (by decide) ?_); conv => whnf
      | (with_reducible refine br_bne_intro (fun _ => ?_) (fun _ => ?_)) <;> conv => whnf
      | (with_reducible first | refine br_of_true (by assumption) ?_ | refine br_of_false (by assumption) ?_); conv => whnf
      | (with_reducible refine br_intro (fun _ => ?_) (fun _ => ?_)) <;> conv => whnf
      | (with_reducible refine and_rfl ?_); conv => whnf
      | (refine and_late (fun _ => ?_) (by first | omega | (show _ = _; rfl) | exact trivial | exact ⟨rfl, trivial⟩ | exact ⟨rfl, rfl, trivial⟩ | exact (fun h => by cases h) | exact (fun _ => ⟨rfl, rfl⟩) | exact Nat.le_of_ble_eq_true rfl | (simp only [List.length_map, List.length_append, pbytes, Nat.mul_one, List.length_cons, List.length_nil]; first | done | omega))); conv => whnf
      | (with_reducible refine and_late (fun _ => ?_) ?_); conv => whnf
      | (with_reducible refine vcall_id ?_)
        first
        | (refine vcall_inl rfl rfl rfl rfl (Nat.le_of_ble_eq_true rfl) ?_)
      | (with_reducible refine Both.mk ?_ ?_) <;> conv => whnf
      | (refine ⟨[], _, _, rfl, ?_⟩); conv => whnf
      | (refine ⟨_, rfl, ?_⟩); conv => whnf
      | (refine ⟨_, unbytes_pbytes _, ?_⟩); conv => whnf
      | exact ⟨_, _, rfl, rfl⟩
      | exact rensG_pu _ _ _ _
      | rfl
      | (rw [snap_own rfl (show (pbytes _).length = _ * 1 from by rw [pbytes_length, Nat.mul_one])]); conv => whnf
      | fail
    refine call_relM (x := ((xs, e), n)) (p := nilS) rfl rfl ok hb rfl ?_
    dsimp only
    conv => whnf
    repeat' first
      | (with_reducible first | refine bo_run ?_ | refine bw_run ?_ | refine bd_run ?_ | refine Br.tt ?_ | refine Br.ff ?_); conv => whnf
      | (with_reducible refine br_not ?_)
      | (with_reducible first | refine br_dec_tt (by assumption) ?_ | refine br_dec_ff (by assumption) ?_ | refine br_dec_tt (by decide) ?_ | refine br_dec_ff (by decide) ?_); conv => whnf
      | (with_reducible refine br_dec_intro (fun _ => ?_) (fun _ => ?_)) <;> conv => whnf
      | (with_reducible first | refine br_beq_tt (by assumption) ?_ | refine br_beq_ff (by assumption) ?_ | refine br_beq_tt (by decide) ?_ | refine br_beq_ff (by decide) ?_); conv => whnf
      | (with_reducible refine br_beq_intro (fun _ => ?_) (fun _ => ?_)) <;> conv => whnf
      | (with_reducible first | refine br_bne_tt (by assumption) ?_ | refine br_bne_ff (by assumption) ?_ | refine br_bne_tt (by decide) ?_ | refine br_bne_ff (by decide) ?_); conv => whnf
      | (with_reducible refine br_bne_intro (fun _ => ?_) (fun _ => ?_)) <;> conv => whnf
      | (with_reducible first | refine br_of_true (by assumption) ?_ | refine br_of_false (by assumption) ?_); conv => whnf
      | (with_reducible refine br_intro (fun _ => ?_) (fun _ => ?_)) <;> conv => whnf
      | (with_reducible refine and_rfl ?_); conv => whnf
      | (refine and_late (fun _ => ?_) (by first | omega | (show _ = _; rfl) | exact trivial | exact ⟨rfl, trivial⟩ | exact ⟨rfl, rfl, trivial⟩ | exact (fun h => by cases h) | exact (fun _ => ⟨rfl, rfl⟩) | exact Nat.le_of_ble_eq_true rfl | (simp only [List.length_map, List.length_append, pbytes, Nat.mul_one, List.length_cons, List.length_nil]; first | done | omega))); conv => whnf
      | (with_reducible refine and_late (fun _ => ?_) ?_); conv => whnf
      | (with_reducible refine vcall_id ?_)
        first
        | (refine vcall_inl rfl rfl rfl rfl (Nat.le_of_ble_eq_true rfl) ?_)
      | (with_reducible refine Both.mk ?_ ?_) <;> conv => whnf
      | (refine ⟨[], _, _, rfl, ?_⟩); conv => whnf
      | (refine ⟨_, rfl, ?_⟩); conv => whnf
      | (refine ⟨_, unbytes_pbytes _, ?_⟩); conv => whnf
      | exact ⟨_, _, rfl, rfl⟩
      | exact rensG_pu _ _ _ _
      | rfl
      | (rw [snap_own rfl (show (pbytes _).length = _ * 1 from by rw [pbytes_length, Nat.mul_one])]); conv => whnf
      | fail
    refine bw_loop (α := Nat) (fun i => [(5, .pu (u64 0)), (10, .pu nilS), (11, .pu (i64 0)), (12, .pu (i64 0))])
      (fun _ => [some ⟨ty_pack_Reader, g, (rc (rTake n (xs, e)).2).map .pu⟩]) (fun i => True) (fun i => 0) 0 rfl rfl trivial ?_
    intro i hi
    repeat' first
      | (with_reducible first | refine bo_run ?_ | refine bw_run ?_ | refine bd_run ?_ | refine Br.tt ?_ | refine Br.ff ?_); conv => whnf
      | (with_reducible refine br_not ?_)
      | (with_reducible first | refine br_dec_tt (by assumption) ?_ | refine br_dec_ff (by assumption) ?_ | refine br_dec_tt (by decide) ?_ | refine br_dec_ff (by decide) ?_); conv => whnf
      | (with_reducible refine br_dec_intro (fun _ => ?_) (fun _ => ?_)) <;> conv => whnf
      | (with_reducible first | refine br_beq_tt (by assumption) ?_ | refine br_beq_ff (by assumption) ?_ | refine br_beq_tt (by decide) ?_ | refine br_beq_ff (by decide) ?_); conv => whnf
      | (with_reducible refine br_beq_intro (fun _ => ?_) (fun _ => ?_)) <;> conv => whnf
      | (with_reducible first | refine br_bne_tt (by assumption) ?_ | refine br_bne_ff (by assumption) ?_ | refine br_bne_tt (by decide) ?_ | refine br_bne_ff (by decide) ?_); conv => whnf
      | (with_reducible refine br_bne_intro (fun _ => ?_) (fun _ => ?_)) <;> conv => whnf
      | (with_reducible first | refine br_of_true (by assumption) ?_ | refine br_of_false (by assumption) ?_); conv => whnf
      | (with_reducible refine br_intro (fun _ => ?_) (fun _ => ?_)) <;> conv => whnf
      | (with_reducible refine and_rfl ?_); conv => whnf
      | (refine and_late (fun _ => ?_) (by first | omega | (show _ = _; rfl) | exact trivial | exact ⟨rfl, trivial⟩ | exact ⟨rfl, rfl, trivial⟩ | exact (fun h => by cases h) | exact (fun _ => ⟨rfl, rfl⟩) | exact Nat.le_of_ble_eq_true rfl | (simp only [List.length_map, List.length_append, pbytes, Nat.mul_one, List.length_cons, List.length_nil]; first | done | omega))); conv => whnf
      | (with_reducible refine and_late (fun _ => ?_) ?_); conv => whnf
      | (with_reducible refine vcall_id ?_)
        first
        | (refine vcall_inl rfl rfl rfl rfl (Nat.le_of_ble_eq_true rfl) ?_)
      | (with_reducible refine Both.mk ?_ ?_) <;> conv => whnf
      | (refine ⟨[], _, _, rfl, ?_⟩); conv => whnf
      | (refine ⟨_, rfl, ?_⟩); conv => whnf
      | (refine ⟨_, unbytes_pbytes _, ?_⟩); conv => whnf
      | exact ⟨_, _, rfl, rfl⟩
      | exact rensG_pu _ _ _ _
      | rfl
      | (rw [snap_own rfl (show (pbytes _).length = _ * 1 from by rw [pbytes_length, Nat.mul_one])]); conv => whnf
      | fail
end Go.Proofs.Ytlodbaikbgbhjaa
