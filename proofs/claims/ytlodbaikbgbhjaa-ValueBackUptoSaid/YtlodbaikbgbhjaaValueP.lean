/- The bytes of values: value.put, value.Put; how values are made; awake. -/
import Derived.Test.YtlodbaikbgbhjaaValueD
import Derived.Test.YtlodbaikbgbhjaaPackX
set_option linter.unusedVariables false
set_option linter.unusedSimpArgs false
set_option maxRecDepth 20000
namespace Go.Proofs.Ytlodbaikbgbhjaa
open Go Go.Vm Go.IntWalk

mutual
def bytesV : V → List Int
  | .mk k i b s l => numB k.toNat ++ (if k = 1 then be 8 (tw i) else if k = 2 then be 8 b.toNat else if k = 3 then textB s else if k = 4 then numB l.length ++ bytesL l else [])
def bytesL : List V → List Int
  | [] => []
  | v :: r => bytesV v ++ bytesL r
end
theorem bytesV_mk {k i b : Int} {s : ByteArray} {l : List V} : bytesV (.mk k i b s l) = numB k.toNat ++ (if k = 1 then be 8 (tw i) else if k = 2 then be 8 b.toNat else if k = 3 then textB s else if k = 4 then numB l.length ++ bytesL l else []) := by rw [bytesV]
theorem bytesL_app : ∀ (l m : List V), bytesL (l ++ m) = bytesL l ++ bytesL m
  | [], m => by rw [bytesL]; rfl
  | v :: l, m => by rw [List.cons_append, bytesL, bytesL, bytesL_app l m, List.append_assoc]
theorem sizeL_all : ∀ {l : List V} {d : Nat} {n : Int}, 0 ≤ sizeL l d n → ∀ {i : Nat} {v : V} {r : List V}, l.drop i = v :: r → 0 ≤ sizeV v d
  | [], d, n, h, i, v, r, hv => by simp at hv
  | x :: l, d, n, h, i, v, r, hv => by
    rw [sizeL] at h
    split at h
    · omega
    · match i, hv with
      | 0, hv =>
        simp only [List.drop_zero, List.cons.injEq] at hv
        rw [← hv.1]; omega
      | i + 1, hv => exact sizeL_all (l := l) h (i := i) hv
theorem numB_small {n : Nat} (h : n < 240) : numB n = [(n : Int)] := by unfold numB; rw [if_pos h]
theorem onlyB_k {k i b : Int} {s : ByteArray} {n : Nat} (h : onlyB k i b s n = true) : 0 ≤ k ∧ k ≤ 4 := by
  simp only [onlyB, Bool.and_eq_true, decide_eq_true_eq] at h
  exact ⟨h.1.2, h.2⟩
theorem sizeV_inv {k i b : Int} {s : ByteArray} {l : List V} {d : Nat} (h : 0 ≤ sizeV (.mk k i b s l) d) : onlyB k i b s l.length = true ∧ s.size ≤ 200 ∧ l.length ≤ 12 ∧ canonI b = b ∧ (k = 4 → 1 ≤ d ∧ 0 ≤ sizeL l (d - 1) 2 ∧ sizeV (.mk k i b s l) d = sizeL l (d - 1) 2) := by
  have h0 := h
  rw [sizeV_mk] at h
  split at h
  · omega
  · rename_i hn
    simp only [not_or, Decidable.not_not] at hn
    obtain ⟨h1, h2, h3, h4⟩ := hn
    refine ⟨by simpa using h1, by omega, by omega, h4, ?_⟩
    rintro rfl
    rw [if_neg (by omega), if_neg (by omega), if_pos rfl] at h
    split at h
    · omega
    · refine ⟨by omega, h, ?_⟩
      rw [sizeV_mk, if_neg (by simp only [not_or, Decidable.not_not]; exact ⟨h1, h2, h3, h4⟩), if_neg (by omega), if_neg (by omega), if_pos rfl, if_neg (by assumption)]
mutual
theorem bytesV_len : ∀ (v : V) (d : Nat), 0 ≤ sizeV v d → ((bytesV v).length : Int) = sizeV v d
  | .mk k i b s l, d, h => by
    obtain ⟨h1, h2, h3, h4, h5⟩ := sizeV_inv h
    obtain ⟨k1, k2⟩ := onlyB_k h1
    rw [bytesV_mk, numB_small (by omega)]
    by_cases q : k = 4
    · obtain ⟨q1, q2, q3⟩ := h5 q
      have := bytesL_len l (d - 1) 2 (by omega) q2
      rw [if_neg (by omega), if_neg (by omega), if_neg (by omega), if_pos q, numB_small (by omega), q3, this]
      simp
      omega
    · have hneg : ¬ (onlyB k i b s l.length = false ∨ s.size > 200 ∨ l.length > 12 ∨ ¬ canonI b = b) := by
        rintro (a | a | a | a)
        · rw [h1] at a; cases a
        · omega
        · omega
        · exact a h4
      have e : sizeV (.mk k i b s l) d = if k = 1 ∨ k = 2 then (9 : Int) else if k = 3 then 2 + (s.size : Int) else if k = 4 then (if d = 0 then -1 else sizeL l (d - 1) 2) else 1 := by rw [sizeV_mk, if_neg hneg]
      rw [e]
      by_cases q1 : k = 1
      · simp only [if_pos q1, if_pos (show k = 1 ∨ k = 2 from .inl q1)]
        simp [be_length]
      · by_cases q2 : k = 2
        · simp only [if_neg q1, if_pos q2, if_pos (show k = 1 ∨ k = 2 from .inr q2)]
          simp [be_length]
        · by_cases q3 : k = 3
          · simp only [if_neg q1, if_neg q2, if_pos q3, if_neg (show ¬ (k = 1 ∨ k = 2) by omega)]
            unfold textB
            rw [numB_small (by omega)]
            simp [bytesOf_length]
            omega
          · simp only [if_neg q1, if_neg q2, if_neg q3, if_neg q, if_neg (show ¬ (k = 1 ∨ k = 2) by omega)]
            simp
theorem bytesL_len : ∀ (l : List V) (d : Nat) (n : Int), 0 ≤ n → 0 ≤ sizeL l d n → sizeL l d n = n + ((bytesL l).length : Int)
  | [], d, n, hn, h => by rw [sizeL, bytesL]; simp
  | v :: r, d, n, hn, h => by
    rw [sizeL] at h ⊢
    split at h
    · omega
    · rename_i q
      rw [if_neg q]
      have h1 := bytesV_len v d (by omega)
      have h2 := bytesL_len r d (n + sizeV v d) (by omega) h
      rw [h2, bytesL, List.length_append]
      omega
end

theorem pv_cells {k i b : Int} {s : ByteArray} {l : List V} {v : V} (h : cellsV v = [i64 k, i64 i, u64 b, str s, .sl l.length (cellsL l)]) : pvV v = .agg [i64 k, i64 i, u64 b, str s, .sl l.length (cellsL l)] := by rw [pvV, h]
abbrev PPut (n : Nat) : PV × V × List Int × Nat → Prop := fun (p, v, xs, d) => rkV v < n ∧ okV v ∧ asB p = some xs ∧ xs.length + (bytesV v).length ≤ 200000000 ∧ 0 ≤ sizeV v d
theorem con_value_put' : ∀ n, Contract Try.prog id_value_put (RelP (PPut n) (fun (p, v, _, _) => [p, pvV v]) (fun (_, v, xs, _) => bsl (xs ++ bytesV v)))
  | 0 => by
    refine (code_value_put).pure Known.nil (by rintro x -; first | exact Nat.le_of_ble_eq_true rfl | (obtain ⟨_, _⟩ := x; exact Nat.le_of_ble_eq_true rfl) | (obtain ⟨_, _, _⟩ := x; exact Nat.le_of_ble_eq_true rfl) | (obtain ⟨_, _, _, _⟩ := x; exact Nat.le_of_ble_eq_true rfl) | (obtain ⟨_, _, _, _, _⟩ := x; exact Nat.le_of_ble_eq_true rfl) | (obtain ⟨_, _, _, _, _, _⟩ := x; exact Nat.le_of_ble_eq_true rfl) | (obtain ⟨_, _, _, _, _, _, _⟩ := x; exact Nat.le_of_ble_eq_true rfl) | (obtain ⟨_, _, _, _, _, _, _, _⟩ := x; exact Nat.le_of_ble_eq_true rfl)) ?_
    rintro ⟨p, v, xs, d⟩ h
    exact absurd h.1 (Nat.not_lt_zero _)
  | n + 1 => by
    have ih := con_value_put' n
    have hN := con_pack_Num.bytes
    have hI := con_pack_Int.bytes
    have hB := con_pack_Bits.bytes
    have hT := con_pack_Text.bytes
    refine (code_value_put).pure (Known.cons hN (Known.cons hI (Known.cons hB (Known.cons hT (Known.cons ih Known.nil))))) (by rintro x -; first | exact Nat.le_of_ble_eq_true rfl | (obtain ⟨_, _⟩ := x; exact Nat.le_of_ble_eq_true rfl) | (obtain ⟨_, _, _⟩ := x; exact Nat.le_of_ble_eq_true rfl) | (obtain ⟨_, _, _, _⟩ := x; exact Nat.le_of_ble_eq_true rfl) | (obtain ⟨_, _, _, _, _⟩ := x; exact Nat.le_of_ble_eq_true rfl) | (obtain ⟨_, _, _, _, _, _⟩ := x; exact Nat.le_of_ble_eq_true rfl) | (obtain ⟨_, _, _, _, _, _, _⟩ := x; exact Nat.le_of_ble_eq_true rfl) | (obtain ⟨_, _, _, _, _, _, _, _⟩ := x; exact Nat.le_of_ble_eq_true rfl)) ?_
    rintro ⟨p, ⟨k, i, b, s, l⟩, xs, d⟩ ⟨h, ok, hp, hz, hs⟩
    simp only [rkV_mk] at h
    have ok1 := ok
    rw [okV_mk] at ok1
    obtain ⟨ok4, ok5, ok6, ok3, ok2⟩ := ok1
    obtain ⟨g1, g2, g3, g4, g5⟩ := sizeV_inv hs
    obtain ⟨k1, k2⟩ := onlyB_k g1
    simp only [pvV_mk]
    generalize hR : bytesV (.mk k i b s l) = R at hz
    have hc := cellsL_length l
    rw [bytesV_mk] at hR
    have hz2 := congrArg List.length hR
    rw [List.length_append] at hz2
    obtain ⟨bn, rfl⟩ : ∃ bn : Nat, b = bn := ⟨b.toNat, by omega⟩
    repeat' first
      | (with_reducible first | refine bo_run ?_ | refine bw_run ?_ | refine bd_run ?_ | refine Br.tt ?_ | refine Br.ff ?_); conv => whnf
      | (with_reducible refine br_not ?_)
      | (with_reducible first | refine br_dec_tt (by assumption) ?_ | refine br_dec_ff (by assumption) ?_ | refine br_dec_tt (by decide) ?_ | refine br_dec_ff (by decide) ?_); conv => whnf
      | (with_reducible refine br_dec_intro (fun _ => ?_) (fun _ => ?_)) <;> conv => whnf
      | (with_reducible first | refine br_beq_tt (by assumption) ?_ | refine br_beq_ff (by assumption) ?_ | refine br_beq_tt (by decide) ?_ | refine br_beq_ff (by decide) ?_); conv => whnf
      | (with_reducible refine br_beq_intro (fun _ => ?_) (fun _ => ?_)) <;> conv => whnf
      | (with_reducible first | refine br_bne_tt (by assumption) ?_ | refine br_bne_ff (by assumption) ?_ | refine br_bne_tt (by decide) ?_ | refine br_bne_ff (by decide) ?_); conv => whnf
      | (with_reducible refine br_bne_intro (fun _ => ?_) (fun _ => ?_)) <;> conv => whnf
      | (with_reducible first | refine br_of_true (by assumption) ?_ | refine br_of_false (by assumption) ?_); conv => whnf
      | (with_reducible refine br_intro (fun _ => ?_) (fun _ => ?_)) <;> conv => whnf
      | (with_reducible refine and_rfl ?_); conv => whnf
      | (refine and_late (fun _ => ?_) (by first | omega | (show _ = _; rfl) | exact trivial | exact ⟨rfl, trivial⟩ | exact ⟨rfl, rfl, trivial⟩ | exact (fun h => by cases h) | exact (fun _ => ⟨rfl, rfl⟩) | exact Nat.le_of_ble_eq_true rfl | (simp only [List.length_map, List.length_append, pbytes, Nat.mul_one, List.length_cons, List.length_nil]; first | done | omega))); conv => whnf
      | (with_reducible refine and_late (fun _ => ?_) ?_); conv => whnf
      | (with_reducible refine vcall_id ?_)
        first
        | (refine vcall_inl rfl rfl rfl rfl (Nat.le_of_ble_eq_true rfl) ?_)
      | (with_reducible refine Both.mk ?_ ?_) <;> conv => whnf
      | (refine ⟨[], _, _, rfl, ?_⟩); conv => whnf
      | (refine ⟨_, rfl, ?_⟩); conv => whnf
      | (refine ⟨_, unbytes_pbytes _, ?_⟩); conv => whnf
      | exact ⟨_, _, rfl, rfl⟩
      | exact rensG_pu _ _ _ _
      | rfl
      | (rw [snap_own rfl (show (pbytes _).length = _ * 1 from by rw [pbytes_length, Nat.mul_one])]); conv => whnf
      | fail
    refine call_rel (x := (p, k, xs)) (p := bsl (xs ++ numB k.toNat)) rfl (by exact ⟨hp, by show xs.length ≤ _; omega, by show k < _; omega⟩) rfl (.inl rfl) ?_
    conv => whnf
    have hx1 : (xs ++ numB k.toNat).length ≤ 200000000 := by rw [List.length_append]; omega
    repeat' first
      | (with_reducible first | refine bo_run ?_ | refine bw_run ?_ | refine bd_run ?_ | refine Br.tt ?_ | refine Br.ff ?_); conv => whnf
      | (with_reducible refine br_not ?_)
      | (with_reducible first | refine br_dec_tt (by assumption) ?_ | refine br_dec_ff (by assumption) ?_ | refine br_dec_tt (by decide) ?_ | refine br_dec_ff (by decide) ?_); conv => whnf
      | (with_reducible refine br_dec_intro (fun _ => ?_) (fun _ => ?_)) <;> conv => whnf
      | (with_reducible first | refine br_beq_tt (by assumption) ?_ | refine br_beq_ff (by assumption) ?_ | refine br_beq_tt (by decide) ?_ | refine br_beq_ff (by decide) ?_); conv => whnf
      | (with_reducible refine br_beq_intro (fun _ => ?_) (fun _ => ?_)) <;> conv => whnf
      | (with_reducible first | refine br_bne_tt (by assumption) ?_ | refine br_bne_ff (by assumption) ?_ | refine br_bne_tt (by decide) ?_ | refine br_bne_ff (by decide) ?_); conv => whnf
      | (with_reducible refine br_bne_intro (fun _ => ?_) (fun _ => ?_)) <;> conv => whnf
      | (with_reducible first | refine br_of_true (by assumption) ?_ | refine br_of_false (by assumption) ?_); conv => whnf
      | (with_reducible refine br_intro (fun _ => ?_) (fun _ => ?_)) <;> conv => whnf
      | (with_reducible refine and_rfl ?_); conv => whnf
      | (refine and_late (fun _ => ?_) (by first | omega | (show _ = _; rfl) | exact trivial | exact ⟨rfl, trivial⟩ | exact ⟨rfl, rfl, trivial⟩ | exact (fun h => by cases h) | exact (fun _ => ⟨rfl, rfl⟩) | exact Nat.le_of_ble_eq_true rfl | (simp only [List.length_map, List.length_append, pbytes, Nat.mul_one, List.length_cons, List.length_nil]; first | done | omega))); conv => whnf
      | (with_reducible refine and_late (fun _ => ?_) ?_); conv => whnf
      | (with_reducible refine vcall_id ?_)
        first
        | (refine vcall_inl rfl rfl rfl rfl (Nat.le_of_ble_eq_true rfl) ?_)
      | (with_reducible refine Both.mk ?_ ?_) <;> conv => whnf
      | (refine ⟨[], _, _, rfl, ?_⟩); conv => whnf
      | (refine ⟨_, rfl, ?_⟩); conv => whnf
      | (refine ⟨_, unbytes_pbytes _, ?_⟩); conv => whnf
      | exact ⟨_, _, rfl, rfl⟩
      | exact rensG_pu _ _ _ _
      | rfl
      | (rw [snap_own rfl (show (pbytes _).length = _ * 1 from by rw [pbytes_length, Nat.mul_one])]); conv => whnf
      | fail
    · have q : k = 1 := by assumption
      rw [if_pos q] at hR
      refine call_rel (x := (bsl (xs ++ numB k.toNat), i, xs ++ numB k.toNat)) (p := bsl (xs ++ R)) rfl (by exact ⟨asB_sl _, by show (xs ++ numB k.toNat).length ≤ _; omega⟩) (by show bsl _ = _; rw [← hR, List.append_assoc]) (.inl rfl) ?_
      conv => whnf
      repeat' first
        | (with_reducible first | refine bo_run ?_ | refine bw_run ?_ | refine bd_run ?_ | refine Br.tt ?_ | refine Br.ff ?_); conv => whnf
        | (with_reducible refine br_not ?_)
        | (with_reducible first | refine br_dec_tt (by assumption) ?_ | refine br_dec_ff (by assumption) ?_ | refine br_dec_tt (by decide) ?_ | refine br_dec_ff (by decide) ?_); conv => whnf
        | (with_reducible refine br_dec_intro (fun _ => ?_) (fun _ => ?_)) <;> conv => whnf
        | (with_reducible first | refine br_beq_tt (by assumption) ?_ | refine br_beq_ff (by assumption) ?_ | refine br_beq_tt (by decide) ?_ | refine br_beq_ff (by decide) ?_); conv => whnf
        | (with_reducible refine br_beq_intro (fun _ => ?_) (fun _ => ?_)) <;> conv => whnf
        | (with_reducible first | refine br_bne_tt (by assumption) ?_ | refine br_bne_ff (by assumption) ?_ | refine br_bne_tt (by decide) ?_ | refine br_bne_ff (by decide) ?_); conv => whnf
        | (with_reducible refine br_bne_intro (fun _ => ?_) (fun _ => ?_)) <;> conv => whnf
        | (with_reducible first | refine br_of_true (by assumption) ?_ | refine br_of_false (by assumption) ?_); conv => whnf
        | (with_reducible refine br_intro (fun _ => ?_) (fun _ => ?_)) <;> conv => whnf
        | (with_reducible refine and_rfl ?_); conv => whnf
        | (refine and_late (fun _ => ?_) (by first | omega | (show _ = _; rfl) | exact trivial | exact ⟨rfl, trivial⟩ | exact ⟨rfl, rfl, trivial⟩ | exact (fun h => by cases h) | exact (fun _ => ⟨rfl, rfl⟩) | exact Nat.le_of_ble_eq_true rfl | (simp only [List.length_map, List.length_append, pbytes, Nat.mul_one, List.length_cons, List.length_nil]; first | done | omega))); conv => whnf
        | (with_reducible refine and_late (fun _ => ?_) ?_); conv => whnf
        | (with_reducible refine vcall_id ?_)
          first
          | (refine vcall_inl rfl rfl rfl rfl (Nat.le_of_ble_eq_true rfl) ?_)
        | (with_reducible refine Both.mk ?_ ?_) <;> conv => whnf
        | (refine ⟨[], _, _, rfl, ?_⟩); conv => whnf
        | (refine ⟨_, rfl, ?_⟩); conv => whnf
        | (refine ⟨_, unbytes_pbytes _, ?_⟩); conv => whnf
        | exact ⟨_, _, rfl, rfl⟩
        | exact rensG_pu _ _ _ _
        | rfl
        | (rw [snap_own rfl (show (pbytes _).length = _ * 1 from by rw [pbytes_length, Nat.mul_one])]); conv => whnf
        | fail
    · have q : k = 2 := by assumption
      rw [if_neg (by omega), if_pos q] at hR
      refine call_rel (x := (bsl (xs ++ numB k.toNat), bn, xs ++ numB k.toNat)) (p := bsl (xs ++ R)) rfl (by exact ⟨asB_sl _, by show (xs ++ numB k.toNat).length ≤ _; omega, by show bn < _; omega⟩) (by show bsl _ = _; rw [← hR, List.append_assoc]; rfl) (.inl rfl) ?_
      conv => whnf
      repeat' first
        | (with_reducible first | refine bo_run ?_ | refine bw_run ?_ | refine bd_run ?_ | refine Br.tt ?_ | refine Br.ff ?_); conv => whnf
        | (with_reducible refine br_not ?_)
        | (with_reducible first | refine br_dec_tt (by assumption) ?_ | refine br_dec_ff (by assumption) ?_ | refine br_dec_tt (by decide) ?_ | refine br_dec_ff (by decide) ?_); conv => whnf
        | (with_reducible refine br_dec_intro (fun _ => ?_) (fun _ => ?_)) <;> conv => whnf
        | (with_reducible first | refine br_beq_tt (by assumption) ?_ | refine br_beq_ff (by assumption) ?_ | refine br_beq_tt (by decide) ?_ | refine br_beq_ff (by decide) ?_); conv => whnf
        | (with_reducible refine br_beq_intro (fun _ => ?_) (fun _ => ?_)) <;> conv => whnf
        | (with_reducible first | refine br_bne_tt (by assumption) ?_ | refine br_bne_ff (by assumption) ?_ | refine br_bne_tt (by decide) ?_ | refine br_bne_ff (by decide) ?_); conv => whnf
        | (with_reducible refine br_bne_intro (fun _ => ?_) (fun _ => ?_)) <;> conv => whnf
        | (with_reducible first | refine br_of_true (by assumption) ?_ | refine br_of_false (by assumption) ?_); conv => whnf
        | (with_reducible refine br_intro (fun _ => ?_) (fun _ => ?_)) <;> conv => whnf
        | (with_reducible refine and_rfl ?_); conv => whnf
        | (refine and_late (fun _ => ?_) (by first | omega | (show _ = _; rfl) | exact trivial | exact ⟨rfl, trivial⟩ | exact ⟨rfl, rfl, trivial⟩ | exact (fun h => by cases h) | exact (fun _ => ⟨rfl, rfl⟩) | exact Nat.le_of_ble_eq_true rfl | (simp only [List.length_map, List.length_append, pbytes, Nat.mul_one, List.length_cons, List.length_nil]; first | done | omega))); conv => whnf
        | (with_reducible refine and_late (fun _ => ?_) ?_); conv => whnf
        | (with_reducible refine vcall_id ?_)
          first
          | (refine vcall_inl rfl rfl rfl rfl (Nat.le_of_ble_eq_true rfl) ?_)
        | (with_reducible refine Both.mk ?_ ?_) <;> conv => whnf
        | (refine ⟨[], _, _, rfl, ?_⟩); conv => whnf
        | (refine ⟨_, rfl, ?_⟩); conv => whnf
        | (refine ⟨_, unbytes_pbytes _, ?_⟩); conv => whnf
        | exact ⟨_, _, rfl, rfl⟩
        | exact rensG_pu _ _ _ _
        | rfl
        | (rw [snap_own rfl (show (pbytes _).length = _ * 1 from by rw [pbytes_length, Nat.mul_one])]); conv => whnf
        | fail
    · have q : k = 3 := by assumption
      rw [if_neg (by omega), if_neg (by omega), if_pos q] at hR
      refine call_rel (x := (bsl (xs ++ numB k.toNat), s, xs ++ numB k.toNat)) (p := bsl (xs ++ R)) rfl (by exact ⟨asB_sl _, by show (xs ++ numB k.toNat).length ≤ _; omega, by show s.size ≤ _; omega⟩) (by show bsl _ = _; rw [← hR, List.append_assoc]) (.inl rfl) ?_
      conv => whnf
      repeat' first
        | (with_reducible first | refine bo_run ?_ | refine bw_run ?_ | refine bd_run ?_ | refine Br.tt ?_ | refine Br.ff ?_); conv => whnf
        | (with_reducible refine br_not ?_)
        | (with_reducible first | refine br_dec_tt (by assumption) ?_ | refine br_dec_ff (by assumption) ?_ | refine br_dec_tt (by decide) ?_ | refine br_dec_ff (by decide) ?_); conv => whnf
        | (with_reducible refine br_dec_intro (fun _ => ?_) (fun _ => ?_)) <;> conv => whnf
        | (with_reducible first | refine br_beq_tt (by assumption) ?_ | refine br_beq_ff (by assumption) ?_ | refine br_beq_tt (by decide) ?_ | refine br_beq_ff (by decide) ?_); conv => whnf
        | (with_reducible refine br_beq_intro (fun _ => ?_) (fun _ => ?_)) <;> conv => whnf
        | (with_reducible first | refine br_bne_tt (by assumption) ?_ | refine br_bne_ff (by assumption) ?_ | refine br_bne_tt (by decide) ?_ | refine br_bne_ff (by decide) ?_); conv => whnf
        | (with_reducible refine br_bne_intro (fun _ => ?_) (fun _ => ?_)) <;> conv => whnf
        | (with_reducible first | refine br_of_true (by assumption) ?_ | refine br_of_false (by assumption) ?_); conv => whnf
        | (with_reducible refine br_intro (fun _ => ?_) (fun _ => ?_)) <;> conv => whnf
        | (with_reducible refine and_rfl ?_); conv => whnf
        | (refine and_late (fun _ => ?_) (by first | omega | (show _ = _; rfl) | exact trivial | exact ⟨rfl, trivial⟩ | exact ⟨rfl, rfl, trivial⟩ | exact (fun h => by cases h) | exact (fun _ => ⟨rfl, rfl⟩) | exact Nat.le_of_ble_eq_true rfl | (simp only [List.length_map, List.length_append, pbytes, Nat.mul_one, List.length_cons, List.length_nil]; first | done | omega))); conv => whnf
        | (with_reducible refine and_late (fun _ => ?_) ?_); conv => whnf
        | (with_reducible refine vcall_id ?_)
          first
          | (refine vcall_inl rfl rfl rfl rfl (Nat.le_of_ble_eq_true rfl) ?_)
        | (with_reducible refine Both.mk ?_ ?_) <;> conv => whnf
        | (refine ⟨[], _, _, rfl, ?_⟩); conv => whnf
        | (refine ⟨_, rfl, ?_⟩); conv => whnf
        | (refine ⟨_, unbytes_pbytes _, ?_⟩); conv => whnf
        | exact ⟨_, _, rfl, rfl⟩
        | exact rensG_pu _ _ _ _
        | rfl
        | (rw [snap_own rfl (show (pbytes _).length = _ * 1 from by rw [pbytes_length, Nat.mul_one])]); conv => whnf
        | fail
    · have q : k = 4 := by assumption
      rw [if_neg (by omega), if_neg (by omega), if_neg (by omega), if_pos q] at hR
      obtain ⟨q1, q2, q3⟩ := g5 q
      refine call_rel (x := (bsl (xs ++ numB k.toNat), (l.length : Int), xs ++ numB k.toNat)) (p := bsl (xs ++ numB k.toNat ++ numB l.length)) rfl (by exact ⟨asB_sl _, by show (xs ++ numB k.toNat).length ≤ _; omega, by show (l.length : Int) < _; omega⟩) rfl (.inl rfl) ?_
      conv => whnf
      repeat' first
        | (with_reducible first | refine bo_run ?_ | refine bw_run ?_ | refine bd_run ?_ | refine Br.tt ?_ | refine Br.ff ?_); conv => whnf
        | (with_reducible refine br_not ?_)
        | (with_reducible first | refine br_dec_tt (by assumption) ?_ | refine br_dec_ff (by assumption) ?_ | refine br_dec_tt (by decide) ?_ | refine br_dec_ff (by decide) ?_); conv => whnf
        | (with_reducible refine br_dec_intro (fun _ => ?_) (fun _ => ?_)) <;> conv => whnf
        | (with_reducible first | refine br_beq_tt (by assumption) ?_ | refine br_beq_ff (by assumption) ?_ | refine br_beq_tt (by decide) ?_ | refine br_beq_ff (by decide) ?_); conv => whnf
        | (with_reducible refine br_beq_intro (fun _ => ?_) (fun _ => ?_)) <;> conv => whnf
        | (with_reducible first | refine br_bne_tt (by assumption) ?_ | refine br_bne_ff (by assumption) ?_ | refine br_bne_tt (by decide) ?_ | refine br_bne_ff (by decide) ?_); conv => whnf
        | (with_reducible refine br_bne_intro (fun _ => ?_) (fun _ => ?_)) <;> conv => whnf
        | (with_reducible first | refine br_of_true (by assumption) ?_ | refine br_of_false (by assumption) ?_); conv => whnf
        | (with_reducible refine br_intro (fun _ => ?_) (fun _ => ?_)) <;> conv => whnf
        | (with_reducible refine and_rfl ?_); conv => whnf
        | (refine and_late (fun _ => ?_) (by first | omega | (show _ = _; rfl) | exact trivial | exact ⟨rfl, trivial⟩ | exact ⟨rfl, rfl, trivial⟩ | exact (fun h => by cases h) | exact (fun _ => ⟨rfl, rfl⟩) | exact Nat.le_of_ble_eq_true rfl | (simp only [List.length_map, List.length_append, pbytes, Nat.mul_one, List.length_cons, List.length_nil]; first | done | omega))); conv => whnf
        | (with_reducible refine and_late (fun _ => ?_) ?_); conv => whnf
        | (with_reducible refine vcall_id ?_)
          first
          | (refine vcall_inl rfl rfl rfl rfl (Nat.le_of_ble_eq_true rfl) ?_)
        | (with_reducible refine Both.mk ?_ ?_) <;> conv => whnf
        | (refine ⟨[], _, _, rfl, ?_⟩); conv => whnf
        | (refine ⟨_, rfl, ?_⟩); conv => whnf
        | (refine ⟨_, unbytes_pbytes _, ?_⟩); conv => whnf
        | exact ⟨_, _, rfl, rfl⟩
        | exact rensG_pu _ _ _ _
        | rfl
        | (rw [snap_own rfl (show (pbytes _).length = _ * 1 from by rw [pbytes_length, Nat.mul_one])]); conv => whnf
        | fail
      refine bw_loopT (α := Nat × List Int) (fun x => [(0, .pu (bsl x.2)), (39, .pu (.sl l.length (cellsL l))), (40, .pu (i64 l.length)), (41, .pu (i64 (x.1 : Int)))])
        (fun _ => [some ⟨ty_Value, 0, [i64 k, i64 i, u64 (bn : Int), str s, PV.sl l.length (cellsL l)].map .pu⟩])
        (fun x => x.1 ≤ l.length ∧ x.2 ++ bytesL (l.drop x.1) = xs ++ R) (fun x => l.length - x.1) (0, xs ++ numB k.toNat ++ numB l.length) rfl rfl ⟨Nat.zero_le _, by rw [← hR]; simp [List.append_assoc]⟩ (fun _ _ => ⟨rfl, rfl, rfl, rfl, trivial⟩) (fun _ _ => ⟨rfl, trivial⟩) ?_
      rintro ⟨j, y⟩ ⟨h1, h2⟩
      simp only at h1 h2
      dsimp only
      by_cases hj : j < l.length
      · obtain ⟨v, hv⟩ := drop_ex hj
        have hdd : 5 ≤ ((cellsL l).drop ((j : Int).toNat * 5)).length := by rw [List.length_drop, Int.toNat_natCast]; omega
        have g : (j : Int) < (l.length : Int) := by omega
        rw [hv, bytesL, ← List.append_assoc] at h2
        have hl2 := congrArg List.length h2
        rw [List.length_append, List.length_append, List.length_append] at hl2
        have hrk := rk_drop hv
        have hok := okL_drop ok2.2 hv
        have hsz := sizeL_all q2 hv
        have hcell : List.take 5 (List.drop ((j : Int).toNat * 5) (cellsL l)) = cellsV v := by rw [Int.toNat_natCast, cells_at hv]
        clear hv
        obtain ⟨k2, i2, b2, s2, l2⟩ := v
        rw [cellsV_mk] at hcell
        generalize hS : bytesV (.mk k2 i2 b2 s2 l2) = S at h2 hl2
        repeat' first
          | (with_reducible first | refine bo_run ?_ | refine bw_run ?_ | refine bd_run ?_ | refine Br.tt ?_ | refine Br.ff ?_); conv => whnf
          | (with_reducible refine br_not ?_)
          | (with_reducible first | refine br_dec_tt (by assumption) ?_ | refine br_dec_ff (by assumption) ?_ | refine br_dec_tt (by decide) ?_ | refine br_dec_ff (by decide) ?_); conv => whnf
          | (with_reducible refine br_dec_intro (fun _ => ?_) (fun _ => ?_)) <;> conv => whnf
          | (with_reducible first | refine br_beq_tt (by assumption) ?_ | refine br_beq_ff (by assumption) ?_ | refine br_beq_tt (by decide) ?_ | refine br_beq_ff (by decide) ?_); conv => whnf
          | (with_reducible refine br_beq_intro (fun _ => ?_) (fun _ => ?_)) <;> conv => whnf
          | (with_reducible first | refine br_bne_tt (by assumption) ?_ | refine br_bne_ff (by assumption) ?_ | refine br_bne_tt (by decide) ?_ | refine br_bne_ff (by decide) ?_); conv => whnf
          | (with_reducible refine br_bne_intro (fun _ => ?_) (fun _ => ?_)) <;> conv => whnf
          | (with_reducible first | refine br_of_true (by assumption) ?_ | refine br_of_false (by assumption) ?_); conv => whnf
          | (with_reducible refine br_intro (fun _ => ?_) (fun _ => ?_)) <;> conv => whnf
          | (with_reducible refine and_rfl ?_); conv => whnf
          | (refine and_late (fun _ => ?_) (by first | omega | (show _ = _; rfl) | exact trivial | exact ⟨rfl, trivial⟩ | exact ⟨rfl, rfl, trivial⟩ | exact (fun h => by cases h) | exact (fun _ => ⟨rfl, rfl⟩) | exact Nat.le_of_ble_eq_true rfl | (simp only [List.length_map, List.length_append, pbytes, Nat.mul_one, List.length_cons, List.length_nil]; first | done | omega))); conv => whnf
          | (with_reducible refine and_late (fun _ => ?_) ?_); conv => whnf
          | (with_reducible refine vcall_id ?_)
            first
            | (refine vcall_inl rfl rfl rfl rfl (Nat.le_of_ble_eq_true rfl) ?_)
          | (with_reducible refine Both.mk ?_ ?_) <;> conv => whnf
          | (refine ⟨[], _, _, rfl, ?_⟩); conv => whnf
          | (refine ⟨_, rfl, ?_⟩); conv => whnf
          | (refine ⟨_, unbytes_pbytes _, ?_⟩); conv => whnf
          | exact ⟨_, _, rfl, rfl⟩
          | exact rensG_pu _ _ _ _
          | rfl
          | (rw [snap_own rfl (show (pbytes _).length = _ * 1 from by rw [pbytes_length, Nat.mul_one])]); conv => whnf
          | fail
        rw [hcell]
        refine call_rel (x := (bsl y, V.mk k2 i2 b2 s2 l2, y, d - 1)) (p := bsl (y ++ S)) (by rw [pvV_mk]; rfl) (by exact ⟨by show rkV (V.mk k2 i2 b2 s2 l2) < n; omega, hok, asB_sl _, by show y.length + (bytesV (V.mk k2 i2 b2 s2 l2)).length ≤ _; rw [hS]; omega, hsz⟩) (by show bsl _ = _; rw [hS]) (.inl rfl) ?_
        conv => whnf
        repeat' first
          | (with_reducible first | refine bo_run ?_ | refine bw_run ?_ | refine bd_run ?_ | refine Br.tt ?_ | refine Br.ff ?_); conv => whnf
          | (with_reducible refine br_not ?_)
          | (with_reducible first | refine br_dec_tt (by assumption) ?_ | refine br_dec_ff (by assumption) ?_ | refine br_dec_tt (by decide) ?_ | refine br_dec_ff (by decide) ?_); conv => whnf
          | (with_reducible refine br_dec_intro (fun _ => ?_) (fun _ => ?_)) <;> conv => whnf
          | (with_reducible first | refine br_beq_tt (by assumption) ?_ | refine br_beq_ff (by assumption) ?_ | refine br_beq_tt (by decide) ?_ | refine br_beq_ff (by decide) ?_); conv => whnf
          | (with_reducible refine br_beq_intro (fun _ => ?_) (fun _ => ?_)) <;> conv => whnf
          | (with_reducible first | refine br_bne_tt (by assumption) ?_ | refine br_bne_ff (by assumption) ?_ | refine br_bne_tt (by decide) ?_ | refine br_bne_ff (by decide) ?_); conv => whnf
          | (with_reducible refine br_bne_intro (fun _ => ?_) (fun _ => ?_)) <;> conv => whnf
          | (with_reducible first | refine br_of_true (by assumption) ?_ | refine br_of_false (by assumption) ?_); conv => whnf
          | (with_reducible refine br_intro (fun _ => ?_) (fun _ => ?_)) <;> conv => whnf
          | (with_reducible refine and_rfl ?_); conv => whnf
          | (refine and_late (fun _ => ?_) (by first | omega | (show _ = _; rfl) | exact trivial | exact ⟨rfl, trivial⟩ | exact ⟨rfl, rfl, trivial⟩ | exact (fun h => by cases h) | exact (fun _ => ⟨rfl, rfl⟩) | exact Nat.le_of_ble_eq_true rfl | (simp only [List.length_map, List.length_append, pbytes, Nat.mul_one, List.length_cons, List.length_nil]; first | done | omega))); conv => whnf
          | (with_reducible refine and_late (fun _ => ?_) ?_); conv => whnf
          | (with_reducible refine vcall_id ?_)
            first
            | (refine vcall_inl rfl rfl rfl rfl (Nat.le_of_ble_eq_true rfl) ?_)
          | (with_reducible refine Both.mk ?_ ?_) <;> conv => whnf
          | (refine ⟨[], _, _, rfl, ?_⟩); conv => whnf
          | (refine ⟨_, rfl, ?_⟩); conv => whnf
          | (refine ⟨_, unbytes_pbytes _, ?_⟩); conv => whnf
          | exact ⟨_, _, rfl, rfl⟩
          | exact rensG_pu _ _ _ _
          | rfl
          | (rw [snap_own rfl (show (pbytes _).length = _ * 1 from by rw [pbytes_length, Nat.mul_one])]); conv => whnf
          | fail
        · refine ⟨_, ?_, (j + 1, y ++ S), ⟨by show j + 1 ≤ _; omega, h2⟩, rfl, by rw [i64_in ((j : Int) + 1) (by omega)]; rfl, rfl⟩
          show l.length - (j + 1) < l.length - j
          omega
        · rw [hcell]; exact Nat.le_of_ble_eq_true rfl
        · rw [List.length_map, hcell]; rfl
      · have g : ¬ (j : Int) < (l.length : Int) := by omega
        repeat' first
          | (with_reducible first | refine bo_run ?_ | refine bw_run ?_ | refine bd_run ?_ | refine Br.tt ?_ | refine Br.ff ?_); conv => whnf
          | (with_reducible refine br_not ?_)
          | (with_reducible first | refine br_dec_tt (by assumption) ?_ | refine br_dec_ff (by assumption) ?_ | refine br_dec_tt (by decide) ?_ | refine br_dec_ff (by decide) ?_); conv => whnf
          | (with_reducible refine br_dec_intro (fun _ => ?_) (fun _ => ?_)) <;> conv => whnf
          | (with_reducible first | refine br_beq_tt (by assumption) ?_ | refine br_beq_ff (by assumption) ?_ | refine br_beq_tt (by decide) ?_ | refine br_beq_ff (by decide) ?_); conv => whnf
          | (with_reducible refine br_beq_intro (fun _ => ?_) (fun _ => ?_)) <;> conv => whnf
          | (with_reducible first | refine br_bne_tt (by assumption) ?_ | refine br_bne_ff (by assumption) ?_ | refine br_bne_tt (by decide) ?_ | refine br_bne_ff (by decide) ?_); conv => whnf
          | (with_reducible refine br_bne_intro (fun _ => ?_) (fun _ => ?_)) <;> conv => whnf
          | (with_reducible first | refine br_of_true (by assumption) ?_ | refine br_of_false (by assumption) ?_); conv => whnf
          | (with_reducible refine br_intro (fun _ => ?_) (fun _ => ?_)) <;> conv => whnf
          | (with_reducible refine and_rfl ?_); conv => whnf
          | (refine and_late (fun _ => ?_) (by first | omega | (show _ = _; rfl) | exact trivial | exact ⟨rfl, trivial⟩ | exact ⟨rfl, rfl, trivial⟩ | exact (fun h => by cases h) | exact (fun _ => ⟨rfl, rfl⟩) | exact Nat.le_of_ble_eq_true rfl | (simp only [List.length_map, List.length_append, pbytes, Nat.mul_one, List.length_cons, List.length_nil]; first | done | omega))); conv => whnf
          | (with_reducible refine and_late (fun _ => ?_) ?_); conv => whnf
          | (with_reducible refine vcall_id ?_)
            first
            | (refine vcall_inl rfl rfl rfl rfl (Nat.le_of_ble_eq_true rfl) ?_)
          | (with_reducible refine Both.mk ?_ ?_) <;> conv => whnf
          | (refine ⟨[], _, _, rfl, ?_⟩); conv => whnf
          | (refine ⟨_, rfl, ?_⟩); conv => whnf
          | (refine ⟨_, unbytes_pbytes _, ?_⟩); conv => whnf
          | exact ⟨_, _, rfl, rfl⟩
          | exact rensG_pu _ _ _ _
          | rfl
          | (rw [snap_own rfl (show (pbytes _).length = _ * 1 from by rw [pbytes_length, Nat.mul_one])]); conv => whnf
          | fail
        rw [List.drop_of_length_le (by omega), bytesL, List.append_nil] at h2
        subst h2
        rfl
    · rw [if_neg (by assumption), if_neg (by assumption), if_neg (by assumption), if_neg (by assumption), List.append_nil] at hR
      subst hR
      rfl
theorem con_value_put : Contract Try.prog id_value_put (RelP (fun ((p, v, xs, d) : PV × V × List Int × Nat) => okV v ∧ asB p = some xs ∧ xs.length + (bytesV v).length ≤ 200000000 ∧ 0 ≤ sizeV v d) (fun (p, v, _, _) => [p, pvV v]) (fun (_, v, xs, _) => bsl (xs ++ bytesV v))) :=
  (Contract.all con_value_put' 0).pre fun x h => ⟨rkV x.2.1 + 1, Nat.lt_succ_self _, h⟩
theorem checkV_ok {v : V} (h : checkV v = 0) : 0 ≤ sizeV v 4 ∧ sizeV v 4 ≤ 1000 := by
  unfold checkV at h
  split at h
  · cases h
  · omega
theorem con_value_Put' : Contract Try.prog id_value_Put (RelP (fun ((v, xs) : V × List Int) => okV v ∧ xs.length ≤ 100000000) (fun (v, xs) => [bsl xs, pvV v]) (fun (v, xs) => bsl (xs ++ (if checkV v = 0 then bytesV v else [])))) := by
  refine (code_value_Put).pure (Known.cons con_value_Check (Known.cons con_value_put Known.nil)) (by rintro x -; first | exact Nat.le_of_ble_eq_true rfl | (obtain ⟨_, _⟩ := x; exact Nat.le_of_ble_eq_true rfl) | (obtain ⟨_, _, _⟩ := x; exact Nat.le_of_ble_eq_true rfl) | (obtain ⟨_, _, _, _⟩ := x; exact Nat.le_of_ble_eq_true rfl) | (obtain ⟨_, _, _, _, _⟩ := x; exact Nat.le_of_ble_eq_true rfl) | (obtain ⟨_, _, _, _, _, _⟩ := x; exact Nat.le_of_ble_eq_true rfl) | (obtain ⟨_, _, _, _, _, _, _⟩ := x; exact Nat.le_of_ble_eq_true rfl) | (obtain ⟨_, _, _, _, _, _, _, _⟩ := x; exact Nat.le_of_ble_eq_true rfl)) ?_
  rintro ⟨⟨k, i, b, s, l⟩, xs⟩ ⟨ok, hz⟩
  dsimp only at ok hz ⊢
  rw [pvV_mk]
  generalize hC : checkV (.mk k i b s l) = C
  have hlen := pbytes_length xs
  repeat' first
    | (with_reducible first | refine bo_run ?_ | refine bw_run ?_ | refine bd_run ?_ | refine Br.tt ?_ | refine Br.ff ?_); conv => whnf
    | (with_reducible refine br_not ?_)
    | (with_reducible first | refine br_dec_tt (by assumption) ?_ | refine br_dec_ff (by assumption) ?_ | refine br_dec_tt (by decide) ?_ | refine br_dec_ff (by decide) ?_); conv => whnf
    | (with_reducible refine br_dec_intro (fun _ => ?_) (fun _ => ?_)) <;> conv => whnf
    | (with_reducible first | refine br_beq_tt (by assumption) ?_ | refine br_beq_ff (by assumption) ?_ | refine br_beq_tt (by decide) ?_ | refine br_beq_ff (by decide) ?_); conv => whnf
    | (with_reducible refine br_beq_intro (fun _ => ?_) (fun _ => ?_)) <;> conv => whnf
    | (with_reducible first | refine br_bne_tt (by assumption) ?_ | refine br_bne_ff (by assumption) ?_ | refine br_bne_tt (by decide) ?_ | refine br_bne_ff (by decide) ?_); conv => whnf
    | (with_reducible refine br_bne_intro (fun _ => ?_) (fun _ => ?_)) <;> conv => whnf
    | (with_reducible first | refine br_of_true (by assumption) ?_ | refine br_of_false (by assumption) ?_); conv => whnf
    | (with_reducible refine br_intro (fun _ => ?_) (fun _ => ?_)) <;> conv => whnf
    | (with_reducible refine and_rfl ?_); conv => whnf
    | (refine and_late (fun _ => ?_) (by first | omega | (show _ = _; rfl) | exact trivial | exact ⟨rfl, trivial⟩ | exact ⟨rfl, rfl, trivial⟩ | exact (fun h => by cases h) | exact (fun _ => ⟨rfl, rfl⟩) | exact Nat.le_of_ble_eq_true rfl | (simp only [List.length_map, List.length_append, pbytes, Nat.mul_one, List.length_cons, List.length_nil]; first | done | omega))); conv => whnf
    | (with_reducible refine and_late (fun _ => ?_) ?_); conv => whnf
    | (with_reducible refine vcall_id ?_)
      first
      | (refine vcall_inl rfl rfl rfl rfl (Nat.le_of_ble_eq_true rfl) ?_)
    | (with_reducible refine Both.mk ?_ ?_) <;> conv => whnf
    | (refine ⟨[], _, _, rfl, ?_⟩); conv => whnf
    | (refine ⟨_, rfl, ?_⟩); conv => whnf
    | (refine ⟨_, unbytes_pbytes _, ?_⟩); conv => whnf
    | exact ⟨_, _, rfl, rfl⟩
    | exact rensG_pu _ _ _ _
    | rfl
    | (rw [snap_own rfl (show (pbytes _).length = _ * 1 from by rw [pbytes_length, Nat.mul_one])]); conv => whnf
    | fail
  refine call_subP (.mk k i b s l) (p := i64 C) rfl (by rw [pvV_mk]; exact LEs.refl _) ok (by show i64 _ = _; rw [hC]) (.inl rfl) ?_
  conv => whnf
  repeat' first
    | (with_reducible first | refine bo_run ?_ | refine bw_run ?_ | refine bd_run ?_ | refine Br.tt ?_ | refine Br.ff ?_); conv => whnf
    | (with_reducible refine br_not ?_)
    | (with_reducible first | refine br_dec_tt (by assumption) ?_ | refine br_dec_ff (by assumption) ?_ | refine br_dec_tt (by decide) ?_ | refine br_dec_ff (by decide) ?_); conv => whnf
    | (with_reducible refine br_dec_intro (fun _ => ?_) (fun _ => ?_)) <;> conv => whnf
    | (with_reducible first | refine br_beq_tt (by assumption) ?_ | refine br_beq_ff (by assumption) ?_ | refine br_beq_tt (by decide) ?_ | refine br_beq_ff (by decide) ?_); conv => whnf
    | (with_reducible refine br_beq_intro (fun _ => ?_) (fun _ => ?_)) <;> conv => whnf
    | (with_reducible first | refine br_bne_tt (by assumption) ?_ | refine br_bne_ff (by assumption) ?_ | refine br_bne_tt (by decide) ?_ | refine br_bne_ff (by decide) ?_); conv => whnf
    | (with_reducible refine br_bne_intro (fun _ => ?_) (fun _ => ?_)) <;> conv => whnf
    | (with_reducible first | refine br_of_true (by assumption) ?_ | refine br_of_false (by assumption) ?_); conv => whnf
    | (with_reducible refine br_intro (fun _ => ?_) (fun _ => ?_)) <;> conv => whnf
    | (with_reducible refine and_rfl ?_); conv => whnf
    | (refine and_late (fun _ => ?_) (by first | omega | (show _ = _; rfl) | exact trivial | exact ⟨rfl, trivial⟩ | exact ⟨rfl, rfl, trivial⟩ | exact (fun h => by cases h) | exact (fun _ => ⟨rfl, rfl⟩) | exact Nat.le_of_ble_eq_true rfl | (simp only [List.length_map, List.length_append, pbytes, Nat.mul_one, List.length_cons, List.length_nil]; first | done | omega))); conv => whnf
    | (with_reducible refine and_late (fun _ => ?_) ?_); conv => whnf
    | (with_reducible refine vcall_id ?_)
      first
      | (refine vcall_inl rfl rfl rfl rfl (Nat.le_of_ble_eq_true rfl) ?_)
    | (with_reducible refine Both.mk ?_ ?_) <;> conv => whnf
    | (refine ⟨[], _, _, rfl, ?_⟩); conv => whnf
    | (refine ⟨_, rfl, ?_⟩); conv => whnf
    | (refine ⟨_, unbytes_pbytes _, ?_⟩); conv => whnf
    | exact ⟨_, _, rfl, rfl⟩
    | exact rensG_pu _ _ _ _
    | rfl
    | (rw [snap_own rfl (show (pbytes _).length = _ * 1 from by rw [pbytes_length, Nat.mul_one])]); conv => whnf
    | fail
  · have q : ¬ C = 0 := by assumption
    rw [if_neg q, List.append_nil]
    exact renG_own (id := 1) rfl (by rw [pbytes_length, Nat.mul_one])
  · have q : C = 0 := by assumption
    obtain ⟨h1, h2⟩ := checkV_ok (hC.trans q)
    have h3 := bytesV_len _ _ h1
    refine call_relF (bsl xs, V.mk k i b s l, xs, 4) (p := bsl (xs ++ bytesV (.mk k i b s l))) (by rw [pvV_mk]; exact snaps1 rfl) (by exact ⟨ok, asB_sl _, by show xs.length + (bytesV (V.mk k i b s l)).length ≤ _; omega, h1⟩) rfl ?_
    conv => whnf
    repeat' first
      | (with_reducible first | refine bo_run ?_ | refine bw_run ?_ | refine bd_run ?_ | refine Br.tt ?_ | refine Br.ff ?_); conv => whnf
      | (with_reducible refine br_not ?_)
      | (with_reducible first | refine br_dec_tt (by assumption) ?_ | refine br_dec_ff (by assumption) ?_ | refine br_dec_tt (by decide) ?_ | refine br_dec_ff (by decide) ?_); conv => whnf
      | (with_reducible refine br_dec_intro (fun _ => ?_) (fun _ => ?_)) <;> conv => whnf
      | (with_reducible first | refine br_beq_tt (by assumption) ?_ | refine br_beq_ff (by assumption) ?_ | refine br_beq_tt (by decide) ?_ | refine br_beq_ff (by decide) ?_); conv => whnf
      | (with_reducible refine br_beq_intro (fun _ => ?_) (fun _ => ?_)) <;> conv => whnf
      | (with_reducible first | refine br_bne_tt (by assumption) ?_ | refine br_bne_ff (by assumption) ?_ | refine br_bne_tt (by decide) ?_ | refine br_bne_ff (by decide) ?_); conv => whnf
      | (with_reducible refine br_bne_intro (fun _ => ?_) (fun _ => ?_)) <;> conv => whnf
      | (with_reducible first | refine br_of_true (by assumption) ?_ | refine br_of_false (by assumption) ?_); conv => whnf
      | (with_reducible refine br_intro (fun _ => ?_) (fun _ => ?_)) <;> conv => whnf
      | (with_reducible refine and_rfl ?_); conv => whnf
      | (refine and_late (fun _ => ?_) (by first | omega | (show _ = _; rfl) | exact trivial | exact ⟨rfl, trivial⟩ | exact ⟨rfl, rfl, trivial⟩ | exact (fun h => by cases h) | exact (fun _ => ⟨rfl, rfl⟩) | exact Nat.le_of_ble_eq_true rfl | (simp only [List.length_map, List.length_append, pbytes, Nat.mul_one, List.length_cons, List.length_nil]; first | done | omega))); conv => whnf
      | (with_reducible refine and_late (fun _ => ?_) ?_); conv => whnf
      | (with_reducible refine vcall_id ?_)
        first
        | (refine vcall_inl rfl rfl rfl rfl (Nat.le_of_ble_eq_true rfl) ?_)
      | (with_reducible refine Both.mk ?_ ?_) <;> conv => whnf
      | (refine ⟨[], _, _, rfl, ?_⟩); conv => whnf
      | (refine ⟨_, rfl, ?_⟩); conv => whnf
      | (refine ⟨_, unbytes_pbytes _, ?_⟩); conv => whnf
      | exact ⟨_, _, rfl, rfl⟩
      | exact rensG_pu _ _ _ _
      | rfl
      | (rw [snap_own rfl (show (pbytes _).length = _ * 1 from by rw [pbytes_length, Nat.mul_one])]); conv => whnf
      | fail
    rw [if_pos q]
    rfl
theorem con_value_Put : Contract Try.prog id_value_Put (Loose (RelP (fun ((v, xs) : V × List Int) => okV v ∧ xs.length ≤ 100000000) (fun (v, xs) => [bsl xs, pvV v]) (fun (v, xs) => bsl (xs ++ (if checkV v = 0 then bytesV v else []))))) := con_value_Put'.sub
/-! ### how values are made -/
theorem pvV_nil {k i b : Int} {s : ByteArray} : pvV (.mk k i b s []) = .agg [i64 k, i64 i, u64 b, str s, .sl 0 []] := by rw [pvV_mk, cellsL]; rfl
theorem renG_agg_own {σ : St} {id g n sz : Nat} {e : TypeId} {xs : List AV} {cs : List PV} {a b c d : PV} (h : σ[id]? = some (some ⟨e, g, xs⟩)) (hu : unpus (List.take (n * sz) xs) = some cs) : renG σ [] 0 (.agg [.pu a, .pu b, .pu c, .pu d, .own id g 0 n sz]) = some (.pu (.agg [a, b, c, d, .sl n cs])) := by
  simp only [renG, rensG, idx, snap, h, if_true, List.drop_zero, hu]
  rfl
def zeroC : List PV := [.val (.int .i64 0), .val (.int .i64 0), .val (.int .u64 0), .val (.string ⟨#[]⟩), .val (.slice none 0 0)]
theorem rep_len {γ : Type} (n : Nat) (z : List γ) : (List.replicate n z).flatten.length = n * z.length := by
  induction n with
  | zero => simp
  | succ n ih => rw [List.replicate_succ, List.flatten_cons, List.length_append, ih, Nat.succ_mul, Nat.add_comm]
theorem copy_cells (l : List V) : unpus (List.take (l.length * 5) (Vm.splice (List.map AV.pu (List.replicate l.length zeroC).flatten) 0 (List.map AV.pu (List.take (min l.length l.length * 5) (cellsL l))))) = some (cellsL l) := by
  have h := cellsL_length l
  rw [Nat.min_self, List.take_of_length_le (l := cellsL l) (by omega)]
  unfold Vm.splice
  rw [List.take_zero, List.nil_append, List.take_left' (by rw [List.length_map, h]), unpus_map]
theorem con_value_Int : Contract Try.prog id_value_Int (RelP (fun (n : Int) => True) (fun n => [i64 n]) (fun n => pvV (.mk 1 n 0 ⟨#[]⟩ []))) := by
  refine (code_value_Int).pureL Known.nil (by rintro x -; first | exact Nat.le_of_ble_eq_true rfl | (obtain ⟨_, _⟩ := x; exact Nat.le_of_ble_eq_true rfl) | (obtain ⟨_, _, _⟩ := x; exact Nat.le_of_ble_eq_true rfl) | (obtain ⟨_, _, _, _⟩ := x; exact Nat.le_of_ble_eq_true rfl) | (obtain ⟨_, _, _, _, _⟩ := x; exact Nat.le_of_ble_eq_true rfl) | (obtain ⟨_, _, _, _, _, _⟩ := x; exact Nat.le_of_ble_eq_true rfl) | (obtain ⟨_, _, _, _, _, _, _⟩ := x; exact Nat.le_of_ble_eq_true rfl) | (obtain ⟨_, _, _, _, _, _, _, _⟩ := x; exact Nat.le_of_ble_eq_true rfl)) ?_
  rintro n -
  repeat' first
    | (with_reducible first | refine bo_run ?_ | refine bw_run ?_ | refine bd_run ?_ | refine Br.tt ?_ | refine Br.ff ?_); conv => whnf
    | (with_reducible refine br_not ?_)
    | (with_reducible first | refine br_dec_tt (by assumption) ?_ | refine br_dec_ff (by assumption) ?_ | refine br_dec_tt (by decide) ?_ | refine br_dec_ff (by decide) ?_); conv => whnf
    | (with_reducible refine br_dec_intro (fun _ => ?_) (fun _ => ?_)) <;> conv => whnf
    | (with_reducible first | refine br_beq_tt (by assumption) ?_ | refine br_beq_ff (by assumption) ?_ | refine br_beq_tt (by decide) ?_ | refine br_beq_ff (by decide) ?_); conv => whnf
    | (with_reducible refine br_beq_intro (fun _ => ?_) (fun _ => ?_)) <;> conv => whnf
    | (with_reducible first | refine br_bne_tt (by assumption) ?_ | refine br_bne_ff (by assumption) ?_ | refine br_bne_tt (by decide) ?_ | refine br_bne_ff (by decide) ?_); conv => whnf
    | (with_reducible refine br_bne_intro (fun _ => ?_) (fun _ => ?_)) <;> conv => whnf
    | (with_reducible first | refine br_of_true (by assumption) ?_ | refine br_of_false (by assumption) ?_); conv => whnf
    | (with_reducible refine br_intro (fun _ => ?_) (fun _ => ?_)) <;> conv => whnf
    | (with_reducible refine and_rfl ?_); conv => whnf
    | (refine and_late (fun _ => ?_) (by first | omega | (show _ = _; rfl) | exact trivial | exact ⟨rfl, trivial⟩ | exact ⟨rfl, rfl, trivial⟩ | exact (fun h => by cases h) | exact (fun _ => ⟨rfl, rfl⟩) | exact Nat.le_of_ble_eq_true rfl | (simp only [List.length_map, List.length_append, pbytes, Nat.mul_one, List.length_cons, List.length_nil]; first | done | omega))); conv => whnf
    | (with_reducible refine and_late (fun _ => ?_) ?_); conv => whnf
    | (with_reducible refine vcall_id ?_)
      first
      | (refine vcall_inl rfl rfl rfl rfl (Nat.le_of_ble_eq_true rfl) ?_)
    | (with_reducible refine Both.mk ?_ ?_) <;> conv => whnf
    | (refine ⟨[], _, _, rfl, ?_⟩); conv => whnf
    | (refine ⟨_, rfl, ?_⟩); conv => whnf
    | (refine ⟨_, unbytes_pbytes _, ?_⟩); conv => whnf
    | exact ⟨_, _, rfl, rfl⟩
    | exact rensG_pu _ _ _ _
    | rfl
    | (rw [snap_own rfl (show (pbytes _).length = _ * 1 from by rw [pbytes_length, Nat.mul_one])]); conv => whnf
    | fail
  rw [pvV_nil]
  exact .agg (.cons (.refl _) (.cons (.refl _) (.cons (.refl _) (.cons (.refl _) (.cons .nil .nil)))))
theorem con_value_List' : Contract Try.prog id_value_List (RelP (fun (l : List V) => l.length ≤ 1000000) (fun l => [slV l]) (fun l => pvV (.mk 4 0 0 ⟨#[]⟩ l))) := by
  refine (code_value_List).pureL Known.nil (by rintro x -; first | exact Nat.le_of_ble_eq_true rfl | (obtain ⟨_, _⟩ := x; exact Nat.le_of_ble_eq_true rfl) | (obtain ⟨_, _, _⟩ := x; exact Nat.le_of_ble_eq_true rfl) | (obtain ⟨_, _, _, _⟩ := x; exact Nat.le_of_ble_eq_true rfl) | (obtain ⟨_, _, _, _, _⟩ := x; exact Nat.le_of_ble_eq_true rfl) | (obtain ⟨_, _, _, _, _, _⟩ := x; exact Nat.le_of_ble_eq_true rfl) | (obtain ⟨_, _, _, _, _, _, _⟩ := x; exact Nat.le_of_ble_eq_true rfl) | (obtain ⟨_, _, _, _, _, _, _, _⟩ := x; exact Nat.le_of_ble_eq_true rfl)) ?_
  rintro l hl
  simp only [slV]
  have hc := cellsL_length l
  repeat' first
    | (with_reducible first | refine bo_run ?_ | refine bw_run ?_ | refine bd_run ?_ | refine Br.tt ?_ | refine Br.ff ?_); conv => whnf
    | (with_reducible refine br_not ?_)
    | (with_reducible first | refine br_dec_tt (by assumption) ?_ | refine br_dec_ff (by assumption) ?_ | refine br_dec_tt (by decide) ?_ | refine br_dec_ff (by decide) ?_); conv => whnf
    | (with_reducible refine br_dec_intro (fun _ => ?_) (fun _ => ?_)) <;> conv => whnf
    | (with_reducible first | refine br_beq_tt (by assumption) ?_ | refine br_beq_ff (by assumption) ?_ | refine br_beq_tt (by decide) ?_ | refine br_beq_ff (by decide) ?_); conv => whnf
    | (with_reducible refine br_beq_intro (fun _ => ?_) (fun _ => ?_)) <;> conv => whnf
    | (with_reducible first | refine br_bne_tt (by assumption) ?_ | refine br_bne_ff (by assumption) ?_ | refine br_bne_tt (by decide) ?_ | refine br_bne_ff (by decide) ?_); conv => whnf
    | (with_reducible refine br_bne_intro (fun _ => ?_) (fun _ => ?_)) <;> conv => whnf
    | (with_reducible first | refine br_of_true (by assumption) ?_ | refine br_of_false (by assumption) ?_); conv => whnf
    | (with_reducible refine br_intro (fun _ => ?_) (fun _ => ?_)) <;> conv => whnf
    | (with_reducible refine and_rfl ?_); conv => whnf
    | (refine and_late (fun _ => ?_) (by first | omega | (show _ = _; rfl) | exact trivial | exact ⟨rfl, trivial⟩ | exact ⟨rfl, rfl, trivial⟩ | exact (fun h => by cases h) | exact (fun _ => ⟨rfl, rfl⟩) | exact Nat.le_of_ble_eq_true rfl | (simp only [List.length_map, List.length_append, pbytes, Nat.mul_one, List.length_cons, List.length_nil]; first | done | omega))); conv => whnf
    | (with_reducible refine and_late (fun _ => ?_) ?_); conv => whnf
    | (with_reducible refine vcall_id ?_)
      first
      | (refine vcall_inl rfl rfl rfl rfl (Nat.le_of_ble_eq_true rfl) ?_)
    | (with_reducible refine Both.mk ?_ ?_) <;> conv => whnf
    | (refine ⟨[], _, _, rfl, ?_⟩); conv => whnf
    | (refine ⟨_, rfl, ?_⟩); conv => whnf
    | (refine ⟨_, unbytes_pbytes _, ?_⟩); conv => whnf
    | exact ⟨_, _, rfl, rfl⟩
    | exact rensG_pu _ _ _ _
    | rfl
    | (rw [snap_own rfl (show (pbytes _).length = _ * 1 from by rw [pbytes_length, Nat.mul_one])]); conv => whnf
    | fail
  · refine ⟨_, renG_agg_own (id := 2) (g := 0) (n := l.length) (sz := 5) (e := 25) (xs := Vm.splice (List.map AV.pu (List.replicate l.length zeroC).flatten) 0 (List.map AV.pu (List.take (min l.length l.length * 5) (cellsL l)))) (a := i64 4) (b := i64 0) (c := u64 0) (d := str ⟨#[]⟩) rfl (copy_cells l), ?_⟩
    rw [pvV_mk]
    exact .refl _
  · rw [List.length_map, rep_len]
    show 0 + (l.length : Int).toNat * 5 ≤ (l.length : Int).toNat * 5
    omega
  · obtain rfl : l = [] := List.eq_nil_of_length_eq_zero (by omega)
    rw [pvV_nil]
    exact .agg (.cons (.refl _) (.cons (.refl _) (.cons (.refl _) (.cons (.refl _) (.cons .nil .nil)))))
theorem con_value_List : Contract Try.prog id_value_List (Loose (RelP (fun (l : List V) => l.length ≤ 1000000) (fun l => [slV l]) (fun l => pvV (.mk 4 0 0 ⟨#[]⟩ l)))) := con_value_List'.sub
end Go.Proofs.Ytlodbaikbgbhjaa
