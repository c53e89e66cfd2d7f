/- The reference's Check, its Int, Float, Text, List; ValueMakes. -/
import Derived.Test.YtlodbaikbgbhjaaValueG
import Derived.Test.YtlodbaikbgbhjaaCRef05
import Derived.Test.YtlodbaikbgbhjaaValueA
set_option linter.unusedVariables false
set_option linter.unusedSimpArgs false
set_option maxRecDepth 20000
namespace Go.Proofs.Ytlodbaikbgbhjaa
open Go Go.Vm Go.IntWalk

theorem sizeL_nn : ∀ (l : List V) (e : Nat) (n m : Int), 0 ≤ n → 0 ≤ m → (0 ≤ sizeL l e n ↔ 0 ≤ sizeL l e m)
  | [], e, n, m, hn, hm => by rw [sizeL, sizeL]; omega
  | v :: r, e, n, m, hn, hm => by
    rw [sizeL, sizeL]
    by_cases h : sizeV v e < 0
    · rw [if_pos h, if_pos h]
    · rw [if_neg h, if_neg h]
      exact sizeL_nn r e _ _ (by omega) (by omega)
theorem sizeL_step (v : V) (r : List V) (e : Nat) : decide (0 ≤ sizeL (v :: r) e 2) = (decide (0 ≤ sizeV v e) && decide (0 ≤ sizeL r e 2)) := by
  rw [Bool.eq_iff_iff, Bool.and_eq_true, decide_eq_true_eq, decide_eq_true_eq, decide_eq_true_eq, sizeL]
  by_cases h : sizeV v e < 0
  · rw [if_pos h]; omega
  · rw [if_neg h, sizeL_nn r e _ 2 (by omega) (by omega)]
    omega
theorem shape_eq (k i b : Int) (s : ByteArray) (l : List V) (d : Nat) : decide (0 ≤ sizeV (.mk k i b s l) d) = (onlyB k i b s l.length && decide (canonI b = b) && decide (s.size ≤ 200) && decide (l.length ≤ 12) && (if k = 4 then decide (¬ d = 0) && decide (0 ≤ sizeL l (d - 1) 2) else true)) := by
  rw [sizeV_mk]
  by_cases h : onlyB k i b s l.length = false ∨ s.size > 200 ∨ l.length > 12 ∨ ¬ canonI b = b
  · rw [if_pos h]
    rcases h with h | h | h | h
    · rw [h]; rfl
    · rw [decide_eq_false (show ¬ s.size ≤ 200 by omega)]; simp
    · rw [decide_eq_false (show ¬ l.length ≤ 12 by omega)]; simp
    · rw [decide_eq_false h]; simp
  · rw [if_neg h]
    simp only [not_or, Decidable.not_not] at h
    obtain ⟨h1, h2, h3, h4⟩ := h
    have h1 : onlyB k i b s l.length = true := by simpa using h1
    rw [h1, decide_eq_true h4, decide_eq_true (show s.size ≤ 200 by omega), decide_eq_true (show l.length ≤ 12 by omega)]
    by_cases q1 : k = 1 ∨ k = 2
    · rw [if_pos q1, if_neg (by omega)]; simp
    · rw [if_neg q1]
      by_cases q3 : k = 3
      · rw [if_pos q3, if_neg (by omega)]; simp; omega
      · rw [if_neg q3]
        by_cases q4 : k = 4
        · rw [if_pos q4, if_pos q4]
          by_cases q5 : d = 0
          · rw [if_pos q5]; simp [q5]
          · rw [if_neg q5]; simp [q5]
        · rw [if_neg q4, if_neg q4]; simp
set_option maxHeartbeats 8000000 in
theorem con_ref05_shape' : ∀ n, Contract Try.prog id_ref05_shape (RelP (fun (x : V × Nat) => rkV x.1 < n ∧ okV x.1 ∧ x.2 ≤ 4) (fun x => [pvV x.1, i64 x.2]) (fun x => bl (decide (0 ≤ sizeV x.1 x.2))))
  | 0 => by
    refine (code_ref05_shape).pure (Known.cons con_ref01_Canon Known.nil) (by rintro x -; first | exact Nat.le_of_ble_eq_true rfl | (obtain ⟨_, _⟩ := x; exact Nat.le_of_ble_eq_true rfl) | (obtain ⟨_, _, _⟩ := x; exact Nat.le_of_ble_eq_true rfl) | (obtain ⟨_, _, _, _⟩ := x; exact Nat.le_of_ble_eq_true rfl) | (obtain ⟨_, _, _, _, _⟩ := x; exact Nat.le_of_ble_eq_true rfl) | (obtain ⟨_, _, _, _, _, _⟩ := x; exact Nat.le_of_ble_eq_true rfl) | (obtain ⟨_, _, _, _, _, _, _⟩ := x; exact Nat.le_of_ble_eq_true rfl) | (obtain ⟨_, _, _, _, _, _, _, _⟩ := x; exact Nat.le_of_ble_eq_true rfl)) ?_
    rintro x h
    exact absurd h.1 (Nat.not_lt_zero _)
  | n + 1 => by
    have ih := con_ref05_shape' n
    refine (code_ref05_shape).pure (Known.cons con_ref01_Canon (Known.cons ih Known.nil)) (by rintro x -; first | exact Nat.le_of_ble_eq_true rfl | (obtain ⟨_, _⟩ := x; exact Nat.le_of_ble_eq_true rfl) | (obtain ⟨_, _, _⟩ := x; exact Nat.le_of_ble_eq_true rfl) | (obtain ⟨_, _, _, _⟩ := x; exact Nat.le_of_ble_eq_true rfl) | (obtain ⟨_, _, _, _, _⟩ := x; exact Nat.le_of_ble_eq_true rfl) | (obtain ⟨_, _, _, _, _, _⟩ := x; exact Nat.le_of_ble_eq_true rfl) | (obtain ⟨_, _, _, _, _, _, _⟩ := x; exact Nat.le_of_ble_eq_true rfl) | (obtain ⟨_, _, _, _, _, _, _, _⟩ := x; exact Nat.le_of_ble_eq_true rfl)) ?_
    rintro ⟨⟨k, i, b, s, l⟩, d⟩ ⟨h, ok, hd⟩
    simp only [rkV_mk] at h hd
    have ok1 := ok
    rw [okV_mk] at ok1
    obtain ⟨_, _, okb, ok3, ok2⟩ := ok1
    obtain ⟨bn, rfl⟩ : ∃ bn : Nat, b = bn := ⟨b.toNat, by omega⟩
    simp only [pvV_mk, shape_eq]
    have hs1 : strEq s ⟨#[]⟩ = true → s.size = 0 := fun h => by rw [strEq_nil] at h; simpa using h
    have hs2 : strEq s ⟨#[]⟩ = false → s.size ≠ 0 := fun h => by rw [strEq_nil] at h; simpa using h
    have hc := cellsL_length l
    generalize hR : (onlyB k i bn s l.length && decide (canonI bn = bn) && decide (s.size ≤ 200) && decide (l.length ≤ 12) && (if k = 4 then decide (¬ d = 0) && decide (0 ≤ sizeL l (d - 1) 2) else true)) = R
    have bad1 : onlyB k i bn s l.length = false → R = false := fun q => by rw [← hR, q]; rfl
    have bad2 : ¬ canonI bn = bn → R = false := fun q => by rw [← hR, decide_eq_false q]; simp
    have bad3 : ¬ s.size ≤ 200 → R = false := fun q => by rw [← hR, decide_eq_false q]; simp
    have bad4 : ¬ l.length ≤ 12 → R = false := fun q => by rw [← hR, decide_eq_false q]; simp
    have bad5 : k = 4 → d = 0 → R = false := fun q q2 => by rw [← hR, if_pos q]; simp [q2]
    have only0 : ¬ ((k = 1 ∨ i = 0) ∧ (k = 2 ∨ (bn : Int) = 0) ∧ (k = 3 ∨ s.size = 0) ∧ (k = 4 ∨ l.length = 0) ∧ 0 ≤ k ∧ k ≤ 4) → R = false := fun q => bad1 (by
      rw [← Bool.not_eq_true]
      simp only [onlyB, Bool.and_eq_true, decide_eq_true_eq]
      omega)
    have good : ((k = 1 ∨ i = 0) ∧ (k = 2 ∨ (bn : Int) = 0) ∧ (k = 3 ∨ s.size = 0) ∧ (k = 4 ∨ l.length = 0) ∧ 0 ≤ k ∧ k ≤ 4) → canonI bn = bn → s.size ≤ 200 → l.length ≤ 12 → R = (if k = 4 then decide (¬ d = 0) && decide (0 ≤ sizeL l (d - 1) 2) else true) := fun q q2 q3 q4 => by
      rw [← hR, decide_eq_true q2, decide_eq_true q3, decide_eq_true q4, show onlyB k i bn s l.length = true from by
        simp only [onlyB, Bool.and_eq_true, decide_eq_true_eq]
        omega]
      rfl
    have e : ∀ x : Bool, x = R → renG [some ⟨ty_Value, 0, [i64 k, i64 i, u64 (bn : Int), str s, PV.sl l.length (cellsL l)].map .pu⟩] [] 0 (packRes [AV.pu (bl x)]) = some (AV.pu (bl R)) := fun x q => by rw [q]; rfl
    by_cases hk : k < 0 ∨ k > 4
    · skip
      repeat' first
        | (with_reducible first | refine bo_run ?_ | refine bw_run ?_ | refine bd_run ?_ | refine Br.tt ?_ | refine Br.ff ?_); conv => whnf
        | (with_reducible refine br_not ?_)
        | (with_reducible first | refine br_dec_tt (by assumption) ?_ | refine br_dec_ff (by assumption) ?_ | refine br_dec_tt (by decide) ?_ | refine br_dec_ff (by decide) ?_); conv => whnf
        | (with_reducible refine br_dec_intro (fun _ => ?_) (fun _ => ?_)) <;> conv => whnf
        | (with_reducible first | refine br_beq_tt (by assumption) ?_ | refine br_beq_ff (by assumption) ?_ | refine br_beq_tt (by decide) ?_ | refine br_beq_ff (by decide) ?_); conv => whnf
        | (with_reducible refine br_beq_intro (fun _ => ?_) (fun _ => ?_)) <;> conv => whnf
        | (with_reducible first | refine br_bne_tt (by assumption) ?_ | refine br_bne_ff (by assumption) ?_ | refine br_bne_tt (by decide) ?_ | refine br_bne_ff (by decide) ?_); conv => whnf
        | (with_reducible refine br_bne_intro (fun _ => ?_) (fun _ => ?_)) <;> conv => whnf
        | (with_reducible first | refine br_of_true (by assumption) ?_ | refine br_of_false (by assumption) ?_); conv => whnf
        | (with_reducible refine br_intro (fun _ => ?_) (fun _ => ?_)) <;> conv => whnf
        | (with_reducible refine and_rfl ?_); conv => whnf
        | (refine and_late (fun _ => ?_) (by first | omega | (show _ = _; rfl) | exact trivial | exact ⟨rfl, trivial⟩ | exact ⟨rfl, rfl, trivial⟩ | exact (fun h => by cases h) | exact (fun _ => ⟨rfl, rfl⟩) | exact Nat.le_of_ble_eq_true rfl | (simp only [List.length_map, List.length_append, pbytes, Nat.mul_one, List.length_cons, List.length_nil]; first | done | omega))); conv => whnf
        | (with_reducible refine and_late (fun _ => ?_) ?_); conv => whnf
        | (with_reducible refine vcall_id ?_)
          first
          | (refine call_rel (x := bn) (p := u64 (canonI bn)) rfl (by show bn < _; omega) rfl (.inl rfl) ?_); conv => whnf
        | (with_reducible refine Both.mk ?_ ?_) <;> conv => whnf
        | (refine ⟨[], _, _, rfl, ?_⟩); conv => whnf
        | (refine ⟨_, rfl, ?_⟩); conv => whnf
        | (refine ⟨_, unbytes_pbytes _, ?_⟩); conv => whnf
        | exact ⟨_, _, rfl, rfl⟩
        | exact rensG_pu _ _ _ _
        | rfl
        | (rw [snap_own rfl (show (pbytes _).length = _ * 1 from by rw [pbytes_length, Nat.mul_one])]); conv => whnf
        | fail
      all_goals (first | (exfalso; omega) | exact e _ (only0 (by omega)).symm)
    · have hk2 : k = 0 ∨ k = 1 ∨ k = 2 ∨ k = 3 ∨ k = 4 := by omega
      clear hk
      rcases hk2 with rfl | rfl | rfl | rfl | rfl
      all_goals
        repeat' first
          | (with_reducible first | refine bo_run ?_ | refine bw_run ?_ | refine bd_run ?_ | refine Br.tt ?_ | refine Br.ff ?_); conv => whnf
          | (with_reducible refine br_not ?_)
          | (with_reducible first | refine br_dec_tt (by assumption) ?_ | refine br_dec_ff (by assumption) ?_ | refine br_dec_tt (by decide) ?_ | refine br_dec_ff (by decide) ?_); conv => whnf
          | (with_reducible refine br_dec_intro (fun _ => ?_) (fun _ => ?_)) <;> conv => whnf
          | (with_reducible first | refine br_beq_tt (by assumption) ?_ | refine br_beq_ff (by assumption) ?_ | refine br_beq_tt (by decide) ?_ | refine br_beq_ff (by decide) ?_); conv => whnf
          | (with_reducible refine br_beq_intro (fun _ => ?_) (fun _ => ?_)) <;> conv => whnf
          | (with_reducible first | refine br_bne_tt (by assumption) ?_ | refine br_bne_ff (by assumption) ?_ | refine br_bne_tt (by decide) ?_ | refine br_bne_ff (by decide) ?_); conv => whnf
          | (with_reducible refine br_bne_intro (fun _ => ?_) (fun _ => ?_)) <;> conv => whnf
          | (with_reducible first | refine br_of_true (by assumption) ?_ | refine br_of_false (by assumption) ?_); conv => whnf
          | (with_reducible refine br_intro (fun _ => ?_) (fun _ => ?_)) <;> conv => whnf
          | (with_reducible refine and_rfl ?_); conv => whnf
          | (refine and_late (fun _ => ?_) (by first | omega | (show _ = _; rfl) | exact trivial | exact ⟨rfl, trivial⟩ | exact ⟨rfl, rfl, trivial⟩ | exact (fun h => by cases h) | exact (fun _ => ⟨rfl, rfl⟩) | exact Nat.le_of_ble_eq_true rfl | (simp only [List.length_map, List.length_append, pbytes, Nat.mul_one, List.length_cons, List.length_nil]; first | done | omega))); conv => whnf
          | (with_reducible refine and_late (fun _ => ?_) ?_); conv => whnf
          | (with_reducible refine vcall_id ?_)
            first
            | (refine call_rel (x := bn) (p := u64 (canonI bn)) rfl (by show bn < _; omega) rfl (.inl rfl) ?_); conv => whnf
          | (with_reducible refine Both.mk ?_ ?_) <;> conv => whnf
          | (refine ⟨[], _, _, rfl, ?_⟩); conv => whnf
          | (refine ⟨_, rfl, ?_⟩); conv => whnf
          | (refine ⟨_, unbytes_pbytes _, ?_⟩); conv => whnf
          | exact ⟨_, _, rfl, rfl⟩
          | exact rensG_pu _ _ _ _
          | rfl
          | (rw [snap_own rfl (show (pbytes _).length = _ * 1 from by rw [pbytes_length, Nat.mul_one])]); conv => whnf
          | fail
      all_goals first
        | (exfalso; omega)
        | exact e _ (only0 (by omega)).symm
        | exact e _ (only0 (by have q := hs2 (by assumption); omega)).symm
        | exact e _ (bad2 (fun q => absurd q.symm (by assumption))).symm
        | exact e _ (bad3 (by omega)).symm
        | exact e _ (bad4 (by omega)).symm
        | exact e _ (bad5 rfl (by omega)).symm
        | skip
      all_goals
        have q2 : canonI bn = bn := Eq.symm (by assumption)
        have q0 : (l.length = 0 ∨ 1 ≤ d) ∧ decide (0 ≤ sizeL l (d - 1) 2) = R := by
          first
            | (have g := good (by omega) q2 (by omega) (by omega)
               rw [if_neg (by decide)] at g
               obtain rfl : l = [] := List.eq_nil_of_length_eq_zero (by omega)
               exact ⟨.inl rfl, by rw [g, sizeL]; rfl⟩)
            | (have g := good (by have q := hs1 (by assumption); omega) q2 (by omega) (by omega)
               rw [if_neg (by decide)] at g
               obtain rfl : l = [] := List.eq_nil_of_length_eq_zero (by omega)
               exact ⟨.inl rfl, by rw [g, sizeL]; rfl⟩)
            | (have g := good (by have q := hs1 (by assumption); omega) q2 (by omega) (by omega)
               rw [if_pos rfl, decide_eq_true (show ¬ d = 0 by omega), Bool.true_and] at g
               exact ⟨.inr (by omega), g.symm⟩)
        refine bw_loop (α := Nat) (fun j => [(1, .pu (i64 d)), (2, .ptr 0 0 0), (5, .pu (i64 (j : Int)))]) (fun _ => [some ⟨ty_Value, 0, [i64 _, i64 i, u64 (bn : Int), str s, PV.sl l.length (cellsL l)].map .pu⟩])
          (fun j => j ≤ l.length ∧ decide (0 ≤ sizeL (l.drop j) (d - 1) 2) = R) (fun j => l.length - j) 0 rfl rfl ⟨Nat.zero_le _, q0.2⟩ ?_
        rintro j ⟨h1, h2⟩
        by_cases hj : j < l.length
        · obtain ⟨v, hv⟩ := drop_ex hj
          have hdd : 5 ≤ ((cellsL l).drop ((j : Int).toNat * 5)).length := by rw [List.length_drop, Int.toNat_natCast]; omega
          have g : (j : Int) < (l.length : Int) := by omega
          have we : IntKind.i64.wrap ((d : Int) - 1) = ((d - 1 : Nat) : Int) := by rw [i64_in _ (by omega)]; omega
          rw [hv, sizeL_step] at h2
          repeat' first
            | (with_reducible first | refine bo_run ?_ | refine bw_run ?_ | refine bd_run ?_ | refine Br.tt ?_ | refine Br.ff ?_); conv => whnf
            | (with_reducible refine br_not ?_)
            | (with_reducible first | refine br_dec_tt (by assumption) ?_ | refine br_dec_ff (by assumption) ?_ | refine br_dec_tt (by decide) ?_ | refine br_dec_ff (by decide) ?_); conv => whnf
            | (with_reducible refine br_dec_intro (fun _ => ?_) (fun _ => ?_)) <;> conv => whnf
            | (with_reducible first | refine br_beq_tt (by assumption) ?_ | refine br_beq_ff (by assumption) ?_ | refine br_beq_tt (by decide) ?_ | refine br_beq_ff (by decide) ?_); conv => whnf
            | (with_reducible refine br_beq_intro (fun _ => ?_) (fun _ => ?_)) <;> conv => whnf
            | (with_reducible first | refine br_bne_tt (by assumption) ?_ | refine br_bne_ff (by assumption) ?_ | refine br_bne_tt (by decide) ?_ | refine br_bne_ff (by decide) ?_); conv => whnf
            | (with_reducible refine br_bne_intro (fun _ => ?_) (fun _ => ?_)) <;> conv => whnf
            | (with_reducible first | refine br_of_true (by assumption) ?_ | refine br_of_false (by assumption) ?_); conv => whnf
            | (with_reducible refine br_intro (fun _ => ?_) (fun _ => ?_)) <;> conv => whnf
            | (with_reducible refine and_rfl ?_); conv => whnf
            | (refine and_late (fun _ => ?_) (by first | omega | (show _ = _; rfl) | exact trivial | exact ⟨rfl, trivial⟩ | exact ⟨rfl, rfl, trivial⟩ | exact (fun h => by cases h) | exact (fun _ => ⟨rfl, rfl⟩) | exact Nat.le_of_ble_eq_true rfl | (simp only [List.length_map, List.length_append, pbytes, Nat.mul_one, List.length_cons, List.length_nil]; first | done | omega))); conv => whnf
            | (with_reducible refine and_late (fun _ => ?_) ?_); conv => whnf
            | (with_reducible refine vcall_id ?_)
              first
              | (refine vcall_inl rfl rfl rfl rfl (Nat.le_of_ble_eq_true rfl) ?_)
            | (with_reducible refine Both.mk ?_ ?_) <;> conv => whnf
            | (refine ⟨[], _, _, rfl, ?_⟩); conv => whnf
            | (refine ⟨_, rfl, ?_⟩); conv => whnf
            | (refine ⟨_, unbytes_pbytes _, ?_⟩); conv => whnf
            | exact ⟨_, _, rfl, rfl⟩
            | exact rensG_pu _ _ _ _
            | rfl
            | (rw [snap_own rfl (show (pbytes _).length = _ * 1 from by rw [pbytes_length, Nat.mul_one])]); conv => whnf
            | fail
          refine call_rel (x := (v, d - 1)) (p := bl (decide (0 ≤ sizeV v (d - 1)))) (by show some [PV.agg _, i64 _] = some [pvV v, i64 ((d - 1 : Nat) : Int)]; rw [pvV, ← cells_at hv, we]; rfl) (by have := rk_drop hv; exact ⟨by show rkV v < n; omega, okL_drop ok2.2 hv, by show d - 1 ≤ 4; omega⟩) rfl (.inl rfl) ?_
          conv => whnf
          repeat' first
            | (with_reducible first | refine bo_run ?_ | refine bw_run ?_ | refine bd_run ?_ | refine Br.tt ?_ | refine Br.ff ?_); conv => whnf
            | (with_reducible refine br_not ?_)
            | (with_reducible first | refine br_dec_tt (by assumption) ?_ | refine br_dec_ff (by assumption) ?_ | refine br_dec_tt (by decide) ?_ | refine br_dec_ff (by decide) ?_); conv => whnf
            | (with_reducible refine br_dec_intro (fun _ => ?_) (fun _ => ?_)) <;> conv => whnf
            | (with_reducible first | refine br_beq_tt (by assumption) ?_ | refine br_beq_ff (by assumption) ?_ | refine br_beq_tt (by decide) ?_ | refine br_beq_ff (by decide) ?_); conv => whnf
            | (with_reducible refine br_beq_intro (fun _ => ?_) (fun _ => ?_)) <;> conv => whnf
            | (with_reducible first | refine br_bne_tt (by assumption) ?_ | refine br_bne_ff (by assumption) ?_ | refine br_bne_tt (by decide) ?_ | refine br_bne_ff (by decide) ?_); conv => whnf
            | (with_reducible refine br_bne_intro (fun _ => ?_) (fun _ => ?_)) <;> conv => whnf
            | (with_reducible first | refine br_of_true (by assumption) ?_ | refine br_of_false (by assumption) ?_); conv => whnf
            | (with_reducible refine br_intro (fun _ => ?_) (fun _ => ?_)) <;> conv => whnf
            | (with_reducible refine and_rfl ?_); conv => whnf
            | (refine and_late (fun _ => ?_) (by first | omega | (show _ = _; rfl) | exact trivial | exact ⟨rfl, trivial⟩ | exact ⟨rfl, rfl, trivial⟩ | exact (fun h => by cases h) | exact (fun _ => ⟨rfl, rfl⟩) | exact Nat.le_of_ble_eq_true rfl | (simp only [List.length_map, List.length_append, pbytes, Nat.mul_one, List.length_cons, List.length_nil]; first | done | omega))); conv => whnf
            | (with_reducible refine and_late (fun _ => ?_) ?_); conv => whnf
            | (with_reducible refine vcall_id ?_)
              first
              | (refine vcall_inl rfl rfl rfl rfl (Nat.le_of_ble_eq_true rfl) ?_)
            | (with_reducible refine Both.mk ?_ ?_) <;> conv => whnf
            | (refine ⟨[], _, _, rfl, ?_⟩); conv => whnf
            | (refine ⟨_, rfl, ?_⟩); conv => whnf
            | (refine ⟨_, unbytes_pbytes _, ?_⟩); conv => whnf
            | exact ⟨_, _, rfl, rfl⟩
            | exact rensG_pu _ _ _ _
            | rfl
            | (rw [snap_own rfl (show (pbytes _).length = _ * 1 from by rw [pbytes_length, Nat.mul_one])]); conv => whnf
            | fail
          · have q3 : 0 ≤ sizeV v (d - 1) := by assumption
            rw [decide_eq_true q3, Bool.true_and] at h2
            refine ⟨_, ?_, j + 1, ⟨by omega, h2⟩, rfl, by rw [i64_in ((j : Int) + 1) (by omega)]; rfl, rfl⟩
            omega
          · have q3 : ¬ 0 ≤ sizeV v (d - 1) := by assumption
            rw [decide_eq_false q3, Bool.false_and] at h2
            exact e _ h2
        · have g : ¬ (j : Int) < (l.length : Int) := by omega
          repeat' first
            | (with_reducible first | refine bo_run ?_ | refine bw_run ?_ | refine bd_run ?_ | refine Br.tt ?_ | refine Br.ff ?_); conv => whnf
            | (with_reducible refine br_not ?_)
            | (with_reducible first | refine br_dec_tt (by assumption) ?_ | refine br_dec_ff (by assumption) ?_ | refine br_dec_tt (by decide) ?_ | refine br_dec_ff (by decide) ?_); conv => whnf
            | (with_reducible refine br_dec_intro (fun _ => ?_) (fun _ => ?_)) <;> conv => whnf
            | (with_reducible first | refine br_beq_tt (by assumption) ?_ | refine br_beq_ff (by assumption) ?_ | refine br_beq_tt (by decide) ?_ | refine br_beq_ff (by decide) ?_); conv => whnf
            | (with_reducible refine br_beq_intro (fun _ => ?_) (fun _ => ?_)) <;> conv => whnf
            | (with_reducible first | refine br_bne_tt (by assumption) ?_ | refine br_bne_ff (by assumption) ?_ | refine br_bne_tt (by decide) ?_ | refine br_bne_ff (by decide) ?_); conv => whnf
            | (with_reducible refine br_bne_intro (fun _ => ?_) (fun _ => ?_)) <;> conv => whnf
            | (with_reducible first | refine br_of_true (by assumption) ?_ | refine br_of_false (by assumption) ?_); conv => whnf
            | (with_reducible refine br_intro (fun _ => ?_) (fun _ => ?_)) <;> conv => whnf
            | (with_reducible refine and_rfl ?_); conv => whnf
            | (refine and_late (fun _ => ?_) (by first | omega | (show _ = _; rfl) | exact trivial | exact ⟨rfl, trivial⟩ | exact ⟨rfl, rfl, trivial⟩ | exact (fun h => by cases h) | exact (fun _ => ⟨rfl, rfl⟩) | exact Nat.le_of_ble_eq_true rfl | (simp only [List.length_map, List.length_append, pbytes, Nat.mul_one, List.length_cons, List.length_nil]; first | done | omega))); conv => whnf
            | (with_reducible refine and_late (fun _ => ?_) ?_); conv => whnf
            | (with_reducible refine vcall_id ?_)
              first
              | (refine vcall_inl rfl rfl rfl rfl (Nat.le_of_ble_eq_true rfl) ?_)
            | (with_reducible refine Both.mk ?_ ?_) <;> conv => whnf
            | (refine ⟨[], _, _, rfl, ?_⟩); conv => whnf
            | (refine ⟨_, rfl, ?_⟩); conv => whnf
            | (refine ⟨_, unbytes_pbytes _, ?_⟩); conv => whnf
            | exact ⟨_, _, rfl, rfl⟩
            | exact rensG_pu _ _ _ _
            | rfl
            | (rw [snap_own rfl (show (pbytes _).length = _ * 1 from by rw [pbytes_length, Nat.mul_one])]); conv => whnf
            | fail
          rw [List.drop_of_length_le (by omega), sizeL] at h2
          exact e _ h2
theorem con_ref05_shape : Contract Try.prog id_ref05_shape (RelP (fun (x : V × Nat) => okV x.1 ∧ x.2 ≤ 4) (fun x => [pvV x.1, i64 x.2]) (fun x => bl (decide (0 ≤ sizeV x.1 x.2)))) :=
  (Contract.all con_ref05_shape' 0).pre fun x h => ⟨rkV x.1 + 1, Nat.lt_succ_self _, h⟩
theorem con_ref05_bytes' : ∀ n, Contract Try.prog id_ref05_bytes (RelP (PPut n) (fun (p, v, _, _) => [p, pvV v]) (fun (_, v, xs, _) => bsl (xs ++ bytesV v)))
  | 0 => by
    refine (code_ref05_bytes).pure Known.nil (by rintro x -; first | exact Nat.le_of_ble_eq_true rfl | (obtain ⟨_, _⟩ := x; exact Nat.le_of_ble_eq_true rfl) | (obtain ⟨_, _, _⟩ := x; exact Nat.le_of_ble_eq_true rfl) | (obtain ⟨_, _, _, _⟩ := x; exact Nat.le_of_ble_eq_true rfl) | (obtain ⟨_, _, _, _, _⟩ := x; exact Nat.le_of_ble_eq_true rfl) | (obtain ⟨_, _, _, _, _, _⟩ := x; exact Nat.le_of_ble_eq_true rfl) | (obtain ⟨_, _, _, _, _, _, _⟩ := x; exact Nat.le_of_ble_eq_true rfl) | (obtain ⟨_, _, _, _, _, _, _, _⟩ := x; exact Nat.le_of_ble_eq_true rfl)) ?_
    rintro ⟨p, v, xs, d⟩ h
    exact absurd h.1 (Nat.not_lt_zero _)
  | n + 1 => by
    have ih := con_ref05_bytes' n
    have hN := con_ref02_Num.bytes
    have hI := con_ref02_Int.bytes
    have hB := con_ref02_Bits.bytes
    have hT := con_ref02_Text.bytes
    refine (code_ref05_bytes).pure (Known.cons hN (Known.cons hI (Known.cons hB (Known.cons hT (Known.cons ih Known.nil))))) (by rintro x -; first | exact Nat.le_of_ble_eq_true rfl | (obtain ⟨_, _⟩ := x; exact Nat.le_of_ble_eq_true rfl) | (obtain ⟨_, _, _⟩ := x; exact Nat.le_of_ble_eq_true rfl) | (obtain ⟨_, _, _, _⟩ := x; exact Nat.le_of_ble_eq_true rfl) | (obtain ⟨_, _, _, _, _⟩ := x; exact Nat.le_of_ble_eq_true rfl) | (obtain ⟨_, _, _, _, _, _⟩ := x; exact Nat.le_of_ble_eq_true rfl) | (obtain ⟨_, _, _, _, _, _, _⟩ := x; exact Nat.le_of_ble_eq_true rfl) | (obtain ⟨_, _, _, _, _, _, _, _⟩ := x; exact Nat.le_of_ble_eq_true rfl)) ?_
    rintro ⟨p, ⟨k, i, b, s, l⟩, xs, d⟩ ⟨h, ok, hp, hz, hs⟩
    simp only [rkV_mk] at h
    have ok1 := ok
    rw [okV_mk] at ok1
    obtain ⟨ok4, ok5, ok6, ok3, ok2⟩ := ok1
    obtain ⟨g1, g2, g3, g4, g5⟩ := sizeV_inv hs
    obtain ⟨k1, k2⟩ := onlyB_k g1
    simp only [pvV_mk]
    generalize hR : bytesV (.mk k i b s l) = R at hz
    have hc := cellsL_length l
    rw [bytesV_mk] at hR
    have hz2 := congrArg List.length hR
    rw [List.length_append] at hz2
    obtain ⟨bn, rfl⟩ : ∃ bn : Nat, b = bn := ⟨b.toNat, by omega⟩
    repeat' first
      | (with_reducible first | refine bo_run ?_ | refine bw_run ?_ | refine bd_run ?_ | refine Br.tt ?_ | refine Br.ff ?_); conv => whnf
      | (with_reducible refine br_not ?_)
      | (with_reducible first | refine br_dec_tt (by assumption) ?_ | refine br_dec_ff (by assumption) ?_ | refine br_dec_tt (by decide) ?_ | refine br_dec_ff (by decide) ?_); conv => whnf
      | (with_reducible refine br_dec_intro (fun _ => ?_) (fun _ => ?_)) <;> conv => whnf
      | (with_reducible first | refine br_beq_tt (by assumption) ?_ | refine br_beq_ff (by assumption) ?_ | refine br_beq_tt (by decide) ?_ | refine br_beq_ff (by decide) ?_); conv => whnf
      | (with_reducible refine br_beq_intro (fun _ => ?_) (fun _ => ?_)) <;> conv => whnf
      | (with_reducible first | refine br_bne_tt (by assumption) ?_ | refine br_bne_ff (by assumption) ?_ | refine br_bne_tt (by decide) ?_ | refine br_bne_ff (by decide) ?_); conv => whnf
      | (with_reducible refine br_bne_intro (fun _ => ?_) (fun _ => ?_)) <;> conv => whnf
      | (with_reducible first | refine br_of_true (by assumption) ?_ | refine br_of_false (by assumption) ?_); conv => whnf
      | (with_reducible refine br_intro (fun _ => ?_) (fun _ => ?_)) <;> conv => whnf
      | (with_reducible refine and_rfl ?_); conv => whnf
      | (refine and_late (fun _ => ?_) (by first | omega | (show _ = _; rfl) | exact trivial | exact ⟨rfl, trivial⟩ | exact ⟨rfl, rfl, trivial⟩ | exact (fun h => by cases h) | exact (fun _ => ⟨rfl, rfl⟩) | exact Nat.le_of_ble_eq_true rfl | (simp only [List.length_map, List.length_append, pbytes, Nat.mul_one, List.length_cons, List.length_nil]; first | done | omega))); conv => whnf
      | (with_reducible refine and_late (fun _ => ?_) ?_); conv => whnf
      | (with_reducible refine vcall_id ?_)
        first
        | (refine vcall_inl rfl rfl rfl rfl (Nat.le_of_ble_eq_true rfl) ?_)
      | (with_reducible refine Both.mk ?_ ?_) <;> conv => whnf
      | (refine ⟨[], _, _, rfl, ?_⟩); conv => whnf
      | (refine ⟨_, rfl, ?_⟩); conv => whnf
      | (refine ⟨_, unbytes_pbytes _, ?_⟩); conv => whnf
      | exact ⟨_, _, rfl, rfl⟩
      | exact rensG_pu _ _ _ _
      | rfl
      | (rw [snap_own rfl (show (pbytes _).length = _ * 1 from by rw [pbytes_length, Nat.mul_one])]); conv => whnf
      | fail
    refine call_rel (x := (p, k, xs)) (p := bsl (xs ++ numB k.toNat)) rfl (by exact ⟨hp, by show xs.length ≤ _; omega, by show k < _; omega⟩) rfl (.inl rfl) ?_
    conv => whnf
    have hx1 : (xs ++ numB k.toNat).length ≤ 200000000 := by rw [List.length_append]; omega
    repeat' first
      | (with_reducible first | refine bo_run ?_ | refine bw_run ?_ | refine bd_run ?_ | refine Br.tt ?_ | refine Br.ff ?_); conv => whnf
      | (with_reducible refine br_not ?_)
      | (with_reducible first | refine br_dec_tt (by assumption) ?_ | refine br_dec_ff (by assumption) ?_ | refine br_dec_tt (by decide) ?_ | refine br_dec_ff (by decide) ?_); conv => whnf
      | (with_reducible refine br_dec_intro (fun _ => ?_) (fun _ => ?_)) <;> conv => whnf
      | (with_reducible first | refine br_beq_tt (by assumption) ?_ | refine br_beq_ff (by assumption) ?_ | refine br_beq_tt (by decide) ?_ | refine br_beq_ff (by decide) ?_); conv => whnf
      | (with_reducible refine br_beq_intro (fun _ => ?_) (fun _ => ?_)) <;> conv => whnf
      | (with_reducible first | refine br_bne_tt (by assumption) ?_ | refine br_bne_ff (by assumption) ?_ | refine br_bne_tt (by decide) ?_ | refine br_bne_ff (by decide) ?_); conv => whnf
      | (with_reducible refine br_bne_intro (fun _ => ?_) (fun _ => ?_)) <;> conv => whnf
      | (with_reducible first | refine br_of_true (by assumption) ?_ | refine br_of_false (by assumption) ?_); conv => whnf
      | (with_reducible refine br_intro (fun _ => ?_) (fun _ => ?_)) <;> conv => whnf
      | (with_reducible refine and_rfl ?_); conv => whnf
      | (refine and_late (fun _ => ?_) (by first | omega | (show _ = _; rfl) | exact trivial | exact ⟨rfl, trivial⟩ | exact ⟨rfl, rfl, trivial⟩ | exact (fun h => by cases h) | exact (fun _ => ⟨rfl, rfl⟩) | exact Nat.le_of_ble_eq_true rfl | (simp only [List.length_map, List.length_append, pbytes, Nat.mul_one, List.length_cons, List.length_nil]; first | done | omega))); conv => whnf
      | (with_reducible refine and_late (fun _ => ?_) ?_); conv => whnf
      | (with_reducible refine vcall_id ?_)
        first
        | (refine vcall_inl rfl rfl rfl rfl (Nat.le_of_ble_eq_true rfl) ?_)
      | (with_reducible refine Both.mk ?_ ?_) <;> conv => whnf
      | (refine ⟨[], _, _, rfl, ?_⟩); conv => whnf
      | (refine ⟨_, rfl, ?_⟩); conv => whnf
      | (refine ⟨_, unbytes_pbytes _, ?_⟩); conv => whnf
      | exact ⟨_, _, rfl, rfl⟩
      | exact rensG_pu _ _ _ _
      | rfl
      | (rw [snap_own rfl (show (pbytes _).length = _ * 1 from by rw [pbytes_length, Nat.mul_one])]); conv => whnf
      | fail
    · have q : k = 1 := by assumption
      rw [if_pos q] at hR
      refine call_rel (x := (bsl (xs ++ numB k.toNat), i, xs ++ numB k.toNat)) (p := bsl (xs ++ R)) rfl (by exact ⟨asB_sl _, by show (xs ++ numB k.toNat).length ≤ _; omega⟩) (by show bsl _ = _; rw [← hR, List.append_assoc]) (.inl rfl) ?_
      conv => whnf
      repeat' first
        | (with_reducible first | refine bo_run ?_ | refine bw_run ?_ | refine bd_run ?_ | refine Br.tt ?_ | refine Br.ff ?_); conv => whnf
        | (with_reducible refine br_not ?_)
        | (with_reducible first | refine br_dec_tt (by assumption) ?_ | refine br_dec_ff (by assumption) ?_ | refine br_dec_tt (by decide) ?_ | refine br_dec_ff (by decide) ?_); conv => whnf
        | (with_reducible refine br_dec_intro (fun _ => ?_) (fun _ => ?_)) <;> conv => whnf
        | (with_reducible first | refine br_beq_tt (by assumption) ?_ | refine br_beq_ff (by assumption) ?_ | refine br_beq_tt (by decide) ?_ | refine br_beq_ff (by decide) ?_); conv => whnf
        | (with_reducible refine br_beq_intro (fun _ => ?_) (fun _ => ?_)) <;> conv => whnf
        | (with_reducible first | refine br_bne_tt (by assumption) ?_ | refine br_bne_ff (by assumption) ?_ | refine br_bne_tt (by decide) ?_ | refine br_bne_ff (by decide) ?_); conv => whnf
        | (with_reducible refine br_bne_intro (fun _ => ?_) (fun _ => ?_)) <;> conv => whnf
        | (with_reducible first | refine br_of_true (by assumption) ?_ | refine br_of_false (by assumption) ?_); conv => whnf
        | (with_reducible refine br_intro (fun _ => ?_) (fun _ => ?_)) <;> conv => whnf
        | (with_reducible refine and_rfl ?_); conv => whnf
        | (refine and_late (fun _ => ?_) (by first | omega | (show _ = _; rfl) | exact trivial | exact ⟨rfl, trivial⟩ | exact ⟨rfl, rfl, trivial⟩ | exact (fun h => by cases h) | exact (fun _ => ⟨rfl, rfl⟩) | exact Nat.le_of_ble_eq_true rfl | (simp only [List.length_map, List.length_append, pbytes, Nat.mul_one, List.length_cons, List.length_nil]; first | done | omega))); conv => whnf
        | (with_reducible refine and_late (fun _ => ?_) ?_); conv => whnf
        | (with_reducible refine vcall_id ?_)
          first
          | (refine vcall_inl rfl rfl rfl rfl (Nat.le_of_ble_eq_true rfl) ?_)
        | (with_reducible refine Both.mk ?_ ?_) <;> conv => whnf
        | (refine ⟨[], _, _, rfl, ?_⟩); conv => whnf
        | (refine ⟨_, rfl, ?_⟩); conv => whnf
        | (refine ⟨_, unbytes_pbytes _, ?_⟩); conv => whnf
        | exact ⟨_, _, rfl, rfl⟩
        | exact rensG_pu _ _ _ _
        | rfl
        | (rw [snap_own rfl (show (pbytes _).length = _ * 1 from by rw [pbytes_length, Nat.mul_one])]); conv => whnf
        | fail
    · have q : k = 2 := by assumption
      rw [if_neg (by omega), if_pos q] at hR
      refine call_rel (x := (bsl (xs ++ numB k.toNat), bn, xs ++ numB k.toNat)) (p := bsl (xs ++ R)) rfl (by exact ⟨asB_sl _, by show (xs ++ numB k.toNat).length ≤ _; omega, by show bn < _; omega⟩) (by show bsl _ = _; rw [← hR, List.append_assoc]; rfl) (.inl rfl) ?_
      conv => whnf
      repeat' first
        | (with_reducible first | refine bo_run ?_ | refine bw_run ?_ | refine bd_run ?_ | refine Br.tt ?_ | refine Br.ff ?_); conv => whnf
        | (with_reducible refine br_not ?_)
        | (with_reducible first | refine br_dec_tt (by assumption) ?_ | refine br_dec_ff (by assumption) ?_ | refine br_dec_tt (by decide) ?_ | refine br_dec_ff (by decide) ?_); conv => whnf
        | (with_reducible refine br_dec_intro (fun _ => ?_) (fun _ => ?_)) <;> conv => whnf
        | (with_reducible first | refine br_beq_tt (by assumption) ?_ | refine br_beq_ff (by assumption) ?_ | refine br_beq_tt (by decide) ?_ | refine br_beq_ff (by decide) ?_); conv => whnf
        | (with_reducible refine br_beq_intro (fun _ => ?_) (fun _ => ?_)) <;> conv => whnf
        | (with_reducible first | refine br_bne_tt (by assumption) ?_ | refine br_bne_ff (by assumption) ?_ | refine br_bne_tt (by decide) ?_ | refine br_bne_ff (by decide) ?_); conv => whnf
        | (with_reducible refine br_bne_intro (fun _ => ?_) (fun _ => ?_)) <;> conv => whnf
        | (with_reducible first | refine br_of_true (by assumption) ?_ | refine br_of_false (by assumption) ?_); conv => whnf
        | (with_reducible refine br_intro (fun _ => ?_) (fun _ => ?_)) <;> conv => whnf
        | (with_reducible refine and_rfl ?_); conv => whnf
        | (refine and_late (fun _ => ?_) (by first | omega | (show _ = _; rfl) | exact trivial | exact ⟨rfl, trivial⟩ | exact ⟨rfl, rfl, trivial⟩ | exact (fun h => by cases h) | exact (fun _ => ⟨rfl, rfl⟩) | exact Nat.le_of_ble_eq_true rfl | (simp only [List.length_map, List.length_append, pbytes, Nat.mul_one, List.length_cons, List.length_nil]; first | done | omega))); conv => whnf
        | (with_reducible refine and_late (fun _ => ?_) ?_); conv => whnf
        | (with_reducible refine vcall_id ?_)
          first
          | (refine vcall_inl rfl rfl rfl rfl (Nat.le_of_ble_eq_true rfl) ?_)
        | (with_reducible refine Both.mk ?_ ?_) <;> conv => whnf
        | (refine ⟨[], _, _, rfl, ?_⟩); conv => whnf
        | (refine ⟨_, rfl, ?_⟩); conv => whnf
        | (refine ⟨_, unbytes_pbytes _, ?_⟩); conv => whnf
        | exact ⟨_, _, rfl, rfl⟩
        | exact rensG_pu _ _ _ _
        | rfl
        | (rw [snap_own rfl (show (pbytes _).length = _ * 1 from by rw [pbytes_length, Nat.mul_one])]); conv => whnf
        | fail
    · have q : k = 3 := by assumption
      rw [if_neg (by omega), if_neg (by omega), if_pos q] at hR
      refine call_rel (x := (bsl (xs ++ numB k.toNat), s, xs ++ numB k.toNat)) (p := bsl (xs ++ R)) rfl (by exact ⟨asB_sl _, by show (xs ++ numB k.toNat).length ≤ _; omega, by show s.size ≤ _; omega⟩) (by show bsl _ = _; rw [← hR, List.append_assoc]) (.inl rfl) ?_
      conv => whnf
      repeat' first
        | (with_reducible first | refine bo_run ?_ | refine bw_run ?_ | refine bd_run ?_ | refine Br.tt ?_ | refine Br.ff ?_); conv => whnf
        | (with_reducible refine br_not ?_)
        | (with_reducible first | refine br_dec_tt (by assumption) ?_ | refine br_dec_ff (by assumption) ?_ | refine br_dec_tt (by decide) ?_ | refine br_dec_ff (by decide) ?_); conv => whnf
        | (with_reducible refine br_dec_intro (fun _ => ?_) (fun _ => ?_)) <;> conv => whnf
        | (with_reducible first | refine br_beq_tt (by assumption) ?_ | refine br_beq_ff (by assumption) ?_ | refine br_beq_tt (by decide) ?_ | refine br_beq_ff (by decide) ?_); conv => whnf
        | (with_reducible refine br_beq_intro (fun _ => ?_) (fun _ => ?_)) <;> conv => whnf
        | (with_reducible first | refine br_bne_tt (by assumption) ?_ | refine br_bne_ff (by assumption) ?_ | refine br_bne_tt (by decide) ?_ | refine br_bne_ff (by decide) ?_); conv => whnf
        | (with_reducible refine br_bne_intro (fun _ => ?_) (fun _ => ?_)) <;> conv => whnf
        | (with_reducible first | refine br_of_true (by assumption) ?_ | refine br_of_false (by assumption) ?_); conv => whnf
        | (with_reducible refine br_intro (fun _ => ?_) (fun _ => ?_)) <;> conv => whnf
        | (with_reducible refine and_rfl ?_); conv => whnf
        | (refine and_late (fun _ => ?_) (by first | omega | (show _ = _; rfl) | exact trivial | exact ⟨rfl, trivial⟩ | exact ⟨rfl, rfl, trivial⟩ | exact (fun h => by cases h) | exact (fun _ => ⟨rfl, rfl⟩) | exact Nat.le_of_ble_eq_true rfl | (simp only [List.length_map, List.length_append, pbytes, Nat.mul_one, List.length_cons, List.length_nil]; first | done | omega))); conv => whnf
        | (with_reducible refine and_late (fun _ => ?_) ?_); conv => whnf
        | (with_reducible refine vcall_id ?_)
          first
          | (refine vcall_inl rfl rfl rfl rfl (Nat.le_of_ble_eq_true rfl) ?_)
        | (with_reducible refine Both.mk ?_ ?_) <;> conv => whnf
        | (refine ⟨[], _, _, rfl, ?_⟩); conv => whnf
        | (refine ⟨_, rfl, ?_⟩); conv => whnf
        | (refine ⟨_, unbytes_pbytes _, ?_⟩); conv => whnf
        | exact ⟨_, _, rfl, rfl⟩
        | exact rensG_pu _ _ _ _
        | rfl
        | (rw [snap_own rfl (show (pbytes _).length = _ * 1 from by rw [pbytes_length, Nat.mul_one])]); conv => whnf
        | fail
    · have q : k = 4 := by assumption
      rw [if_neg (by omega), if_neg (by omega), if_neg (by omega), if_pos q] at hR
      obtain ⟨q1, q2, q3⟩ := g5 q
      refine call_rel (x := (bsl (xs ++ numB k.toNat), (l.length : Int), xs ++ numB k.toNat)) (p := bsl (xs ++ numB k.toNat ++ numB l.length)) rfl (by exact ⟨asB_sl _, by show (xs ++ numB k.toNat).length ≤ _; omega, by show (l.length : Int) < _; omega⟩) rfl (.inl rfl) ?_
      conv => whnf
      repeat' first
        | (with_reducible first | refine bo_run ?_ | refine bw_run ?_ | refine bd_run ?_ | refine Br.tt ?_ | refine Br.ff ?_); conv => whnf
        | (with_reducible refine br_not ?_)
        | (with_reducible first | refine br_dec_tt (by assumption) ?_ | refine br_dec_ff (by assumption) ?_ | refine br_dec_tt (by decide) ?_ | refine br_dec_ff (by decide) ?_); conv => whnf
        | (with_reducible refine br_dec_intro (fun _ => ?_) (fun _ => ?_)) <;> conv => whnf
        | (with_reducible first | refine br_beq_tt (by assumption) ?_ | refine br_beq_ff (by assumption) ?_ | refine br_beq_tt (by decide) ?_ | refine br_beq_ff (by decide) ?_); conv => whnf
        | (with_reducible refine br_beq_intro (fun _ => ?_) (fun _ => ?_)) <;> conv => whnf
        | (with_reducible first | refine br_bne_tt (by assumption) ?_ | refine br_bne_ff (by assumption) ?_ | refine br_bne_tt (by decide) ?_ | refine br_bne_ff (by decide) ?_); conv => whnf
        | (with_reducible refine br_bne_intro (fun _ => ?_) (fun _ => ?_)) <;> conv => whnf
        | (with_reducible first | refine br_of_true (by assumption) ?_ | refine br_of_false (by assumption) ?_); conv => whnf
        | (with_reducible refine br_intro (fun _ => ?_) (fun _ => ?_)) <;> conv => whnf
        | (with_reducible refine and_rfl ?_); conv => whnf
        | (refine and_late (fun _ => ?_) (by first | omega | (show _ = _; rfl) | exact trivial | exact ⟨rfl, trivial⟩ | exact ⟨rfl, rfl, trivial⟩ | exact (fun h => by cases h) | exact (fun _ => ⟨rfl, rfl⟩) | exact Nat.le_of_ble_eq_true rfl | (simp only [List.length_map, List.length_append, pbytes, Nat.mul_one, List.length_cons, List.length_nil]; first | done | omega))); conv => whnf
        | (with_reducible refine and_late (fun _ => ?_) ?_); conv => whnf
        | (with_reducible refine vcall_id ?_)
          first
          | (refine vcall_inl rfl rfl rfl rfl (Nat.le_of_ble_eq_true rfl) ?_)
        | (with_reducible refine Both.mk ?_ ?_) <;> conv => whnf
        | (refine ⟨[], _, _, rfl, ?_⟩); conv => whnf
        | (refine ⟨_, rfl, ?_⟩); conv => whnf
        | (refine ⟨_, unbytes_pbytes _, ?_⟩); conv => whnf
        | exact ⟨_, _, rfl, rfl⟩
        | exact rensG_pu _ _ _ _
        | rfl
        | (rw [snap_own rfl (show (pbytes _).length = _ * 1 from by rw [pbytes_length, Nat.mul_one])]); conv => whnf
        | fail
      refine bw_loop (α := Nat × List Int) (fun x => [(0, .pu (bsl x.2)), (3, .ptr 0 0 0), (5, .pu (i64 (x.1 : Int)))])
        (fun _ => [some ⟨ty_Value, 0, [i64 k, i64 i, u64 (bn : Int), str s, PV.sl l.length (cellsL l)].map .pu⟩])
        (fun x => x.1 ≤ l.length ∧ x.2 ++ bytesL (l.drop x.1) = xs ++ R) (fun x => l.length - x.1) (0, xs ++ numB k.toNat ++ numB l.length) rfl rfl ⟨Nat.zero_le _, by rw [← hR]; simp [List.append_assoc]⟩ ?_
      rintro ⟨j, y⟩ ⟨h1, h2⟩
      simp only at h1 h2
      dsimp only
      by_cases hj : j < l.length
      · obtain ⟨v, hv⟩ := drop_ex hj
        have hdd : 5 ≤ ((cellsL l).drop ((j : Int).toNat * 5)).length := by rw [List.length_drop, Int.toNat_natCast]; omega
        have g : (j : Int) < (l.length : Int) := by omega
        rw [hv, bytesL, ← List.append_assoc] at h2
        have hl2 := congrArg List.length h2
        rw [List.length_append, List.length_append, List.length_append] at hl2
        have hrk := rk_drop hv
        have hok := okL_drop ok2.2 hv
        have hsz := sizeL_all q2 hv
        repeat' first
          | (with_reducible first | refine bo_run ?_ | refine bw_run ?_ | refine bd_run ?_ | refine Br.tt ?_ | refine Br.ff ?_); conv => whnf
          | (with_reducible refine br_not ?_)
          | (with_reducible first | refine br_dec_tt (by assumption) ?_ | refine br_dec_ff (by assumption) ?_ | refine br_dec_tt (by decide) ?_ | refine br_dec_ff (by decide) ?_); conv => whnf
          | (with_reducible refine br_dec_intro (fun _ => ?_) (fun _ => ?_)) <;> conv => whnf
          | (with_reducible first | refine br_beq_tt (by assumption) ?_ | refine br_beq_ff (by assumption) ?_ | refine br_beq_tt (by decide) ?_ | refine br_beq_ff (by decide) ?_); conv => whnf
          | (with_reducible refine br_beq_intro (fun _ => ?_) (fun _ => ?_)) <;> conv => whnf
          | (with_reducible first | refine br_bne_tt (by assumption) ?_ | refine br_bne_ff (by assumption) ?_ | refine br_bne_tt (by decide) ?_ | refine br_bne_ff (by decide) ?_); conv => whnf
          | (with_reducible refine br_bne_intro (fun _ => ?_) (fun _ => ?_)) <;> conv => whnf
          | (with_reducible first | refine br_of_true (by assumption) ?_ | refine br_of_false (by assumption) ?_); conv => whnf
          | (with_reducible refine br_intro (fun _ => ?_) (fun _ => ?_)) <;> conv => whnf
          | (with_reducible refine and_rfl ?_); conv => whnf
          | (refine and_late (fun _ => ?_) (by first | omega | (show _ = _; rfl) | exact trivial | exact ⟨rfl, trivial⟩ | exact ⟨rfl, rfl, trivial⟩ | exact (fun h => by cases h) | exact (fun _ => ⟨rfl, rfl⟩) | exact Nat.le_of_ble_eq_true rfl | (simp only [List.length_map, List.length_append, pbytes, Nat.mul_one, List.length_cons, List.length_nil]; first | done | omega))); conv => whnf
          | (with_reducible refine and_late (fun _ => ?_) ?_); conv => whnf
          | (with_reducible refine vcall_id ?_)
            first
            | (refine vcall_inl rfl rfl rfl rfl (Nat.le_of_ble_eq_true rfl) ?_)
          | (with_reducible refine Both.mk ?_ ?_) <;> conv => whnf
          | (refine ⟨[], _, _, rfl, ?_⟩); conv => whnf
          | (refine ⟨_, rfl, ?_⟩); conv => whnf
          | (refine ⟨_, unbytes_pbytes _, ?_⟩); conv => whnf
          | exact ⟨_, _, rfl, rfl⟩
          | exact rensG_pu _ _ _ _
          | rfl
          | (rw [snap_own rfl (show (pbytes _).length = _ * 1 from by rw [pbytes_length, Nat.mul_one])]); conv => whnf
          | fail
        refine call_rel (x := (bsl y, v, y, d - 1)) (p := bsl (y ++ bytesV v)) (by show some [bsl y, PV.agg _] = some [bsl y, pvV v]; rw [pvV, ← cells_at hv]; rfl) (by exact ⟨by show rkV v < n; omega, hok, asB_sl _, by show y.length + (bytesV v).length ≤ _; omega, hsz⟩) rfl (.inl rfl) ?_
        conv => whnf
        repeat' first
          | (with_reducible first | refine bo_run ?_ | refine bw_run ?_ | refine bd_run ?_ | refine Br.tt ?_ | refine Br.ff ?_); conv => whnf
          | (with_reducible refine br_not ?_)
          | (with_reducible first | refine br_dec_tt (by assumption) ?_ | refine br_dec_ff (by assumption) ?_ | refine br_dec_tt (by decide) ?_ | refine br_dec_ff (by decide) ?_); conv => whnf
          | (with_reducible refine br_dec_intro (fun _ => ?_) (fun _ => ?_)) <;> conv => whnf
          | (with_reducible first | refine br_beq_tt (by assumption) ?_ | refine br_beq_ff (by assumption) ?_ | refine br_beq_tt (by decide) ?_ | refine br_beq_ff (by decide) ?_); conv => whnf
          | (with_reducible refine br_beq_intro (fun _ => ?_) (fun _ => ?_)) <;> conv => whnf
          | (with_reducible first | refine br_bne_tt (by assumption) ?_ | refine br_bne_ff (by assumption) ?_ | refine br_bne_tt (by decide) ?_ | refine br_bne_ff (by decide) ?_); conv => whnf
          | (with_reducible refine br_bne_intro (fun _ => ?_) (fun _ => ?_)) <;> conv => whnf
          | (with_reducible first | refine br_of_true (by assumption) ?_ | refine br_of_false (by assumption) ?_); conv => whnf
          | (with_reducible refine br_intro (fun _ => ?_) (fun _ => ?_)) <;> conv => whnf
          | (with_reducible refine and_rfl ?_); conv => whnf
          | (refine and_late (fun _ => ?_) (by first | omega | (show _ = _; rfl) | exact trivial | exact ⟨rfl, trivial⟩ | exact ⟨rfl, rfl, trivial⟩ | exact (fun h => by cases h) | exact (fun _ => ⟨rfl, rfl⟩) | exact Nat.le_of_ble_eq_true rfl | (simp only [List.length_map, List.length_append, pbytes, Nat.mul_one, List.length_cons, List.length_nil]; first | done | omega))); conv => whnf
          | (with_reducible refine and_late (fun _ => ?_) ?_); conv => whnf
          | (with_reducible refine vcall_id ?_)
            first
            | (refine vcall_inl rfl rfl rfl rfl (Nat.le_of_ble_eq_true rfl) ?_)
          | (with_reducible refine Both.mk ?_ ?_) <;> conv => whnf
          | (refine ⟨[], _, _, rfl, ?_⟩); conv => whnf
          | (refine ⟨_, rfl, ?_⟩); conv => whnf
          | (refine ⟨_, unbytes_pbytes _, ?_⟩); conv => whnf
          | exact ⟨_, _, rfl, rfl⟩
          | exact rensG_pu _ _ _ _
          | rfl
          | (rw [snap_own rfl (show (pbytes _).length = _ * 1 from by rw [pbytes_length, Nat.mul_one])]); conv => whnf
          | fail
        refine ⟨_, ?_, (j + 1, y ++ bytesV v), ⟨by show j + 1 ≤ _; omega, h2⟩, rfl, by rw [i64_in ((j : Int) + 1) (by omega)]; rfl, rfl⟩
        show l.length - (j + 1) < l.length - j
        omega
      · have g : ¬ (j : Int) < (l.length : Int) := by omega
        repeat' first
          | (with_reducible first | refine bo_run ?_ | refine bw_run ?_ | refine bd_run ?_ | refine Br.tt ?_ | refine Br.ff ?_); conv => whnf
          | (with_reducible refine br_not ?_)
          | (with_reducible first | refine br_dec_tt (by assumption) ?_ | refine br_dec_ff (by assumption) ?_ | refine br_dec_tt (by decide) ?_ | refine br_dec_ff (by decide) ?_); conv => whnf
          | (with_reducible refine br_dec_intro (fun _ => ?_) (fun _ => ?_)) <;> conv => whnf
          | (with_reducible first | refine br_beq_tt (by assumption) ?_ | refine br_beq_ff (by assumption) ?_ | refine br_beq_tt (by decide) ?_ | refine br_beq_ff (by decide) ?_); conv => whnf
          | (with_reducible refine br_beq_intro (fun _ => ?_) (fun _ => ?_)) <;> conv => whnf
          | (with_reducible first | refine br_bne_tt (by assumption) ?_ | refine br_bne_ff (by assumption) ?_ | refine br_bne_tt (by decide) ?_ | refine br_bne_ff (by decide) ?_); conv => whnf
          | (with_reducible refine br_bne_intro (fun _ => ?_) (fun _ => ?_)) <;> conv => whnf
          | (with_reducible first | refine br_of_true (by assumption) ?_ | refine br_of_false (by assumption) ?_); conv => whnf
          | (with_reducible refine br_intro (fun _ => ?_) (fun _ => ?_)) <;> conv => whnf
          | (with_reducible refine and_rfl ?_); conv => whnf
          | (refine and_late (fun _ => ?_) (by first | omega | (show _ = _; rfl) | exact trivial | exact ⟨rfl, trivial⟩ | exact ⟨rfl, rfl, trivial⟩ | exact (fun h => by cases h) | exact (fun _ => ⟨rfl, rfl⟩) | exact Nat.le_of_ble_eq_true rfl | (simp only [List.length_map, List.length_append, pbytes, Nat.mul_one, List.length_cons, List.length_nil]; first | done | omega))); conv => whnf
          | (with_reducible refine and_late (fun _ => ?_) ?_); conv => whnf
          | (with_reducible refine vcall_id ?_)
            first
            | (refine vcall_inl rfl rfl rfl rfl (Nat.le_of_ble_eq_true rfl) ?_)
          | (with_reducible refine Both.mk ?_ ?_) <;> conv => whnf
          | (refine ⟨[], _, _, rfl, ?_⟩); conv => whnf
          | (refine ⟨_, rfl, ?_⟩); conv => whnf
          | (refine ⟨_, unbytes_pbytes _, ?_⟩); conv => whnf
          | exact ⟨_, _, rfl, rfl⟩
          | exact rensG_pu _ _ _ _
          | rfl
          | (rw [snap_own rfl (show (pbytes _).length = _ * 1 from by rw [pbytes_length, Nat.mul_one])]); conv => whnf
          | fail
        rw [List.drop_of_length_le (by omega), bytesL, List.append_nil] at h2
        subst h2
        rfl
    · rw [if_neg (by assumption), if_neg (by assumption), if_neg (by assumption), if_neg (by assumption), List.append_nil] at hR
      subst hR
      rfl
theorem con_ref05_bytes : Contract Try.prog id_ref05_bytes (RelP (fun ((p, v, xs, d) : PV × V × List Int × Nat) => okV v ∧ asB p = some xs ∧ xs.length + (bytesV v).length ≤ 200000000 ∧ 0 ≤ sizeV v d) (fun (p, v, _, _) => [p, pvV v]) (fun (_, v, xs, _) => bsl (xs ++ bytesV v))) :=
  (Contract.all con_ref05_bytes' 0).pre fun x h => ⟨rkV x.2.1 + 1, Nat.lt_succ_self _, h⟩
theorem con_ref05_Check : Contract Try.prog id_ref05_Check (RelP (fun (v : V) => okV v) (fun v => [pvV v]) (fun v => i64 (checkV v))) := by
  refine (code_ref05_Check).pure (Known.cons con_ref05_shape (Known.cons con_ref05_bytes Known.nil)) (by rintro x -; first | exact Nat.le_of_ble_eq_true rfl | (obtain ⟨_, _⟩ := x; exact Nat.le_of_ble_eq_true rfl) | (obtain ⟨_, _, _⟩ := x; exact Nat.le_of_ble_eq_true rfl) | (obtain ⟨_, _, _, _⟩ := x; exact Nat.le_of_ble_eq_true rfl) | (obtain ⟨_, _, _, _, _⟩ := x; exact Nat.le_of_ble_eq_true rfl) | (obtain ⟨_, _, _, _, _, _⟩ := x; exact Nat.le_of_ble_eq_true rfl) | (obtain ⟨_, _, _, _, _, _, _⟩ := x; exact Nat.le_of_ble_eq_true rfl) | (obtain ⟨_, _, _, _, _, _, _, _⟩ := x; exact Nat.le_of_ble_eq_true rfl)) ?_
  rintro ⟨k, i, b, s, l⟩ ok
  have pa := pvV_mk k i b s l
  rw [pa]
  have h1 := bytesV_len (.mk k i b s l) 4
  have h2 := sizeV_le (.mk k i b s l) 4
  have h3 : pw 4 = 8568300 := by decide
  generalize hR : checkV (.mk k i b s l) = R
  unfold checkV at hR
  generalize hA : V.mk k i b s l = a at *
  refine bw_run ?_
  conv => whnf
  repeat' first
    | (with_reducible first | refine bo_run ?_ | refine bw_run ?_ | refine bd_run ?_ | refine Br.tt ?_ | refine Br.ff ?_); conv => whnf
    | (with_reducible refine br_not ?_)
    | (with_reducible first | refine br_dec_tt (by assumption) ?_ | refine br_dec_ff (by assumption) ?_ | refine br_dec_tt (by decide) ?_ | refine br_dec_ff (by decide) ?_); conv => whnf
    | (with_reducible refine br_dec_intro (fun _ => ?_) (fun _ => ?_)) <;> conv => whnf
    | (with_reducible first | refine br_beq_tt (by assumption) ?_ | refine br_beq_ff (by assumption) ?_ | refine br_beq_tt (by decide) ?_ | refine br_beq_ff (by decide) ?_); conv => whnf
    | (with_reducible refine br_beq_intro (fun _ => ?_) (fun _ => ?_)) <;> conv => whnf
    | (with_reducible first | refine br_bne_tt (by assumption) ?_ | refine br_bne_ff (by assumption) ?_ | refine br_bne_tt (by decide) ?_ | refine br_bne_ff (by decide) ?_); conv => whnf
    | (with_reducible refine br_bne_intro (fun _ => ?_) (fun _ => ?_)) <;> conv => whnf
    | (with_reducible first | refine br_of_true (by assumption) ?_ | refine br_of_false (by assumption) ?_); conv => whnf
    | (with_reducible refine br_intro (fun _ => ?_) (fun _ => ?_)) <;> conv => whnf
    | (with_reducible refine and_rfl ?_); conv => whnf
    | (refine and_late (fun _ => ?_) (by first | omega | (show _ = _; rfl) | exact trivial | exact ⟨rfl, trivial⟩ | exact ⟨rfl, rfl, trivial⟩ | exact (fun h => by cases h) | exact (fun _ => ⟨rfl, rfl⟩) | exact Nat.le_of_ble_eq_true rfl | (simp only [List.length_map, List.length_append, pbytes, Nat.mul_one, List.length_cons, List.length_nil]; first | done | omega))); conv => whnf
    | (with_reducible refine and_late (fun _ => ?_) ?_); conv => whnf
    | (with_reducible refine vcall_id ?_)
      first
      | (refine vcall_inl rfl rfl rfl rfl (Nat.le_of_ble_eq_true rfl) ?_)
    | (with_reducible refine Both.mk ?_ ?_) <;> conv => whnf
    | (refine ⟨[], _, _, rfl, ?_⟩); conv => whnf
    | (refine ⟨_, rfl, ?_⟩); conv => whnf
    | (refine ⟨_, unbytes_pbytes _, ?_⟩); conv => whnf
    | exact ⟨_, _, rfl, rfl⟩
    | exact rensG_pu _ _ _ _
    | rfl
    | (rw [snap_own rfl (show (pbytes _).length = _ * 1 from by rw [pbytes_length, Nat.mul_one])]); conv => whnf
    | fail
  refine call_rel (x := (a, 4)) (p := bl (decide (0 ≤ sizeV a 4))) (by rw [pa]; rfl) ⟨ok, Nat.le_refl _⟩ rfl (.inl rfl) ?_
  conv => whnf
  repeat' first
    | (with_reducible first | refine bo_run ?_ | refine bw_run ?_ | refine bd_run ?_ | refine Br.tt ?_ | refine Br.ff ?_); conv => whnf
    | (with_reducible refine br_not ?_)
    | (with_reducible first | refine br_dec_tt (by assumption) ?_ | refine br_dec_ff (by assumption) ?_ | refine br_dec_tt (by decide) ?_ | refine br_dec_ff (by decide) ?_); conv => whnf
    | (with_reducible refine br_dec_intro (fun _ => ?_) (fun _ => ?_)) <;> conv => whnf
    | (with_reducible first | refine br_beq_tt (by assumption) ?_ | refine br_beq_ff (by assumption) ?_ | refine br_beq_tt (by decide) ?_ | refine br_beq_ff (by decide) ?_); conv => whnf
    | (with_reducible refine br_beq_intro (fun _ => ?_) (fun _ => ?_)) <;> conv => whnf
    | (with_reducible first | refine br_bne_tt (by assumption) ?_ | refine br_bne_ff (by assumption) ?_ | refine br_bne_tt (by decide) ?_ | refine br_bne_ff (by decide) ?_); conv => whnf
    | (with_reducible refine br_bne_intro (fun _ => ?_) (fun _ => ?_)) <;> conv => whnf
    | (with_reducible first | refine br_of_true (by assumption) ?_ | refine br_of_false (by assumption) ?_); conv => whnf
    | (with_reducible refine br_intro (fun _ => ?_) (fun _ => ?_)) <;> conv => whnf
    | (with_reducible refine and_rfl ?_); conv => whnf
    | (refine and_late (fun _ => ?_) (by first | omega | (show _ = _; rfl) | exact trivial | exact ⟨rfl, trivial⟩ | exact ⟨rfl, rfl, trivial⟩ | exact (fun h => by cases h) | exact (fun _ => ⟨rfl, rfl⟩) | exact Nat.le_of_ble_eq_true rfl | (simp only [List.length_map, List.length_append, pbytes, Nat.mul_one, List.length_cons, List.length_nil]; first | done | omega))); conv => whnf
    | (with_reducible refine and_late (fun _ => ?_) ?_); conv => whnf
    | (with_reducible refine vcall_id ?_)
      first
      | (refine vcall_inl rfl rfl rfl rfl (Nat.le_of_ble_eq_true rfl) ?_)
    | (with_reducible refine Both.mk ?_ ?_) <;> conv => whnf
    | (refine ⟨[], _, _, rfl, ?_⟩); conv => whnf
    | (refine ⟨_, rfl, ?_⟩); conv => whnf
    | (refine ⟨_, unbytes_pbytes _, ?_⟩); conv => whnf
    | exact ⟨_, _, rfl, rfl⟩
    | exact rensG_pu _ _ _ _
    | rfl
    | (rw [snap_own rfl (show (pbytes _).length = _ * 1 from by rw [pbytes_length, Nat.mul_one])]); conv => whnf
    | fail
  · have q : 0 ≤ sizeV a 4 := by assumption
    have h1 := h1 q
    refine call_rel (x := (nilS, a, [], 4)) (p := bsl (bytesV a)) (by show snaps _ _ = some [nilS, pvV a]; rw [pa]; rfl) (by exact ⟨ok, rfl, by show 0 + (bytesV a).length ≤ _; omega, q⟩) rfl (.inl rfl) ?_
    conv => whnf
    repeat' first
      | (with_reducible first | refine bo_run ?_ | refine bw_run ?_ | refine bd_run ?_ | refine Br.tt ?_ | refine Br.ff ?_); conv => whnf
      | (with_reducible refine br_not ?_)
      | (with_reducible first | refine br_dec_tt (by assumption) ?_ | refine br_dec_ff (by assumption) ?_ | refine br_dec_tt (by decide) ?_ | refine br_dec_ff (by decide) ?_); conv => whnf
      | (with_reducible refine br_dec_intro (fun _ => ?_) (fun _ => ?_)) <;> conv => whnf
      | (with_reducible first | refine br_beq_tt (by assumption) ?_ | refine br_beq_ff (by assumption) ?_ | refine br_beq_tt (by decide) ?_ | refine br_beq_ff (by decide) ?_); conv => whnf
      | (with_reducible refine br_beq_intro (fun _ => ?_) (fun _ => ?_)) <;> conv => whnf
      | (with_reducible first | refine br_bne_tt (by assumption) ?_ | refine br_bne_ff (by assumption) ?_ | refine br_bne_tt (by decide) ?_ | refine br_bne_ff (by decide) ?_); conv => whnf
      | (with_reducible refine br_bne_intro (fun _ => ?_) (fun _ => ?_)) <;> conv => whnf
      | (with_reducible first | refine br_of_true (by assumption) ?_ | refine br_of_false (by assumption) ?_); conv => whnf
      | (with_reducible refine br_intro (fun _ => ?_) (fun _ => ?_)) <;> conv => whnf
      | (with_reducible refine and_rfl ?_); conv => whnf
      | (refine and_late (fun _ => ?_) (by first | omega | (show _ = _; rfl) | exact trivial | exact ⟨rfl, trivial⟩ | exact ⟨rfl, rfl, trivial⟩ | exact (fun h => by cases h) | exact (fun _ => ⟨rfl, rfl⟩) | exact Nat.le_of_ble_eq_true rfl | (simp only [List.length_map, List.length_append, pbytes, Nat.mul_one, List.length_cons, List.length_nil]; first | done | omega))); conv => whnf
      | (with_reducible refine and_late (fun _ => ?_) ?_); conv => whnf
      | (with_reducible refine vcall_id ?_)
        first
        | (refine vcall_inl rfl rfl rfl rfl (Nat.le_of_ble_eq_true rfl) ?_)
      | (with_reducible refine Both.mk ?_ ?_) <;> conv => whnf
      | (refine ⟨[], _, _, rfl, ?_⟩); conv => whnf
      | (refine ⟨_, rfl, ?_⟩); conv => whnf
      | (refine ⟨_, unbytes_pbytes _, ?_⟩); conv => whnf
      | exact ⟨_, _, rfl, rfl⟩
      | exact rensG_pu _ _ _ _
      | rfl
      | (rw [snap_own rfl (show (pbytes _).length = _ * 1 from by rw [pbytes_length, Nat.mul_one])]); conv => whnf
      | fail
    all_goals first
      | (rw [if_pos (by omega)] at hR; subst hR; rfl)
      | (rw [if_neg (by omega)] at hR; subst hR; rfl)
  · have q : ¬ 0 ≤ sizeV a 4 := by assumption
    rw [if_pos (by omega)] at hR
    subst hR; rfl
end Go.Proofs.Ytlodbaikbgbhjaa
