/- Which values are the same: value.Same. -/
import Derived.Test.YtlodbaikbgbhjaaValueV
import Derived.Test.YtlodbaikbgbhjaaCValue
import Derived.IntWalk
set_option linter.unusedVariables false
set_option linter.unusedSimpArgs false
set_option maxRecDepth 20000
namespace Go.Proofs.Ytlodbaikbgbhjaa
open Go Go.Vm Go.IntWalk

theorem con_value_Same' : ∀ n, Contract Try.prog id_value_Same (RelP (fun (x : V × V) => rkV x.1 < n ∧ okV x.1) (fun x => [pvV x.1, pvV x.2]) (fun x => bl (sameV x.1 x.2)))
  | 0 => by
    refine (code_value_Same).pure Known.nil (by rintro x -; first | exact Nat.le_of_ble_eq_true rfl | (obtain ⟨_, _⟩ := x; exact Nat.le_of_ble_eq_true rfl) | (obtain ⟨_, _, _⟩ := x; exact Nat.le_of_ble_eq_true rfl) | (obtain ⟨_, _, _, _⟩ := x; exact Nat.le_of_ble_eq_true rfl) | (obtain ⟨_, _, _, _, _⟩ := x; exact Nat.le_of_ble_eq_true rfl) | (obtain ⟨_, _, _, _, _, _⟩ := x; exact Nat.le_of_ble_eq_true rfl) | (obtain ⟨_, _, _, _, _, _, _⟩ := x; exact Nat.le_of_ble_eq_true rfl) | (obtain ⟨_, _, _, _, _, _, _, _⟩ := x; exact Nat.le_of_ble_eq_true rfl)) ?_
    rintro x h
    exact absurd h.1 (Nat.not_lt_zero _)
  | n + 1 => by
    have ih := con_value_Same' n
    refine (code_value_Same).pure (Known.cons ih Known.nil) (by rintro x -; first | exact Nat.le_of_ble_eq_true rfl | (obtain ⟨_, _⟩ := x; exact Nat.le_of_ble_eq_true rfl) | (obtain ⟨_, _, _⟩ := x; exact Nat.le_of_ble_eq_true rfl) | (obtain ⟨_, _, _, _⟩ := x; exact Nat.le_of_ble_eq_true rfl) | (obtain ⟨_, _, _, _, _⟩ := x; exact Nat.le_of_ble_eq_true rfl) | (obtain ⟨_, _, _, _, _, _⟩ := x; exact Nat.le_of_ble_eq_true rfl) | (obtain ⟨_, _, _, _, _, _, _⟩ := x; exact Nat.le_of_ble_eq_true rfl) | (obtain ⟨_, _, _, _, _, _, _, _⟩ := x; exact Nat.le_of_ble_eq_true rfl)) ?_
    rintro ⟨⟨k, i, b, s, l⟩, ⟨k', i', b', s', l'⟩⟩ h
    obtain ⟨h, ok⟩ := h
    simp only [rkV_mk] at h
    have ok2 := (okV_mk.1 ok).2.2.2.2
    have hr := sameV_mk (k := k) (i := i) (b := b) (k' := k') (i' := i') (b' := b') (s := s) (s' := s') (l := l) (l' := l')
    generalize hR : sameV (.mk k i b s l) (.mk k' i' b' s' l') = R at hr
    simp only [pvV_mk, hR]
    have hc := cellsL_length l
    have hc' := cellsL_length l'
    repeat' first
      | (with_reducible first | refine bo_run ?_ | refine bw_run ?_ | refine bd_run ?_ | refine Br.tt ?_ | refine Br.ff ?_); conv => whnf
      | (with_reducible refine br_not ?_)
      | (with_reducible first | refine br_dec_tt (by assumption) ?_ | refine br_dec_ff (by assumption) ?_ | refine br_dec_tt (by decide) ?_ | refine br_dec_ff (by decide) ?_); conv => whnf
      | (with_reducible refine br_dec_intro (fun _ => ?_) (fun _ => ?_)) <;> conv => whnf
      | (with_reducible first | refine br_beq_tt (by assumption) ?_ | refine br_beq_ff (by assumption) ?_ | refine br_beq_tt (by decide) ?_ | refine br_beq_ff (by decide) ?_); conv => whnf
      | (with_reducible refine br_beq_intro (fun _ => ?_) (fun _ => ?_)) <;> conv => whnf
      | (with_reducible first | refine br_bne_tt (by assumption) ?_ | refine br_bne_ff (by assumption) ?_ | refine br_bne_tt (by decide) ?_ | refine br_bne_ff (by decide) ?_); conv => whnf
      | (with_reducible refine br_bne_intro (fun _ => ?_) (fun _ => ?_)) <;> conv => whnf
      | (with_reducible first | refine br_of_true (by assumption) ?_ | refine br_of_false (by assumption) ?_); conv => whnf
      | (with_reducible refine br_intro (fun _ => ?_) (fun _ => ?_)) <;> conv => whnf
      | (with_reducible refine and_rfl ?_); conv => whnf
      | (refine and_late (fun _ => ?_) (by first | omega | (show _ = _; rfl) | exact trivial | exact ⟨rfl, trivial⟩ | exact ⟨rfl, rfl, trivial⟩ | exact (fun h => by cases h) | exact (fun _ => ⟨rfl, rfl⟩) | exact Nat.le_of_ble_eq_true rfl | (simp only [List.length_map, List.length_append, pbytes, Nat.mul_one, List.length_cons, List.length_nil]; first | done | omega))); conv => whnf
      | (with_reducible refine and_late (fun _ => ?_) ?_); conv => whnf
      | (with_reducible refine vcall_id ?_)
        first
        | (refine vcall_inl rfl rfl rfl rfl (Nat.le_of_ble_eq_true rfl) ?_)
      | (with_reducible refine Both.mk ?_ ?_) <;> conv => whnf
      | (refine ⟨[], _, _, rfl, ?_⟩); conv => whnf
      | (refine ⟨_, rfl, ?_⟩); conv => whnf
      | (refine ⟨_, unbytes_pbytes _, ?_⟩); conv => whnf
      | exact ⟨_, _, rfl, rfl⟩
      | exact rensG_pu _ _ _ _
      | rfl
      | (rw [snap_own rfl (show (pbytes _).length = _ * 1 from by rw [pbytes_length, Nat.mul_one])]); conv => whnf
      | fail
    · rename_i q; subst hr; simp [renG, packRes, q]
    · rename_i q; subst hr; simp [renG, packRes, q]
    · rename_i q; subst hr; simp [renG, packRes, q]
    · rename_i q
      have q' : (l.length == l'.length) = false := by rw [beq_eq_false_iff_ne]; omega
      subst hr; rw [q']; simp [renG, packRes]
    · have q1 : k = k' := by assumption
      have q2 : i = i' := by assumption
      have q3 : b = b' := by assumption
      have q4 : strEq s s' = true := by assumption
      have q5 : (l.length : Int) = l'.length := by assumption
      subst q1 q2 q3
      have q5' : l.length = l'.length := by omega
      have hR2 : R = sameL l l' := by rw [hr]; simp [q4, q5']
      refine bw_loop (α := Nat) (fun j => [(2, .ptr 0 0 0), (3, .ptr 1 0 0), (43, .pu (.val (.int .i64 l.length))), (44, .pu (.val (.int .i64 (j : Int))))])
        (fun _ => [some ⟨ty_Value, 0, [i64 k, i64 i, u64 b, str s, PV.sl l.length (cellsL l)].map .pu⟩, some ⟨ty_Value, 0, [i64 k, i64 i, u64 b, str s', PV.sl l'.length (cellsL l')].map .pu⟩])
        (fun j => j ≤ l.length ∧ sameL (l.drop j) (l'.drop j) = R) (fun j => l.length - j) 0 rfl rfl ⟨Nat.zero_le _, hR2.symm⟩ ?_
      rintro j ⟨h1, h2⟩
      by_cases hj : j < l.length
      · obtain ⟨v, hv⟩ := drop_ex hj
        obtain ⟨w, hw⟩ := drop_ex (l := l') (i := j) (by omega)
        have hd : 5 ≤ ((cellsL l).drop ((j : Int).toNat * 5)).length := by rw [List.length_drop, Int.toNat_natCast]; omega
        have hd' : 5 ≤ ((cellsL l').drop ((j : Int).toNat * 5)).length := by rw [List.length_drop, Int.toNat_natCast]; omega
        have g : (j : Int) < (l.length : Int) := by omega
        rw [hv, hw, sameL] at h2
        repeat' first
          | (with_reducible first | refine bo_run ?_ | refine bw_run ?_ | refine bd_run ?_ | refine Br.tt ?_ | refine Br.ff ?_); conv => whnf
          | (with_reducible refine br_not ?_)
          | (with_reducible first | refine br_dec_tt (by assumption) ?_ | refine br_dec_ff (by assumption) ?_ | refine br_dec_tt (by decide) ?_ | refine br_dec_ff (by decide) ?_); conv => whnf
          | (with_reducible refine br_dec_intro (fun _ => ?_) (fun _ => ?_)) <;> conv => whnf
          | (with_reducible first | refine br_beq_tt (by assumption) ?_ | refine br_beq_ff (by assumption) ?_ | refine br_beq_tt (by decide) ?_ | refine br_beq_ff (by decide) ?_); conv => whnf
          | (with_reducible refine br_beq_intro (fun _ => ?_) (fun _ => ?_)) <;> conv => whnf
          | (with_reducible first | refine br_bne_tt (by assumption) ?_ | refine br_bne_ff (by assumption) ?_ | refine br_bne_tt (by decide) ?_ | refine br_bne_ff (by decide) ?_); conv => whnf
          | (with_reducible refine br_bne_intro (fun _ => ?_) (fun _ => ?_)) <;> conv => whnf
          | (with_reducible first | refine br_of_true (by assumption) ?_ | refine br_of_false (by assumption) ?_); conv => whnf
          | (with_reducible refine br_intro (fun _ => ?_) (fun _ => ?_)) <;> conv => whnf
          | (with_reducible refine and_rfl ?_); conv => whnf
          | (refine and_late (fun _ => ?_) (by first | omega | (show _ = _; rfl) | exact trivial | exact ⟨rfl, trivial⟩ | exact ⟨rfl, rfl, trivial⟩ | exact (fun h => by cases h) | exact (fun _ => ⟨rfl, rfl⟩) | exact Nat.le_of_ble_eq_true rfl | (simp only [List.length_map, List.length_append, pbytes, Nat.mul_one, List.length_cons, List.length_nil]; first | done | omega))); conv => whnf
          | (with_reducible refine and_late (fun _ => ?_) ?_); conv => whnf
          | (with_reducible refine vcall_id ?_)
            first
            | (refine vcall_inl rfl rfl rfl rfl (Nat.le_of_ble_eq_true rfl) ?_)
          | (with_reducible refine Both.mk ?_ ?_) <;> conv => whnf
          | (refine ⟨[], _, _, rfl, ?_⟩); conv => whnf
          | (refine ⟨_, rfl, ?_⟩); conv => whnf
          | (refine ⟨_, unbytes_pbytes _, ?_⟩); conv => whnf
          | exact ⟨_, _, rfl, rfl⟩
          | exact rensG_pu _ _ _ _
          | rfl
          | (rw [snap_own rfl (show (pbytes _).length = _ * 1 from by rw [pbytes_length, Nat.mul_one])]); conv => whnf
          | fail
        · refine call_rel (x := (v, w)) (p := bl (sameV v w)) (by show some [PV.agg _, PV.agg _] = some [pvV v, pvV w]; rw [pvV, pvV, ← cells_at hv, ← cells_at hw]; rfl) (by have := rk_drop hv; exact ⟨by show rkV v < n; omega, okL_drop ok2.2 hv⟩) rfl (.inl rfl) ?_
          conv => whnf
          repeat' first
            | (with_reducible first | refine bo_run ?_ | refine bw_run ?_ | refine bd_run ?_ | refine Br.tt ?_ | refine Br.ff ?_); conv => whnf
            | (with_reducible refine br_not ?_)
            | (with_reducible first | refine br_dec_tt (by assumption) ?_ | refine br_dec_ff (by assumption) ?_ | refine br_dec_tt (by decide) ?_ | refine br_dec_ff (by decide) ?_); conv => whnf
            | (with_reducible refine br_dec_intro (fun _ => ?_) (fun _ => ?_)) <;> conv => whnf
            | (with_reducible first | refine br_beq_tt (by assumption) ?_ | refine br_beq_ff (by assumption) ?_ | refine br_beq_tt (by decide) ?_ | refine br_beq_ff (by decide) ?_); conv => whnf
            | (with_reducible refine br_beq_intro (fun _ => ?_) (fun _ => ?_)) <;> conv => whnf
            | (with_reducible first | refine br_bne_tt (by assumption) ?_ | refine br_bne_ff (by assumption) ?_ | refine br_bne_tt (by decide) ?_ | refine br_bne_ff (by decide) ?_); conv => whnf
            | (with_reducible refine br_bne_intro (fun _ => ?_) (fun _ => ?_)) <;> conv => whnf
            | (with_reducible first | refine br_of_true (by assumption) ?_ | refine br_of_false (by assumption) ?_); conv => whnf
            | (with_reducible refine br_intro (fun _ => ?_) (fun _ => ?_)) <;> conv => whnf
            | (with_reducible refine and_rfl ?_); conv => whnf
            | (refine and_late (fun _ => ?_) (by first | omega | (show _ = _; rfl) | exact trivial | exact ⟨rfl, trivial⟩ | exact ⟨rfl, rfl, trivial⟩ | exact (fun h => by cases h) | exact (fun _ => ⟨rfl, rfl⟩) | exact Nat.le_of_ble_eq_true rfl | (simp only [List.length_map, List.length_append, pbytes, Nat.mul_one, List.length_cons, List.length_nil]; first | done | omega))); conv => whnf
            | (with_reducible refine and_late (fun _ => ?_) ?_); conv => whnf
            | (with_reducible refine vcall_id ?_)
              first
              | (refine vcall_inl rfl rfl rfl rfl (Nat.le_of_ble_eq_true rfl) ?_)
            | (with_reducible refine Both.mk ?_ ?_) <;> conv => whnf
            | (refine ⟨[], _, _, rfl, ?_⟩); conv => whnf
            | (refine ⟨_, rfl, ?_⟩); conv => whnf
            | (refine ⟨_, unbytes_pbytes _, ?_⟩); conv => whnf
            | exact ⟨_, _, rfl, rfl⟩
            | exact rensG_pu _ _ _ _
            | rfl
            | (rw [snap_own rfl (show (pbytes _).length = _ * 1 from by rw [pbytes_length, Nat.mul_one])]); conv => whnf
            | fail
          · have q : sameV v w = true := by assumption
            rw [q, Bool.true_and] at h2
            refine ⟨_, ?_, j + 1, ⟨by omega, h2⟩, rfl, by rw [i64_in _ (by omega)]; rfl, rfl⟩
            omega
          · have q : sameV v w = false := by assumption
            rw [q, Bool.false_and] at h2
            rw [← h2]; rfl
      · have g : ¬ (j : Int) < (l.length : Int) := by omega
        repeat' first
          | (with_reducible first | refine bo_run ?_ | refine bw_run ?_ | refine bd_run ?_ | refine Br.tt ?_ | refine Br.ff ?_); conv => whnf
          | (with_reducible refine br_not ?_)
          | (with_reducible first | refine br_dec_tt (by assumption) ?_ | refine br_dec_ff (by assumption) ?_ | refine br_dec_tt (by decide) ?_ | refine br_dec_ff (by decide) ?_); conv => whnf
          | (with_reducible refine br_dec_intro (fun _ => ?_) (fun _ => ?_)) <;> conv => whnf
          | (with_reducible first | refine br_beq_tt (by assumption) ?_ | refine br_beq_ff (by assumption) ?_ | refine br_beq_tt (by decide) ?_ | refine br_beq_ff (by decide) ?_); conv => whnf
          | (with_reducible refine br_beq_intro (fun _ => ?_) (fun _ => ?_)) <;> conv => whnf
          | (with_reducible first | refine br_bne_tt (by assumption) ?_ | refine br_bne_ff (by assumption) ?_ | refine br_bne_tt (by decide) ?_ | refine br_bne_ff (by decide) ?_); conv => whnf
          | (with_reducible refine br_bne_intro (fun _ => ?_) (fun _ => ?_)) <;> conv => whnf
          | (with_reducible first | refine br_of_true (by assumption) ?_ | refine br_of_false (by assumption) ?_); conv => whnf
          | (with_reducible refine br_intro (fun _ => ?_) (fun _ => ?_)) <;> conv => whnf
          | (with_reducible refine and_rfl ?_); conv => whnf
          | (refine and_late (fun _ => ?_) (by first | omega | (show _ = _; rfl) | exact trivial | exact ⟨rfl, trivial⟩ | exact ⟨rfl, rfl, trivial⟩ | exact (fun h => by cases h) | exact (fun _ => ⟨rfl, rfl⟩) | exact Nat.le_of_ble_eq_true rfl | (simp only [List.length_map, List.length_append, pbytes, Nat.mul_one, List.length_cons, List.length_nil]; first | done | omega))); conv => whnf
          | (with_reducible refine and_late (fun _ => ?_) ?_); conv => whnf
          | (with_reducible refine vcall_id ?_)
            first
            | (refine vcall_inl rfl rfl rfl rfl (Nat.le_of_ble_eq_true rfl) ?_)
          | (with_reducible refine Both.mk ?_ ?_) <;> conv => whnf
          | (refine ⟨[], _, _, rfl, ?_⟩); conv => whnf
          | (refine ⟨_, rfl, ?_⟩); conv => whnf
          | (refine ⟨_, unbytes_pbytes _, ?_⟩); conv => whnf
          | exact ⟨_, _, rfl, rfl⟩
          | exact rensG_pu _ _ _ _
          | rfl
          | (rw [snap_own rfl (show (pbytes _).length = _ * 1 from by rw [pbytes_length, Nat.mul_one])]); conv => whnf
          | fail
        · have hl : l.drop j = [] := List.drop_of_length_le (by omega)
          rw [hl, sameL] at h2
          rw [← h2]; rfl
    · have q : strEq s s' = false := by assumption
      subst hr; rw [q]; simp [renG, packRes]
theorem con_value_Same : Contract Try.prog id_value_Same (Loose (RelP (fun (x : V × V) => okV x.1) (fun x => [pvV x.1, pvV x.2]) (fun x => bl (sameV x.1 x.2)))) :=
  ((Contract.all (con_value_Same') 0).pre fun x h => ⟨rkV x.1 + 1, Nat.lt_succ_self _, h⟩).sub
end Go.Proofs.Ytlodbaikbgbhjaa
