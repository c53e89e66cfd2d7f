/- value.Order: what it computes. -/
import Derived.Test.YtlodbaikbgbhjaaValueS
import Derived.Test.YtlodbaikbgbhjaaValueF
set_option linter.unusedVariables false
set_option linter.unusedSimpArgs false
set_option maxRecDepth 20000
namespace Go.Proofs.Ytlodbaikbgbhjaa
open Go Go.Vm Go.IntWalk

mutual
def ordV : V → V → Int
  | .mk k i b s l, .mk k' i' b' s' l' => orI [cmpI k k', cmpI i i', cmpI (keyI b) (keyI b'), cmpS s s', ordL l l']
def ordL : List V → List V → Int
  | [], [] => 0
  | [], _ :: _ => -1
  | _ :: _, [] => 1
  | v :: l, w :: m => if ordV v w = 0 then ordL l m else ordV v w
end
theorem ordV_mk {k i b k' i' b' : Int} {s s' : ByteArray} {l l' : List V} : ordV (.mk k i b s l) (.mk k' i' b' s' l') = orI [cmpI k k', cmpI i i', cmpI (keyI b) (keyI b'), cmpS s s', ordL l l'] := by rw [ordV]
theorem ordL_short : ∀ (l m : List V), l.length = 0 ∨ m.length = 0 → ordL l m = cmpI l.length m.length
  | [], [], _ => by rw [ordL]; rfl
  | [], _ :: _, _ => by rw [ordL]; unfold cmpI; rw [if_pos (by simp only [List.length_nil, List.length_cons]; omega)]
  | _ :: _, [], _ => by rw [ordL]; unfold cmpI; rw [if_neg (by simp only [List.length_nil, List.length_cons]; omega), if_pos (by simp only [List.length_nil, List.length_cons]; omega)]
  | _ :: _, _ :: _, h => by simp at h
theorem cmpI_sub {a b c : Int} : cmpI (a - c) (b - c) = cmpI a b := by
  unfold cmpI
  have h1 : a - c < b - c ↔ a < b := by omega
  have h2 : a - c > b - c ↔ a > b := by omega
  simp only [h1, h2]
abbrev POrd (n : Nat) : V × V → Prop := fun x => rkV x.1 < n ∧ okV x.1 ∧ okV x.2
abbrev POrdL (n : Nat) : List V × List V → Prop := fun x => rkL x.1 < n ∧ (x.1.length ≤ 1048576 ∧ okL x.1) ∧ (x.2.length ≤ 1048576 ∧ okL x.2)
theorem lists_of {n : Nat} (h : Contract Try.prog id_value_Order (RelP (POrd n) (fun x => [pvV x.1, pvV x.2]) (fun x => i64 (ordV x.1 x.2)))) :
    Contract Try.prog id_value_lists (RelP (POrdL n) (fun x => [slV x.1, slV x.2]) (fun x => i64 (ordL x.1 x.2))) := by
  refine (code_value_lists).pure (Known.cons h (Known.cons con_cmp_Compare_int Known.nil)) (by rintro x -; first | exact Nat.le_of_ble_eq_true rfl | (obtain ⟨_, _⟩ := x; exact Nat.le_of_ble_eq_true rfl) | (obtain ⟨_, _, _⟩ := x; exact Nat.le_of_ble_eq_true rfl) | (obtain ⟨_, _, _, _⟩ := x; exact Nat.le_of_ble_eq_true rfl) | (obtain ⟨_, _, _, _, _⟩ := x; exact Nat.le_of_ble_eq_true rfl) | (obtain ⟨_, _, _, _, _, _⟩ := x; exact Nat.le_of_ble_eq_true rfl) | (obtain ⟨_, _, _, _, _, _, _⟩ := x; exact Nat.le_of_ble_eq_true rfl) | (obtain ⟨_, _, _, _, _, _, _, _⟩ := x; exact Nat.le_of_ble_eq_true rfl)) ?_
  rintro ⟨l, m⟩ ⟨hrk, ⟨ha, hb⟩, ha', hb'⟩
  simp only at hrk ha hb ha' hb'
  simp only [slV]
  generalize hR : ordL l m = R
  have hc := cellsL_length l
  have hc' := cellsL_length m
  repeat' first
    | (with_reducible first | refine bo_run ?_ | refine bw_run ?_ | refine bd_run ?_ | refine Br.tt ?_ | refine Br.ff ?_); conv => whnf
    | (with_reducible refine br_not ?_)
    | (with_reducible first | refine br_dec_tt (by assumption) ?_ | refine br_dec_ff (by assumption) ?_ | refine br_dec_tt (by decide) ?_ | refine br_dec_ff (by decide) ?_); conv => whnf
    | (with_reducible refine br_dec_intro (fun _ => ?_) (fun _ => ?_)) <;> conv => whnf
    | (with_reducible first | refine br_beq_tt (by assumption) ?_ | refine br_beq_ff (by assumption) ?_ | refine br_beq_tt (by decide) ?_ | refine br_beq_ff (by decide) ?_); conv => whnf
    | (with_reducible refine br_beq_intro (fun _ => ?_) (fun _ => ?_)) <;> conv => whnf
    | (with_reducible first | refine br_bne_tt (by assumption) ?_ | refine br_bne_ff (by assumption) ?_ | refine br_bne_tt (by decide) ?_ | refine br_bne_ff (by decide) ?_); conv => whnf
    | (with_reducible refine br_bne_intro (fun _ => ?_) (fun _ => ?_)) <;> conv => whnf
    | (with_reducible first | refine br_of_true (by assumption) ?_ | refine br_of_false (by assumption) ?_); conv => whnf
    | (with_reducible refine br_intro (fun _ => ?_) (fun _ => ?_)) <;> conv => whnf
    | (with_reducible refine and_rfl ?_); conv => whnf
    | (refine and_late (fun _ => ?_) (by first | omega | (show _ = _; rfl) | exact trivial | exact ⟨rfl, trivial⟩ | exact ⟨rfl, rfl, trivial⟩ | exact (fun h => by cases h) | exact (fun _ => ⟨rfl, rfl⟩) | exact Nat.le_of_ble_eq_true rfl | (simp only [List.length_map, List.length_append, pbytes, Nat.mul_one, List.length_cons, List.length_nil]; first | done | omega))); conv => whnf
    | (with_reducible refine and_late (fun _ => ?_) ?_); conv => whnf
    | (with_reducible refine vcall_id ?_)
      first
      | (refine vcall_inl rfl rfl rfl rfl (Nat.le_of_ble_eq_true rfl) ?_)
    | (with_reducible refine Both.mk ?_ ?_) <;> conv => whnf
    | (refine ⟨[], _, _, rfl, ?_⟩); conv => whnf
    | (refine ⟨_, rfl, ?_⟩); conv => whnf
    | (refine ⟨_, unbytes_pbytes _, ?_⟩); conv => whnf
    | exact ⟨_, _, rfl, rfl⟩
    | exact rensG_pu _ _ _ _
    | rfl
    | (rw [snap_own rfl (show (pbytes _).length = _ * 1 from by rw [pbytes_length, Nat.mul_one])]); conv => whnf
    | fail
  generalize hM : (if (m.length : Int) < l.length then (m.length : Int) else l.length) = M
  have hM' : M = (min l.length m.length : Nat) := by rw [← hM]; split <;> omega
  refine bw_loop (α := Nat) (fun j => [(0, AV.pu (PV.sl l.length (cellsL l))), (1, AV.pu (PV.sl m.length (cellsL m))), (11, .pu (i64 M)), (12, .pu (i64 (j : Int)))]) (fun _ => []) (fun j => j ≤ min l.length m.length ∧ ordL (l.drop j) (m.drop j) = R) (fun j => l.length - j) 0 rfl rfl ⟨Nat.zero_le _, hR⟩ ?_
  rintro j ⟨h1, h2⟩
  by_cases hj : j < min l.length m.length
  · obtain ⟨v, hv⟩ := drop_ex (l := l) (i := j) (by omega)
    obtain ⟨w, hw⟩ := drop_ex (l := m) (i := j) (by omega)
    have hd : 5 ≤ ((cellsL l).drop ((j : Int).toNat * 5)).length := by rw [List.length_drop, Int.toNat_natCast]; omega
    have hd' : 5 ≤ ((cellsL m).drop ((j : Int).toNat * 5)).length := by rw [List.length_drop, Int.toNat_natCast]; omega
    have g : (j : Int) < M := by omega
    rw [hv, hw, ordL] at h2
    repeat' first
      | (with_reducible first | refine bo_run ?_ | refine bw_run ?_ | refine bd_run ?_ | refine Br.tt ?_ | refine Br.ff ?_); conv => whnf
      | (with_reducible refine br_not ?_)
      | (with_reducible first | refine br_dec_tt (by assumption) ?_ | refine br_dec_ff (by assumption) ?_ | refine br_dec_tt (by decide) ?_ | refine br_dec_ff (by decide) ?_); conv => whnf
      | (with_reducible refine br_dec_intro (fun _ => ?_) (fun _ => ?_)) <;> conv => whnf
      | (with_reducible first | refine br_beq_tt (by assumption) ?_ | refine br_beq_ff (by assumption) ?_ | refine br_beq_tt (by decide) ?_ | refine br_beq_ff (by decide) ?_); conv => whnf
      | (with_reducible refine br_beq_intro (fun _ => ?_) (fun _ => ?_)) <;> conv => whnf
      | (with_reducible first | refine br_bne_tt (by assumption) ?_ | refine br_bne_ff (by assumption) ?_ | refine br_bne_tt (by decide) ?_ | refine br_bne_ff (by decide) ?_); conv => whnf
      | (with_reducible refine br_bne_intro (fun _ => ?_) (fun _ => ?_)) <;> conv => whnf
      | (with_reducible first | refine br_of_true (by assumption) ?_ | refine br_of_false (by assumption) ?_); conv => whnf
      | (with_reducible refine br_intro (fun _ => ?_) (fun _ => ?_)) <;> conv => whnf
      | (with_reducible refine and_rfl ?_); conv => whnf
      | (refine and_late (fun _ => ?_) (by first | omega | (show _ = _; rfl) | exact trivial | exact ⟨rfl, trivial⟩ | exact ⟨rfl, rfl, trivial⟩ | exact (fun h => by cases h) | exact (fun _ => ⟨rfl, rfl⟩) | exact Nat.le_of_ble_eq_true rfl | (simp only [List.length_map, List.length_append, pbytes, Nat.mul_one, List.length_cons, List.length_nil]; first | done | omega))); conv => whnf
      | (with_reducible refine and_late (fun _ => ?_) ?_); conv => whnf
      | (with_reducible refine vcall_id ?_)
        first
        | (refine vcall_inl rfl rfl rfl rfl (Nat.le_of_ble_eq_true rfl) ?_)
      | (with_reducible refine Both.mk ?_ ?_) <;> conv => whnf
      | (refine ⟨[], _, _, rfl, ?_⟩); conv => whnf
      | (refine ⟨_, rfl, ?_⟩); conv => whnf
      | (refine ⟨_, unbytes_pbytes _, ?_⟩); conv => whnf
      | exact ⟨_, _, rfl, rfl⟩
      | exact rensG_pu _ _ _ _
      | rfl
      | (rw [snap_own rfl (show (pbytes _).length = _ * 1 from by rw [pbytes_length, Nat.mul_one])]); conv => whnf
      | fail
    refine call_rel (x := (v, w)) (p := i64 (ordV v w)) (by show some [PV.agg _, PV.agg _] = some [pvV v, pvV w]; rw [pvV, pvV, ← cells_at hv, ← cells_at hw]; rfl) (by have := rk_drop hv; exact ⟨by show rkV v < n; omega, okL_drop hb hv, okL_drop hb' hw⟩) rfl (.inl rfl) ?_
    conv => whnf
    repeat' first
      | (with_reducible first | refine bo_run ?_ | refine bw_run ?_ | refine bd_run ?_ | refine Br.tt ?_ | refine Br.ff ?_); conv => whnf
      | (with_reducible refine br_not ?_)
      | (with_reducible first | refine br_dec_tt (by assumption) ?_ | refine br_dec_ff (by assumption) ?_ | refine br_dec_tt (by decide) ?_ | refine br_dec_ff (by decide) ?_); conv => whnf
      | (with_reducible refine br_dec_intro (fun _ => ?_) (fun _ => ?_)) <;> conv => whnf
      | (with_reducible first | refine br_beq_tt (by assumption) ?_ | refine br_beq_ff (by assumption) ?_ | refine br_beq_tt (by decide) ?_ | refine br_beq_ff (by decide) ?_); conv => whnf
      | (with_reducible refine br_beq_intro (fun _ => ?_) (fun _ => ?_)) <;> conv => whnf
      | (with_reducible first | refine br_bne_tt (by assumption) ?_ | refine br_bne_ff (by assumption) ?_ | refine br_bne_tt (by decide) ?_ | refine br_bne_ff (by decide) ?_); conv => whnf
      | (with_reducible refine br_bne_intro (fun _ => ?_) (fun _ => ?_)) <;> conv => whnf
      | (with_reducible first | refine br_of_true (by assumption) ?_ | refine br_of_false (by assumption) ?_); conv => whnf
      | (with_reducible refine br_intro (fun _ => ?_) (fun _ => ?_)) <;> conv => whnf
      | (with_reducible refine and_rfl ?_); conv => whnf
      | (refine and_late (fun _ => ?_) (by first | omega | (show _ = _; rfl) | exact trivial | exact ⟨rfl, trivial⟩ | exact ⟨rfl, rfl, trivial⟩ | exact (fun h => by cases h) | exact (fun _ => ⟨rfl, rfl⟩) | exact Nat.le_of_ble_eq_true rfl | (simp only [List.length_map, List.length_append, pbytes, Nat.mul_one, List.length_cons, List.length_nil]; first | done | omega))); conv => whnf
      | (with_reducible refine and_late (fun _ => ?_) ?_); conv => whnf
      | (with_reducible refine vcall_id ?_)
        first
        | (refine vcall_inl rfl rfl rfl rfl (Nat.le_of_ble_eq_true rfl) ?_)
      | (with_reducible refine Both.mk ?_ ?_) <;> conv => whnf
      | (refine ⟨[], _, _, rfl, ?_⟩); conv => whnf
      | (refine ⟨_, rfl, ?_⟩); conv => whnf
      | (refine ⟨_, unbytes_pbytes _, ?_⟩); conv => whnf
      | exact ⟨_, _, rfl, rfl⟩
      | exact rensG_pu _ _ _ _
      | rfl
      | (rw [snap_own rfl (show (pbytes _).length = _ * 1 from by rw [pbytes_length, Nat.mul_one])]); conv => whnf
      | fail
    · rename_i q
      rw [if_neg q] at h2
      subst h2
      rfl
    · rename_i q
      rw [if_pos q] at h2
      refine ⟨_, ?_, j + 1, ⟨by omega, h2⟩, rfl, by rw [i64_in _ (by omega)]; rfl, rfl⟩
      omega
  · have g : ¬ (j : Int) < M := by omega
    repeat' first
      | (with_reducible first | refine bo_run ?_ | refine bw_run ?_ | refine bd_run ?_ | refine Br.tt ?_ | refine Br.ff ?_); conv => whnf
      | (with_reducible refine br_not ?_)
      | (with_reducible first | refine br_dec_tt (by assumption) ?_ | refine br_dec_ff (by assumption) ?_ | refine br_dec_tt (by decide) ?_ | refine br_dec_ff (by decide) ?_); conv => whnf
      | (with_reducible refine br_dec_intro (fun _ => ?_) (fun _ => ?_)) <;> conv => whnf
      | (with_reducible first | refine br_beq_tt (by assumption) ?_ | refine br_beq_ff (by assumption) ?_ | refine br_beq_tt (by decide) ?_ | refine br_beq_ff (by decide) ?_); conv => whnf
      | (with_reducible refine br_beq_intro (fun _ => ?_) (fun _ => ?_)) <;> conv => whnf
      | (with_reducible first | refine br_bne_tt (by assumption) ?_ | refine br_bne_ff (by assumption) ?_ | refine br_bne_tt (by decide) ?_ | refine br_bne_ff (by decide) ?_); conv => whnf
      | (with_reducible refine br_bne_intro (fun _ => ?_) (fun _ => ?_)) <;> conv => whnf
      | (with_reducible first | refine br_of_true (by assumption) ?_ | refine br_of_false (by assumption) ?_); conv => whnf
      | (with_reducible refine br_intro (fun _ => ?_) (fun _ => ?_)) <;> conv => whnf
      | (with_reducible refine and_rfl ?_); conv => whnf
      | (refine and_late (fun _ => ?_) (by first | omega | (show _ = _; rfl) | exact trivial | exact ⟨rfl, trivial⟩ | exact ⟨rfl, rfl, trivial⟩ | exact (fun h => by cases h) | exact (fun _ => ⟨rfl, rfl⟩) | exact Nat.le_of_ble_eq_true rfl | (simp only [List.length_map, List.length_append, pbytes, Nat.mul_one, List.length_cons, List.length_nil]; first | done | omega))); conv => whnf
      | (with_reducible refine and_late (fun _ => ?_) ?_); conv => whnf
      | (with_reducible refine vcall_id ?_)
        first
        | (refine vcall_inl rfl rfl rfl rfl (Nat.le_of_ble_eq_true rfl) ?_)
      | (with_reducible refine Both.mk ?_ ?_) <;> conv => whnf
      | (refine ⟨[], _, _, rfl, ?_⟩); conv => whnf
      | (refine ⟨_, rfl, ?_⟩); conv => whnf
      | (refine ⟨_, unbytes_pbytes _, ?_⟩); conv => whnf
      | exact ⟨_, _, rfl, rfl⟩
      | exact rensG_pu _ _ _ _
      | rfl
      | (rw [snap_own rfl (show (pbytes _).length = _ * 1 from by rw [pbytes_length, Nat.mul_one])]); conv => whnf
      | fail
    rw [ordL_short _ _ (by simp only [List.length_drop]; omega)] at h2
    have e : cmpI (l.drop j).length (m.drop j).length = cmpI l.length m.length := by
      rw [List.length_drop, List.length_drop, show ((l.length - j : Nat) : Int) = (l.length : Int) - j from by omega, show ((m.length - j : Nat) : Int) = (m.length : Int) - j from by omega, cmpI_sub]
    rw [e] at h2
    refine call_rel (x := ((l.length : Int), (m.length : Int))) (p := i64 R) rfl trivial (by show i64 _ = _; rw [h2]) (.inl rfl) ?_
    conv => whnf
    repeat' first
      | (with_reducible first | refine bo_run ?_ | refine bw_run ?_ | refine bd_run ?_ | refine Br.tt ?_ | refine Br.ff ?_); conv => whnf
      | (with_reducible refine br_not ?_)
      | (with_reducible first | refine br_dec_tt (by assumption) ?_ | refine br_dec_ff (by assumption) ?_ | refine br_dec_tt (by decide) ?_ | refine br_dec_ff (by decide) ?_); conv => whnf
      | (with_reducible refine br_dec_intro (fun _ => ?_) (fun _ => ?_)) <;> conv => whnf
      | (with_reducible first | refine br_beq_tt (by assumption) ?_ | refine br_beq_ff (by assumption) ?_ | refine br_beq_tt (by decide) ?_ | refine br_beq_ff (by decide) ?_); conv => whnf
      | (with_reducible refine br_beq_intro (fun _ => ?_) (fun _ => ?_)) <;> conv => whnf
      | (with_reducible first | refine br_bne_tt (by assumption) ?_ | refine br_bne_ff (by assumption) ?_ | refine br_bne_tt (by decide) ?_ | refine br_bne_ff (by decide) ?_); conv => whnf
      | (with_reducible refine br_bne_intro (fun _ => ?_) (fun _ => ?_)) <;> conv => whnf
      | (with_reducible first | refine br_of_true (by assumption) ?_ | refine br_of_false (by assumption) ?_); conv => whnf
      | (with_reducible refine br_intro (fun _ => ?_) (fun _ => ?_)) <;> conv => whnf
      | (with_reducible refine and_rfl ?_); conv => whnf
      | (refine and_late (fun _ => ?_) (by first | omega | (show _ = _; rfl) | exact trivial | exact ⟨rfl, trivial⟩ | exact ⟨rfl, rfl, trivial⟩ | exact (fun h => by cases h) | exact (fun _ => ⟨rfl, rfl⟩) | exact Nat.le_of_ble_eq_true rfl | (simp only [List.length_map, List.length_append, pbytes, Nat.mul_one, List.length_cons, List.length_nil]; first | done | omega))); conv => whnf
      | (with_reducible refine and_late (fun _ => ?_) ?_); conv => whnf
      | (with_reducible refine vcall_id ?_)
        first
        | (refine vcall_inl rfl rfl rfl rfl (Nat.le_of_ble_eq_true rfl) ?_)
      | (with_reducible refine Both.mk ?_ ?_) <;> conv => whnf
      | (refine ⟨[], _, _, rfl, ?_⟩); conv => whnf
      | (refine ⟨_, rfl, ?_⟩); conv => whnf
      | (refine ⟨_, unbytes_pbytes _, ?_⟩); conv => whnf
      | exact ⟨_, _, rfl, rfl⟩
      | exact rensG_pu _ _ _ _
      | rfl
      | (rw [snap_own rfl (show (pbytes _).length = _ * 1 from by rw [pbytes_length, Nat.mul_one])]); conv => whnf
      | fail
theorem con_value_Order' : ∀ n, Contract Try.prog id_value_Order (RelP (POrd n) (fun x => [pvV x.1, pvV x.2]) (fun x => i64 (ordV x.1 x.2)))
  | 0 => by
    refine (code_value_Order).pure (Known.cons con_cmp_Compare_int (Known.cons con_floats_Order (Known.cons con_strings_Compare (Known.cons con_cmp_Or_int Known.nil)))) (by rintro x -; first | exact Nat.le_of_ble_eq_true rfl | (obtain ⟨_, _⟩ := x; exact Nat.le_of_ble_eq_true rfl) | (obtain ⟨_, _, _⟩ := x; exact Nat.le_of_ble_eq_true rfl) | (obtain ⟨_, _, _, _⟩ := x; exact Nat.le_of_ble_eq_true rfl) | (obtain ⟨_, _, _, _, _⟩ := x; exact Nat.le_of_ble_eq_true rfl) | (obtain ⟨_, _, _, _, _, _⟩ := x; exact Nat.le_of_ble_eq_true rfl) | (obtain ⟨_, _, _, _, _, _, _⟩ := x; exact Nat.le_of_ble_eq_true rfl) | (obtain ⟨_, _, _, _, _, _, _, _⟩ := x; exact Nat.le_of_ble_eq_true rfl)) ?_
    rintro x h
    exact absurd h.1 (Nat.not_lt_zero _)
  | n + 1 => by
    have ih := lists_of (con_value_Order' n)
    refine (code_value_Order).pure (Known.cons con_cmp_Compare_int (Known.cons con_floats_Order (Known.cons con_strings_Compare (Known.cons ih (Known.cons con_cmp_Or_int Known.nil))))) (by rintro x -; first | exact Nat.le_of_ble_eq_true rfl | (obtain ⟨_, _⟩ := x; exact Nat.le_of_ble_eq_true rfl) | (obtain ⟨_, _, _⟩ := x; exact Nat.le_of_ble_eq_true rfl) | (obtain ⟨_, _, _, _⟩ := x; exact Nat.le_of_ble_eq_true rfl) | (obtain ⟨_, _, _, _, _⟩ := x; exact Nat.le_of_ble_eq_true rfl) | (obtain ⟨_, _, _, _, _, _⟩ := x; exact Nat.le_of_ble_eq_true rfl) | (obtain ⟨_, _, _, _, _, _, _⟩ := x; exact Nat.le_of_ble_eq_true rfl) | (obtain ⟨_, _, _, _, _, _, _, _⟩ := x; exact Nat.le_of_ble_eq_true rfl)) ?_
    rintro ⟨⟨k, i, b, s, l⟩, ⟨k', i', b', s', l'⟩⟩ ⟨h, ok, ok'⟩
    simp only [rkV_mk] at h
    have ok2 := (okV_mk.1 ok).2.2.2.2
    have ok2' := (okV_mk.1 ok').2.2.2.2
    simp only [pvV_mk, ordV_mk]
    repeat' first
      | (with_reducible first | refine bo_run ?_ | refine bw_run ?_ | refine bd_run ?_ | refine Br.tt ?_ | refine Br.ff ?_); conv => whnf
      | (with_reducible refine br_not ?_)
      | (with_reducible first | refine br_dec_tt (by assumption) ?_ | refine br_dec_ff (by assumption) ?_ | refine br_dec_tt (by decide) ?_ | refine br_dec_ff (by decide) ?_); conv => whnf
      | (with_reducible refine br_dec_intro (fun _ => ?_) (fun _ => ?_)) <;> conv => whnf
      | (with_reducible first | refine br_beq_tt (by assumption) ?_ | refine br_beq_ff (by assumption) ?_ | refine br_beq_tt (by decide) ?_ | refine br_beq_ff (by decide) ?_); conv => whnf
      | (with_reducible refine br_beq_intro (fun _ => ?_) (fun _ => ?_)) <;> conv => whnf
      | (with_reducible first | refine br_bne_tt (by assumption) ?_ | refine br_bne_ff (by assumption) ?_ | refine br_bne_tt (by decide) ?_ | refine br_bne_ff (by decide) ?_); conv => whnf
      | (with_reducible refine br_bne_intro (fun _ => ?_) (fun _ => ?_)) <;> conv => whnf
      | (with_reducible first | refine br_of_true (by assumption) ?_ | refine br_of_false (by assumption) ?_); conv => whnf
      | (with_reducible refine br_intro (fun _ => ?_) (fun _ => ?_)) <;> conv => whnf
      | (with_reducible refine and_rfl ?_); conv => whnf
      | (refine and_late (fun _ => ?_) (by first | omega | (show _ = _; rfl) | exact trivial | exact ⟨rfl, trivial⟩ | exact ⟨rfl, rfl, trivial⟩ | exact (fun h => by cases h) | exact (fun _ => ⟨rfl, rfl⟩) | exact Nat.le_of_ble_eq_true rfl | (simp only [List.length_map, List.length_append, pbytes, Nat.mul_one, List.length_cons, List.length_nil]; first | done | omega))); conv => whnf
      | (with_reducible refine and_late (fun _ => ?_) ?_); conv => whnf
      | (with_reducible refine vcall_id ?_)
        first
        | (refine vcall_inl rfl rfl rfl rfl (Nat.le_of_ble_eq_true rfl) ?_)
      | (with_reducible refine Both.mk ?_ ?_) <;> conv => whnf
      | (refine ⟨[], _, _, rfl, ?_⟩); conv => whnf
      | (refine ⟨_, rfl, ?_⟩); conv => whnf
      | (refine ⟨_, unbytes_pbytes _, ?_⟩); conv => whnf
      | exact ⟨_, _, rfl, rfl⟩
      | exact rensG_pu _ _ _ _
      | rfl
      | (rw [snap_own rfl (show (pbytes _).length = _ * 1 from by rw [pbytes_length, Nat.mul_one])]); conv => whnf
      | fail
    refine call_rel (x := (k, k')) (p := i64 (cmpI k k')) rfl trivial rfl (.inl rfl) ?_
    conv => whnf
    repeat' first
      | (with_reducible first | refine bo_run ?_ | refine bw_run ?_ | refine bd_run ?_ | refine Br.tt ?_ | refine Br.ff ?_); conv => whnf
      | (with_reducible refine br_not ?_)
      | (with_reducible first | refine br_dec_tt (by assumption) ?_ | refine br_dec_ff (by assumption) ?_ | refine br_dec_tt (by decide) ?_ | refine br_dec_ff (by decide) ?_); conv => whnf
      | (with_reducible refine br_dec_intro (fun _ => ?_) (fun _ => ?_)) <;> conv => whnf
      | (with_reducible first | refine br_beq_tt (by assumption) ?_ | refine br_beq_ff (by assumption) ?_ | refine br_beq_tt (by decide) ?_ | refine br_beq_ff (by decide) ?_); conv => whnf
      | (with_reducible refine br_beq_intro (fun _ => ?_) (fun _ => ?_)) <;> conv => whnf
      | (with_reducible first | refine br_bne_tt (by assumption) ?_ | refine br_bne_ff (by assumption) ?_ | refine br_bne_tt (by decide) ?_ | refine br_bne_ff (by decide) ?_); conv => whnf
      | (with_reducible refine br_bne_intro (fun _ => ?_) (fun _ => ?_)) <;> conv => whnf
      | (with_reducible first | refine br_of_true (by assumption) ?_ | refine br_of_false (by assumption) ?_); conv => whnf
      | (with_reducible refine br_intro (fun _ => ?_) (fun _ => ?_)) <;> conv => whnf
      | (with_reducible refine and_rfl ?_); conv => whnf
      | (refine and_late (fun _ => ?_) (by first | omega | (show _ = _; rfl) | exact trivial | exact ⟨rfl, trivial⟩ | exact ⟨rfl, rfl, trivial⟩ | exact (fun h => by cases h) | exact (fun _ => ⟨rfl, rfl⟩) | exact Nat.le_of_ble_eq_true rfl | (simp only [List.length_map, List.length_append, pbytes, Nat.mul_one, List.length_cons, List.length_nil]; first | done | omega))); conv => whnf
      | (with_reducible refine and_late (fun _ => ?_) ?_); conv => whnf
      | (with_reducible refine vcall_id ?_)
        first
        | (refine vcall_inl rfl rfl rfl rfl (Nat.le_of_ble_eq_true rfl) ?_)
      | (with_reducible refine Both.mk ?_ ?_) <;> conv => whnf
      | (refine ⟨[], _, _, rfl, ?_⟩); conv => whnf
      | (refine ⟨_, rfl, ?_⟩); conv => whnf
      | (refine ⟨_, unbytes_pbytes _, ?_⟩); conv => whnf
      | exact ⟨_, _, rfl, rfl⟩
      | exact rensG_pu _ _ _ _
      | rfl
      | (rw [snap_own rfl (show (pbytes _).length = _ * 1 from by rw [pbytes_length, Nat.mul_one])]); conv => whnf
      | fail
    refine call_rel (x := (i, i')) (p := i64 (cmpI i i')) rfl trivial rfl (.inl rfl) ?_
    conv => whnf
    repeat' first
      | (with_reducible first | refine bo_run ?_ | refine bw_run ?_ | refine bd_run ?_ | refine Br.tt ?_ | refine Br.ff ?_); conv => whnf
      | (with_reducible refine br_not ?_)
      | (with_reducible first | refine br_dec_tt (by assumption) ?_ | refine br_dec_ff (by assumption) ?_ | refine br_dec_tt (by decide) ?_ | refine br_dec_ff (by decide) ?_); conv => whnf
      | (with_reducible refine br_dec_intro (fun _ => ?_) (fun _ => ?_)) <;> conv => whnf
      | (with_reducible first | refine br_beq_tt (by assumption) ?_ | refine br_beq_ff (by assumption) ?_ | refine br_beq_tt (by decide) ?_ | refine br_beq_ff (by decide) ?_); conv => whnf
      | (with_reducible refine br_beq_intro (fun _ => ?_) (fun _ => ?_)) <;> conv => whnf
      | (with_reducible first | refine br_bne_tt (by assumption) ?_ | refine br_bne_ff (by assumption) ?_ | refine br_bne_tt (by decide) ?_ | refine br_bne_ff (by decide) ?_); conv => whnf
      | (with_reducible refine br_bne_intro (fun _ => ?_) (fun _ => ?_)) <;> conv => whnf
      | (with_reducible first | refine br_of_true (by assumption) ?_ | refine br_of_false (by assumption) ?_); conv => whnf
      | (with_reducible refine br_intro (fun _ => ?_) (fun _ => ?_)) <;> conv => whnf
      | (with_reducible refine and_rfl ?_); conv => whnf
      | (refine and_late (fun _ => ?_) (by first | omega | (show _ = _; rfl) | exact trivial | exact ⟨rfl, trivial⟩ | exact ⟨rfl, rfl, trivial⟩ | exact (fun h => by cases h) | exact (fun _ => ⟨rfl, rfl⟩) | exact Nat.le_of_ble_eq_true rfl | (simp only [List.length_map, List.length_append, pbytes, Nat.mul_one, List.length_cons, List.length_nil]; first | done | omega))); conv => whnf
      | (with_reducible refine and_late (fun _ => ?_) ?_); conv => whnf
      | (with_reducible refine vcall_id ?_)
        first
        | (refine vcall_inl rfl rfl rfl rfl (Nat.le_of_ble_eq_true rfl) ?_)
      | (with_reducible refine Both.mk ?_ ?_) <;> conv => whnf
      | (refine ⟨[], _, _, rfl, ?_⟩); conv => whnf
      | (refine ⟨_, rfl, ?_⟩); conv => whnf
      | (refine ⟨_, unbytes_pbytes _, ?_⟩); conv => whnf
      | exact ⟨_, _, rfl, rfl⟩
      | exact rensG_pu _ _ _ _
      | rfl
      | (rw [snap_own rfl (show (pbytes _).length = _ * 1 from by rw [pbytes_length, Nat.mul_one])]); conv => whnf
      | fail
    refine call_rel (x := (b, b')) (p := i64 (cmpI (keyI b) (keyI b'))) rfl trivial rfl (.inl rfl) ?_
    conv => whnf
    repeat' first
      | (with_reducible first | refine bo_run ?_ | refine bw_run ?_ | refine bd_run ?_ | refine Br.tt ?_ | refine Br.ff ?_); conv => whnf
      | (with_reducible refine br_not ?_)
      | (with_reducible first | refine br_dec_tt (by assumption) ?_ | refine br_dec_ff (by assumption) ?_ | refine br_dec_tt (by decide) ?_ | refine br_dec_ff (by decide) ?_); conv => whnf
      | (with_reducible refine br_dec_intro (fun _ => ?_) (fun _ => ?_)) <;> conv => whnf
      | (with_reducible first | refine br_beq_tt (by assumption) ?_ | refine br_beq_ff (by assumption) ?_ | refine br_beq_tt (by decide) ?_ | refine br_beq_ff (by decide) ?_); conv => whnf
      | (with_reducible refine br_beq_intro (fun _ => ?_) (fun _ => ?_)) <;> conv => whnf
      | (with_reducible first | refine br_bne_tt (by assumption) ?_ | refine br_bne_ff (by assumption) ?_ | refine br_bne_tt (by decide) ?_ | refine br_bne_ff (by decide) ?_); conv => whnf
      | (with_reducible refine br_bne_intro (fun _ => ?_) (fun _ => ?_)) <;> conv => whnf
      | (with_reducible first | refine br_of_true (by assumption) ?_ | refine br_of_false (by assumption) ?_); conv => whnf
      | (with_reducible refine br_intro (fun _ => ?_) (fun _ => ?_)) <;> conv => whnf
      | (with_reducible refine and_rfl ?_); conv => whnf
      | (refine and_late (fun _ => ?_) (by first | omega | (show _ = _; rfl) | exact trivial | exact ⟨rfl, trivial⟩ | exact ⟨rfl, rfl, trivial⟩ | exact (fun h => by cases h) | exact (fun _ => ⟨rfl, rfl⟩) | exact Nat.le_of_ble_eq_true rfl | (simp only [List.length_map, List.length_append, pbytes, Nat.mul_one, List.length_cons, List.length_nil]; first | done | omega))); conv => whnf
      | (with_reducible refine and_late (fun _ => ?_) ?_); conv => whnf
      | (with_reducible refine vcall_id ?_)
        first
        | (refine vcall_inl rfl rfl rfl rfl (Nat.le_of_ble_eq_true rfl) ?_)
      | (with_reducible refine Both.mk ?_ ?_) <;> conv => whnf
      | (refine ⟨[], _, _, rfl, ?_⟩); conv => whnf
      | (refine ⟨_, rfl, ?_⟩); conv => whnf
      | (refine ⟨_, unbytes_pbytes _, ?_⟩); conv => whnf
      | exact ⟨_, _, rfl, rfl⟩
      | exact rensG_pu _ _ _ _
      | rfl
      | (rw [snap_own rfl (show (pbytes _).length = _ * 1 from by rw [pbytes_length, Nat.mul_one])]); conv => whnf
      | fail
    refine call_rel (x := (s, s')) (p := i64 (cmpS s s')) rfl trivial rfl (.inl rfl) ?_
    conv => whnf
    repeat' first
      | (with_reducible first | refine bo_run ?_ | refine bw_run ?_ | refine bd_run ?_ | refine Br.tt ?_ | refine Br.ff ?_); conv => whnf
      | (with_reducible refine br_not ?_)
      | (with_reducible first | refine br_dec_tt (by assumption) ?_ | refine br_dec_ff (by assumption) ?_ | refine br_dec_tt (by decide) ?_ | refine br_dec_ff (by decide) ?_); conv => whnf
      | (with_reducible refine br_dec_intro (fun _ => ?_) (fun _ => ?_)) <;> conv => whnf
      | (with_reducible first | refine br_beq_tt (by assumption) ?_ | refine br_beq_ff (by assumption) ?_ | refine br_beq_tt (by decide) ?_ | refine br_beq_ff (by decide) ?_); conv => whnf
      | (with_reducible refine br_beq_intro (fun _ => ?_) (fun _ => ?_)) <;> conv => whnf
      | (with_reducible first | refine br_bne_tt (by assumption) ?_ | refine br_bne_ff (by assumption) ?_ | refine br_bne_tt (by decide) ?_ | refine br_bne_ff (by decide) ?_); conv => whnf
      | (with_reducible refine br_bne_intro (fun _ => ?_) (fun _ => ?_)) <;> conv => whnf
      | (with_reducible first | refine br_of_true (by assumption) ?_ | refine br_of_false (by assumption) ?_); conv => whnf
      | (with_reducible refine br_intro (fun _ => ?_) (fun _ => ?_)) <;> conv => whnf
      | (with_reducible refine and_rfl ?_); conv => whnf
      | (refine and_late (fun _ => ?_) (by first | omega | (show _ = _; rfl) | exact trivial | exact ⟨rfl, trivial⟩ | exact ⟨rfl, rfl, trivial⟩ | exact (fun h => by cases h) | exact (fun _ => ⟨rfl, rfl⟩) | exact Nat.le_of_ble_eq_true rfl | (simp only [List.length_map, List.length_append, pbytes, Nat.mul_one, List.length_cons, List.length_nil]; first | done | omega))); conv => whnf
      | (with_reducible refine and_late (fun _ => ?_) ?_); conv => whnf
      | (with_reducible refine vcall_id ?_)
        first
        | (refine vcall_inl rfl rfl rfl rfl (Nat.le_of_ble_eq_true rfl) ?_)
      | (with_reducible refine Both.mk ?_ ?_) <;> conv => whnf
      | (refine ⟨[], _, _, rfl, ?_⟩); conv => whnf
      | (refine ⟨_, rfl, ?_⟩); conv => whnf
      | (refine ⟨_, unbytes_pbytes _, ?_⟩); conv => whnf
      | exact ⟨_, _, rfl, rfl⟩
      | exact rensG_pu _ _ _ _
      | rfl
      | (rw [snap_own rfl (show (pbytes _).length = _ * 1 from by rw [pbytes_length, Nat.mul_one])]); conv => whnf
      | fail
    refine call_rel (x := (l, l')) (p := i64 (ordL l l')) rfl ⟨by show rkL l < n; omega, ok2, ok2'⟩ rfl (.inl rfl) ?_
    conv => whnf
    repeat' first
      | (with_reducible first | refine bo_run ?_ | refine bw_run ?_ | refine bd_run ?_ | refine Br.tt ?_ | refine Br.ff ?_); conv => whnf
      | (with_reducible refine br_not ?_)
      | (with_reducible first | refine br_dec_tt (by assumption) ?_ | refine br_dec_ff (by assumption) ?_ | refine br_dec_tt (by decide) ?_ | refine br_dec_ff (by decide) ?_); conv => whnf
      | (with_reducible refine br_dec_intro (fun _ => ?_) (fun _ => ?_)) <;> conv => whnf
      | (with_reducible first | refine br_beq_tt (by assumption) ?_ | refine br_beq_ff (by assumption) ?_ | refine br_beq_tt (by decide) ?_ | refine br_beq_ff (by decide) ?_); conv => whnf
      | (with_reducible refine br_beq_intro (fun _ => ?_) (fun _ => ?_)) <;> conv => whnf
      | (with_reducible first | refine br_bne_tt (by assumption) ?_ | refine br_bne_ff (by assumption) ?_ | refine br_bne_tt (by decide) ?_ | refine br_bne_ff (by decide) ?_); conv => whnf
      | (with_reducible refine br_bne_intro (fun _ => ?_) (fun _ => ?_)) <;> conv => whnf
      | (with_reducible first | refine br_of_true (by assumption) ?_ | refine br_of_false (by assumption) ?_); conv => whnf
      | (with_reducible refine br_intro (fun _ => ?_) (fun _ => ?_)) <;> conv => whnf
      | (with_reducible refine and_rfl ?_); conv => whnf
      | (refine and_late (fun _ => ?_) (by first | omega | (show _ = _; rfl) | exact trivial | exact ⟨rfl, trivial⟩ | exact ⟨rfl, rfl, trivial⟩ | exact (fun h => by cases h) | exact (fun _ => ⟨rfl, rfl⟩) | exact Nat.le_of_ble_eq_true rfl | (simp only [List.length_map, List.length_append, pbytes, Nat.mul_one, List.length_cons, List.length_nil]; first | done | omega))); conv => whnf
      | (with_reducible refine and_late (fun _ => ?_) ?_); conv => whnf
      | (with_reducible refine vcall_id ?_)
        first
        | (refine vcall_inl rfl rfl rfl rfl (Nat.le_of_ble_eq_true rfl) ?_)
      | (with_reducible refine Both.mk ?_ ?_) <;> conv => whnf
      | (refine ⟨[], _, _, rfl, ?_⟩); conv => whnf
      | (refine ⟨_, rfl, ?_⟩); conv => whnf
      | (refine ⟨_, unbytes_pbytes _, ?_⟩); conv => whnf
      | exact ⟨_, _, rfl, rfl⟩
      | exact rensG_pu _ _ _ _
      | rfl
      | (rw [snap_own rfl (show (pbytes _).length = _ * 1 from by rw [pbytes_length, Nat.mul_one])]); conv => whnf
      | fail
    refine call_rel (x := [cmpI k k', cmpI i i', cmpI (keyI b) (keyI b'), cmpS s s', ordL l l']) rfl (by show 5 ≤ 1048576; omega) rfl (.inl rfl) ?_
    conv => whnf
    repeat' first
      | (with_reducible first | refine bo_run ?_ | refine bw_run ?_ | refine bd_run ?_ | refine Br.tt ?_ | refine Br.ff ?_); conv => whnf
      | (with_reducible refine br_not ?_)
      | (with_reducible first | refine br_dec_tt (by assumption) ?_ | refine br_dec_ff (by assumption) ?_ | refine br_dec_tt (by decide) ?_ | refine br_dec_ff (by decide) ?_); conv => whnf
      | (with_reducible refine br_dec_intro (fun _ => ?_) (fun _ => ?_)) <;> conv => whnf
      | (with_reducible first | refine br_beq_tt (by assumption) ?_ | refine br_beq_ff (by assumption) ?_ | refine br_beq_tt (by decide) ?_ | refine br_beq_ff (by decide) ?_); conv => whnf
      | (with_reducible refine br_beq_intro (fun _ => ?_) (fun _ => ?_)) <;> conv => whnf
      | (with_reducible first | refine br_bne_tt (by assumption) ?_ | refine br_bne_ff (by assumption) ?_ | refine br_bne_tt (by decide) ?_ | refine br_bne_ff (by decide) ?_); conv => whnf
      | (with_reducible refine br_bne_intro (fun _ => ?_) (fun _ => ?_)) <;> conv => whnf
      | (with_reducible first | refine br_of_true (by assumption) ?_ | refine br_of_false (by assumption) ?_); conv => whnf
      | (with_reducible refine br_intro (fun _ => ?_) (fun _ => ?_)) <;> conv => whnf
      | (with_reducible refine and_rfl ?_); conv => whnf
      | (refine and_late (fun _ => ?_) (by first | omega | (show _ = _; rfl) | exact trivial | exact ⟨rfl, trivial⟩ | exact ⟨rfl, rfl, trivial⟩ | exact (fun h => by cases h) | exact (fun _ => ⟨rfl, rfl⟩) | exact Nat.le_of_ble_eq_true rfl | (simp only [List.length_map, List.length_append, pbytes, Nat.mul_one, List.length_cons, List.length_nil]; first | done | omega))); conv => whnf
      | (with_reducible refine and_late (fun _ => ?_) ?_); conv => whnf
      | (with_reducible refine vcall_id ?_)
        first
        | (refine vcall_inl rfl rfl rfl rfl (Nat.le_of_ble_eq_true rfl) ?_)
      | (with_reducible refine Both.mk ?_ ?_) <;> conv => whnf
      | (refine ⟨[], _, _, rfl, ?_⟩); conv => whnf
      | (refine ⟨_, rfl, ?_⟩); conv => whnf
      | (refine ⟨_, unbytes_pbytes _, ?_⟩); conv => whnf
      | exact ⟨_, _, rfl, rfl⟩
      | exact rensG_pu _ _ _ _
      | rfl
      | (rw [snap_own rfl (show (pbytes _).length = _ * 1 from by rw [pbytes_length, Nat.mul_one])]); conv => whnf
      | fail
theorem con_value_Order : Contract Try.prog id_value_Order (RelP (fun (x : V × V) => okV x.1 ∧ okV x.2) (fun x => [pvV x.1, pvV x.2]) (fun x => i64 (ordV x.1 x.2))) :=
  (Contract.all con_value_Order' 0).pre fun x h => ⟨rkV x.1 + 1, Nat.lt_succ_self _, h⟩
end Go.Proofs.Ytlodbaikbgbhjaa
