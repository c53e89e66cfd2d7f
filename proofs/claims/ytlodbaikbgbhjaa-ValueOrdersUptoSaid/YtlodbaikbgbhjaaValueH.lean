/- The reference's order of values. -/
import Derived.Test.YtlodbaikbgbhjaaValueG
import Derived.Test.YtlodbaikbgbhjaaCRef05
import Derived.Test.YtlodbaikbgbhjaaValueA
set_option linter.unusedVariables false
set_option linter.unusedSimpArgs false
set_option maxRecDepth 20000
namespace Go.Proofs.Ytlodbaikbgbhjaa
open Go Go.Vm Go.IntWalk

def wayI (a b : Bool) : Int := if a then -1 else if b then 1 else 0
theorem con_ref05_way : Contract Try.prog id_ref05_way (RelP (fun ((a, b) : Bool × Bool) => True) (fun (a, b) => [bl a, bl b]) fun (a, b) => i64 (wayI a b)) := by
  refine (code_ref05_way).pure Known.nil (by rintro x -; first | exact Nat.le_of_ble_eq_true rfl | (obtain ⟨_, _⟩ := x; exact Nat.le_of_ble_eq_true rfl) | (obtain ⟨_, _, _⟩ := x; exact Nat.le_of_ble_eq_true rfl) | (obtain ⟨_, _, _, _⟩ := x; exact Nat.le_of_ble_eq_true rfl) | (obtain ⟨_, _, _, _, _⟩ := x; exact Nat.le_of_ble_eq_true rfl) | (obtain ⟨_, _, _, _, _, _⟩ := x; exact Nat.le_of_ble_eq_true rfl) | (obtain ⟨_, _, _, _, _, _, _⟩ := x; exact Nat.le_of_ble_eq_true rfl) | (obtain ⟨_, _, _, _, _, _, _, _⟩ := x; exact Nat.le_of_ble_eq_true rfl)) ?_
  rintro ⟨a, b⟩ -
  dsimp only
  cases a <;> cases b
  all_goals
    repeat' first
      | (with_reducible first | refine bo_run ?_ | refine bw_run ?_ | refine bd_run ?_ | refine Br.tt ?_ | refine Br.ff ?_); conv => whnf
      | (with_reducible refine br_not ?_)
      | (with_reducible first | refine br_dec_tt (by assumption) ?_ | refine br_dec_ff (by assumption) ?_ | refine br_dec_tt (by decide) ?_ | refine br_dec_ff (by decide) ?_); conv => whnf
      | (with_reducible refine br_dec_intro (fun _ => ?_) (fun _ => ?_)) <;> conv => whnf
      | (with_reducible first | refine br_beq_tt (by assumption) ?_ | refine br_beq_ff (by assumption) ?_ | refine br_beq_tt (by decide) ?_ | refine br_beq_ff (by decide) ?_); conv => whnf
      | (with_reducible refine br_beq_intro (fun _ => ?_) (fun _ => ?_)) <;> conv => whnf
      | (with_reducible first | refine br_bne_tt (by assumption) ?_ | refine br_bne_ff (by assumption) ?_ | refine br_bne_tt (by decide) ?_ | refine br_bne_ff (by decide) ?_); conv => whnf
      | (with_reducible refine br_bne_intro (fun _ => ?_) (fun _ => ?_)) <;> conv => whnf
      | (with_reducible first | refine br_of_true (by assumption) ?_ | refine br_of_false (by assumption) ?_); conv => whnf
      | (with_reducible refine br_intro (fun _ => ?_) (fun _ => ?_)) <;> conv => whnf
      | (with_reducible refine and_rfl ?_); conv => whnf
      | (refine and_late (fun _ => ?_) (by first | omega | (show _ = _; rfl) | exact trivial | exact ⟨rfl, trivial⟩ | exact ⟨rfl, rfl, trivial⟩ | exact (fun h => by cases h) | exact (fun _ => ⟨rfl, rfl⟩) | exact Nat.le_of_ble_eq_true rfl | (simp only [List.length_map, List.length_append, pbytes, Nat.mul_one, List.length_cons, List.length_nil]; first | done | omega))); conv => whnf
      | (with_reducible refine and_late (fun _ => ?_) ?_); conv => whnf
      | (with_reducible refine vcall_id ?_)
        first
        | (refine vcall_inl rfl rfl rfl rfl (Nat.le_of_ble_eq_true rfl) ?_)
      | (with_reducible refine Both.mk ?_ ?_) <;> conv => whnf
      | (refine ⟨[], _, _, rfl, ?_⟩); conv => whnf
      | (refine ⟨_, rfl, ?_⟩); conv => whnf
      | (refine ⟨_, unbytes_pbytes _, ?_⟩); conv => whnf
      | exact ⟨_, _, rfl, rfl⟩
      | exact rensG_pu _ _ _ _
      | rfl
      | (rw [snap_own rfl (show (pbytes _).length = _ * 1 from by rw [pbytes_length, Nat.mul_one])]); conv => whnf
      | fail
  all_goals rfl
theorem way_cmp (a b : Int) : wayI (decide (a < b)) (decide (a > b)) = cmpI a b := by
  unfold wayI cmpI
  simp only [decide_eq_true_eq]
theorem less_cmp : ∀ (l m : List UInt8), Op.bytesLess l m = decide (cmpB (l.map fun b => (b.toNat : Int)) (m.map fun b => (b.toNat : Int)) = -1)
  | [], [] => rfl
  | [], _ :: _ => rfl
  | _ :: _, [] => rfl
  | a :: u, b :: v => by
    rw [List.map_cons, List.map_cons, cmpB, Op.bytesLess, less_cmp u v]
    have e1 : a < b ↔ (a.toNat : Int) < b.toNat := by rw [UInt8.lt_iff_toNat_lt]; omega
    have e2 : a = b ↔ (a.toNat : Int) = b.toNat := by
      rw [← UInt8.toNat_inj]; omega
    rw [Bool.eq_iff_iff]
    simp only [Bool.or_eq_true, Bool.and_eq_true, decide_eq_true_eq, beq_iff_eq, e1, e2]
    generalize cmpB (u.map fun b => (b.toNat : Int)) (v.map fun b => (b.toNat : Int)) = C
    split
    · omega
    · split <;> omega
theorem strLt_cmp (s t : ByteArray) : strLt s t = decide (cmpS s t = -1) := by
  unfold strLt cmpS bytesOf
  rw [ByteArray.toList_eq, ByteArray.toList_eq, less_cmp]
theorem strEq_cmp (s t : ByteArray) : strEq s t = decide (cmpS s t = 0) := by
  rw [Bool.eq_iff_iff, strEq_bytes, decide_eq_true_eq, decide_eq_true_eq]
  unfold cmpS
  rw [cmpB_zero]
theorem way_str (s t : ByteArray) : wayI (strLt s t) (!(strLt s t || strEq s t)) = cmpS s t := by
  rw [strLt_cmp, strEq_cmp]
  have := cmpB_range (bytesOf s) (bytesOf t)
  unfold wayI
  simp only [Bool.not_eq_true', Bool.or_eq_false_iff, decide_eq_false_iff_not, decide_eq_true_eq]
  unfold cmpS at *
  split
  · omega
  · split <;> omega
theorem lx_chain {a b c d O R : Int} (h : lx a (lx b (lx c (lx d (lx O 0)))) = R) : (¬ a = 0 → lx a O = R) ∧ (a = 0 → ¬ b = 0 → lx b O = R) ∧ (a = 0 → b = 0 → ¬ c = 0 → lx c O = R) ∧ (a = 0 → b = 0 → c = 0 → lx d O = R) := by
  subst h
  refine ⟨fun h1 => ?_, fun h1 h2 => ?_, fun h1 h2 h3 => ?_, fun h1 h2 h3 => ?_⟩
  · simp only [lx, if_neg h1]
  · simp only [lx, if_pos h1, if_neg h2]
  · simp only [lx, if_pos h1, if_pos h2, if_neg h3]
  · simp only [lx, if_pos h1, if_pos h2, if_pos h3]
    by_cases h4 : d = 0
    · simp only [if_pos h4]
      by_cases h5 : O = 0
      · simp [h5]
      · simp only [if_neg h5]
    · simp only [if_neg h4]
theorem con_ref05_Order' : ∀ n, Contract Try.prog id_ref05_Order (RelP (POrd n) (fun x => [pvV x.1, pvV x.2]) (fun x => i64 (ordV x.1 x.2)))
  | 0 => by
    refine (code_ref05_Order).pure (Known.cons con_ref05_way (Known.cons con_ref01_Order Known.nil)) (by rintro x -; first | exact Nat.le_of_ble_eq_true rfl | (obtain ⟨_, _⟩ := x; exact Nat.le_of_ble_eq_true rfl) | (obtain ⟨_, _, _⟩ := x; exact Nat.le_of_ble_eq_true rfl) | (obtain ⟨_, _, _, _⟩ := x; exact Nat.le_of_ble_eq_true rfl) | (obtain ⟨_, _, _, _, _⟩ := x; exact Nat.le_of_ble_eq_true rfl) | (obtain ⟨_, _, _, _, _, _⟩ := x; exact Nat.le_of_ble_eq_true rfl) | (obtain ⟨_, _, _, _, _, _, _⟩ := x; exact Nat.le_of_ble_eq_true rfl) | (obtain ⟨_, _, _, _, _, _, _, _⟩ := x; exact Nat.le_of_ble_eq_true rfl)) ?_
    rintro x h
    exact absurd h.1 (Nat.not_lt_zero _)
  | n + 1 => by
    have ih := con_ref05_Order' n
    refine (code_ref05_Order).pure (Known.cons con_ref05_way (Known.cons con_ref01_Order (Known.cons ih Known.nil))) (by rintro x -; first | exact Nat.le_of_ble_eq_true rfl | (obtain ⟨_, _⟩ := x; exact Nat.le_of_ble_eq_true rfl) | (obtain ⟨_, _, _⟩ := x; exact Nat.le_of_ble_eq_true rfl) | (obtain ⟨_, _, _, _⟩ := x; exact Nat.le_of_ble_eq_true rfl) | (obtain ⟨_, _, _, _, _⟩ := x; exact Nat.le_of_ble_eq_true rfl) | (obtain ⟨_, _, _, _, _, _⟩ := x; exact Nat.le_of_ble_eq_true rfl) | (obtain ⟨_, _, _, _, _, _, _⟩ := x; exact Nat.le_of_ble_eq_true rfl) | (obtain ⟨_, _, _, _, _, _, _, _⟩ := x; exact Nat.le_of_ble_eq_true rfl)) ?_
    rintro ⟨⟨k, i, b, s, l⟩, ⟨k', i', b', s', l'⟩⟩ ⟨h, ok, ok'⟩
    simp only [rkV_mk] at h
    have ok2 := okV_mk.1 ok
    have ok2' := okV_mk.1 ok'
    obtain ⟨bn, rfl⟩ : ∃ bn : Nat, b = bn := ⟨b.toNat, by omega⟩
    obtain ⟨bm, rfl⟩ : ∃ bm : Nat, b' = bm := ⟨b'.toNat, by omega⟩
    simp only [pvV_mk, ordV_lx]
    have hc := cellsL_length l
    have hc' := cellsL_length l'
    generalize hR : lx (cmpI k k') (lx (cmpI i i') (lx (cmpI (keyI bn) (keyI bm)) (lx (cmpS s s') (lx (ordL l l') 0)))) = R
    have ch := lx_chain hR
    repeat' first
      | (with_reducible first | refine bo_run ?_ | refine bw_run ?_ | refine bd_run ?_ | refine Br.tt ?_ | refine Br.ff ?_); conv => whnf
      | (with_reducible refine br_not ?_)
      | (with_reducible first | refine br_dec_tt (by assumption) ?_ | refine br_dec_ff (by assumption) ?_ | refine br_dec_tt (by decide) ?_ | refine br_dec_ff (by decide) ?_); conv => whnf
      | (with_reducible refine br_dec_intro (fun _ => ?_) (fun _ => ?_)) <;> conv => whnf
      | (with_reducible first | refine br_beq_tt (by assumption) ?_ | refine br_beq_ff (by assumption) ?_ | refine br_beq_tt (by decide) ?_ | refine br_beq_ff (by decide) ?_); conv => whnf
      | (with_reducible refine br_beq_intro (fun _ => ?_) (fun _ => ?_)) <;> conv => whnf
      | (with_reducible first | refine br_bne_tt (by assumption) ?_ | refine br_bne_ff (by assumption) ?_ | refine br_bne_tt (by decide) ?_ | refine br_bne_ff (by decide) ?_); conv => whnf
      | (with_reducible refine br_bne_intro (fun _ => ?_) (fun _ => ?_)) <;> conv => whnf
      | (with_reducible first | refine br_of_true (by assumption) ?_ | refine br_of_false (by assumption) ?_); conv => whnf
      | (with_reducible refine br_intro (fun _ => ?_) (fun _ => ?_)) <;> conv => whnf
      | (with_reducible refine and_rfl ?_); conv => whnf
      | (refine and_late (fun _ => ?_) (by first | omega | (show _ = _; rfl) | exact trivial | exact ⟨rfl, trivial⟩ | exact ⟨rfl, rfl, trivial⟩ | exact (fun h => by cases h) | exact (fun _ => ⟨rfl, rfl⟩) | exact Nat.le_of_ble_eq_true rfl | (simp only [List.length_map, List.length_append, pbytes, Nat.mul_one, List.length_cons, List.length_nil]; first | done | omega))); conv => whnf
      | (with_reducible refine and_late (fun _ => ?_) ?_); conv => whnf
      | (with_reducible refine vcall_id ?_)
        first
        | (refine call_rel (x := (decide (k < k'), decide (k > k'))) (p := i64 (cmpI k k')) rfl trivial (by show i64 _ = _; rw [way_cmp]) (.inl rfl) ?_); conv => whnf
        | (refine call_rel (x := (decide (i < i'), decide (i > i'))) (p := i64 (cmpI i i')) rfl trivial (by show i64 _ = _; rw [way_cmp]) (.inl rfl) ?_); conv => whnf
        | (refine call_rel (x := (strLt s s', !(strLt s s' || strEq s s'))) (p := i64 (cmpS s s')) rfl trivial (by show i64 _ = _; rw [way_str]) (.inl rfl) ?_); conv => whnf
        | (refine call_rel (x := (bn, bm)) (p := i64 (cmpI (keyI bn) (keyI bm))) rfl (by exact ⟨by show bn < _; omega, by show bm < _; omega⟩) rfl (.inl rfl) ?_); conv => whnf
      | (with_reducible refine Both.mk ?_ ?_) <;> conv => whnf
      | (refine ⟨[], _, _, rfl, ?_⟩); conv => whnf
      | (refine ⟨_, rfl, ?_⟩); conv => whnf
      | (refine ⟨_, unbytes_pbytes _, ?_⟩); conv => whnf
      | exact ⟨_, _, rfl, rfl⟩
      | exact rensG_pu _ _ _ _
      | rfl
      | (rw [snap_own rfl (show (pbytes _).length = _ * 1 from by rw [pbytes_length, Nat.mul_one])]); conv => whnf
      | fail
    all_goals
      refine bw_loop (α := Int × Nat) (fun x => [(2, .ptr 0 0 0), (3, .ptr 1 0 0), (5, .pu (i64 x.1)), (6, .pu (i64 (x.2 : Int)))])
        (fun _ => [some ⟨ty_Value, 0, [i64 k, i64 i, u64 (bn : Int), str s, PV.sl l.length (cellsL l)].map .pu⟩, some ⟨ty_Value, 0, [i64 k', i64 i', u64 (bm : Int), str s', PV.sl l'.length (cellsL l')].map .pu⟩])
        (fun x => (x.2 ≤ l.length ∧ x.2 ≤ l'.length) ∧ lx x.1 (ordL (l.drop x.2) (l'.drop x.2)) = R) (fun x => l.length - x.2) (_, 0) rfl rfl ⟨⟨Nat.zero_le _, Nat.zero_le _⟩, by first | exact ch.1 (by assumption) | exact ch.2.1 (by assumption) (by assumption) | exact ch.2.2.1 (by assumption) (by assumption) (by assumption) | exact ch.2.2.2 (by assumption) (by assumption) (by assumption)⟩ ?_
      rintro ⟨y, j⟩ ⟨⟨h1, h1'⟩, h2⟩
      simp only at h1 h1' h2
      dsimp only
      by_cases hy : y = 0
      · subst hy
        rw [show lx 0 (ordL (l.drop j) (l'.drop j)) = ordL (l.drop j) (l'.drop j) from rfl] at h2
        have y0 : (0 : Int) = 0 := rfl
        by_cases hj : j < l.length ∧ j < l'.length
        · obtain ⟨v, hv⟩ := drop_ex hj.1
          obtain ⟨w, hw⟩ := drop_ex hj.2
          have hd : 5 ≤ ((cellsL l).drop ((j : Int).toNat * 5)).length := by rw [List.length_drop, Int.toNat_natCast]; omega
          have hd' : 5 ≤ ((cellsL l').drop ((j : Int).toNat * 5)).length := by rw [List.length_drop, Int.toNat_natCast]; omega
          have g : (j : Int) < (l.length : Int) := by omega
          have g' : (j : Int) < (l'.length : Int) := by omega
          rw [hv, hw, ordL_cons] at h2
          repeat' first
            | (with_reducible first | refine bo_run ?_ | refine bw_run ?_ | refine bd_run ?_ | refine Br.tt ?_ | refine Br.ff ?_); conv => whnf
            | (with_reducible refine br_not ?_)
            | (with_reducible first | refine br_dec_tt (by assumption) ?_ | refine br_dec_ff (by assumption) ?_ | refine br_dec_tt (by decide) ?_ | refine br_dec_ff (by decide) ?_); conv => whnf
            | (with_reducible refine br_dec_intro (fun _ => ?_) (fun _ => ?_)) <;> conv => whnf
            | (with_reducible first | refine br_beq_tt (by assumption) ?_ | refine br_beq_ff (by assumption) ?_ | refine br_beq_tt (by decide) ?_ | refine br_beq_ff (by decide) ?_); conv => whnf
            | (with_reducible refine br_beq_intro (fun _ => ?_) (fun _ => ?_)) <;> conv => whnf
            | (with_reducible first | refine br_bne_tt (by assumption) ?_ | refine br_bne_ff (by assumption) ?_ | refine br_bne_tt (by decide) ?_ | refine br_bne_ff (by decide) ?_); conv => whnf
            | (with_reducible refine br_bne_intro (fun _ => ?_) (fun _ => ?_)) <;> conv => whnf
            | (with_reducible first | refine br_of_true (by assumption) ?_ | refine br_of_false (by assumption) ?_); conv => whnf
            | (with_reducible refine br_intro (fun _ => ?_) (fun _ => ?_)) <;> conv => whnf
            | (with_reducible refine and_rfl ?_); conv => whnf
            | (refine and_late (fun _ => ?_) (by first | omega | (show _ = _; rfl) | exact trivial | exact ⟨rfl, trivial⟩ | exact ⟨rfl, rfl, trivial⟩ | exact (fun h => by cases h) | exact (fun _ => ⟨rfl, rfl⟩) | exact Nat.le_of_ble_eq_true rfl | (simp only [List.length_map, List.length_append, pbytes, Nat.mul_one, List.length_cons, List.length_nil]; first | done | omega))); conv => whnf
            | (with_reducible refine and_late (fun _ => ?_) ?_); conv => whnf
            | (with_reducible refine vcall_id ?_)
              first
              | (refine vcall_inl rfl rfl rfl rfl (Nat.le_of_ble_eq_true rfl) ?_)
            | (with_reducible refine Both.mk ?_ ?_) <;> conv => whnf
            | (refine ⟨[], _, _, rfl, ?_⟩); conv => whnf
            | (refine ⟨_, rfl, ?_⟩); conv => whnf
            | (refine ⟨_, unbytes_pbytes _, ?_⟩); conv => whnf
            | exact ⟨_, _, rfl, rfl⟩
            | exact rensG_pu _ _ _ _
            | rfl
            | (rw [snap_own rfl (show (pbytes _).length = _ * 1 from by rw [pbytes_length, Nat.mul_one])]); conv => whnf
            | fail
          refine call_rel (x := (v, w)) (p := i64 (ordV v w)) (by show some [PV.agg _, PV.agg _] = some [pvV v, pvV w]; rw [pvV, pvV, ← cells_at hv, ← cells_at hw]; rfl) (by have := rk_drop hv; exact ⟨by show rkV v < n; omega, okL_drop ok2.2.2.2.2.2 hv, okL_drop ok2'.2.2.2.2.2 hw⟩) rfl (.inl rfl) ?_
          conv => whnf
          repeat' first
            | (with_reducible first | refine bo_run ?_ | refine bw_run ?_ | refine bd_run ?_ | refine Br.tt ?_ | refine Br.ff ?_); conv => whnf
            | (with_reducible refine br_not ?_)
            | (with_reducible first | refine br_dec_tt (by assumption) ?_ | refine br_dec_ff (by assumption) ?_ | refine br_dec_tt (by decide) ?_ | refine br_dec_ff (by decide) ?_); conv => whnf
            | (with_reducible refine br_dec_intro (fun _ => ?_) (fun _ => ?_)) <;> conv => whnf
            | (with_reducible first | refine br_beq_tt (by assumption) ?_ | refine br_beq_ff (by assumption) ?_ | refine br_beq_tt (by decide) ?_ | refine br_beq_ff (by decide) ?_); conv => whnf
            | (with_reducible refine br_beq_intro (fun _ => ?_) (fun _ => ?_)) <;> conv => whnf
            | (with_reducible first | refine br_bne_tt (by assumption) ?_ | refine br_bne_ff (by assumption) ?_ | refine br_bne_tt (by decide) ?_ | refine br_bne_ff (by decide) ?_); conv => whnf
            | (with_reducible refine br_bne_intro (fun _ => ?_) (fun _ => ?_)) <;> conv => whnf
            | (with_reducible first | refine br_of_true (by assumption) ?_ | refine br_of_false (by assumption) ?_); conv => whnf
            | (with_reducible refine br_intro (fun _ => ?_) (fun _ => ?_)) <;> conv => whnf
            | (with_reducible refine and_rfl ?_); conv => whnf
            | (refine and_late (fun _ => ?_) (by first | omega | (show _ = _; rfl) | exact trivial | exact ⟨rfl, trivial⟩ | exact ⟨rfl, rfl, trivial⟩ | exact (fun h => by cases h) | exact (fun _ => ⟨rfl, rfl⟩) | exact Nat.le_of_ble_eq_true rfl | (simp only [List.length_map, List.length_append, pbytes, Nat.mul_one, List.length_cons, List.length_nil]; first | done | omega))); conv => whnf
            | (with_reducible refine and_late (fun _ => ?_) ?_); conv => whnf
            | (with_reducible refine vcall_id ?_)
              first
              | (refine vcall_inl rfl rfl rfl rfl (Nat.le_of_ble_eq_true rfl) ?_)
            | (with_reducible refine Both.mk ?_ ?_) <;> conv => whnf
            | (refine ⟨[], _, _, rfl, ?_⟩); conv => whnf
            | (refine ⟨_, rfl, ?_⟩); conv => whnf
            | (refine ⟨_, unbytes_pbytes _, ?_⟩); conv => whnf
            | exact ⟨_, _, rfl, rfl⟩
            | exact rensG_pu _ _ _ _
            | rfl
            | (rw [snap_own rfl (show (pbytes _).length = _ * 1 from by rw [pbytes_length, Nat.mul_one])]); conv => whnf
            | fail
          refine ⟨_, ?_, (ordV v w, j + 1), ⟨⟨by show j + 1 ≤ _; omega, by show j + 1 ≤ _; omega⟩, h2⟩, rfl, by rw [i64_in ((j : Int) + 1) (by omega)]; rfl, rfl⟩
          show l.length - (j + 1) < l.length - j
          omega
        · have h3 := ordL_short (l.drop j) (l'.drop j) (by simp only [List.length_drop]; omega)
          have e : cmpI (l.drop j).length (l'.drop j).length = cmpI l.length l'.length := by
            rw [List.length_drop, List.length_drop, show ((l.length - j : Nat) : Int) = (l.length : Int) - j from by omega, show ((l'.length - j : Nat) : Int) = (l'.length : Int) - j from by omega, cmpI_sub]
          rw [h3, e] at h2
          repeat' first
            | (with_reducible first | refine bo_run ?_ | refine bw_run ?_ | refine bd_run ?_ | refine Br.tt ?_ | refine Br.ff ?_); conv => whnf
            | (with_reducible refine br_not ?_)
            | (with_reducible first | refine br_dec_tt (by assumption) ?_ | refine br_dec_ff (by assumption) ?_ | refine br_dec_tt (by decide) ?_ | refine br_dec_ff (by decide) ?_); conv => whnf
            | (with_reducible refine br_dec_intro (fun _ => ?_) (fun _ => ?_)) <;> conv => whnf
            | (with_reducible first | refine br_beq_tt (by assumption) ?_ | refine br_beq_ff (by assumption) ?_ | refine br_beq_tt (by decide) ?_ | refine br_beq_ff (by decide) ?_); conv => whnf
            | (with_reducible refine br_beq_intro (fun _ => ?_) (fun _ => ?_)) <;> conv => whnf
            | (with_reducible first | refine br_bne_tt (by assumption) ?_ | refine br_bne_ff (by assumption) ?_ | refine br_bne_tt (by decide) ?_ | refine br_bne_ff (by decide) ?_); conv => whnf
            | (with_reducible refine br_bne_intro (fun _ => ?_) (fun _ => ?_)) <;> conv => whnf
            | (with_reducible first | refine br_of_true (by assumption) ?_ | refine br_of_false (by assumption) ?_); conv => whnf
            | (with_reducible refine br_intro (fun _ => ?_) (fun _ => ?_)) <;> conv => whnf
            | (with_reducible refine and_rfl ?_); conv => whnf
            | (refine and_late (fun _ => ?_) (by first | omega | (show _ = _; rfl) | exact trivial | exact ⟨rfl, trivial⟩ | exact ⟨rfl, rfl, trivial⟩ | exact (fun h => by cases h) | exact (fun _ => ⟨rfl, rfl⟩) | exact Nat.le_of_ble_eq_true rfl | (simp only [List.length_map, List.length_append, pbytes, Nat.mul_one, List.length_cons, List.length_nil]; first | done | omega))); conv => whnf
            | (with_reducible refine and_late (fun _ => ?_) ?_); conv => whnf
            | (with_reducible refine vcall_id ?_)
              first
              | (refine call_rel (x := (decide ((l.length : Int) < l'.length), decide ((l.length : Int) > l'.length))) (p := i64 R) rfl trivial (by show i64 _ = _; rw [way_cmp, h2]) (.inl rfl) ?_); conv => whnf
            | (with_reducible refine Both.mk ?_ ?_) <;> conv => whnf
            | (refine ⟨[], _, _, rfl, ?_⟩); conv => whnf
            | (refine ⟨_, rfl, ?_⟩); conv => whnf
            | (refine ⟨_, unbytes_pbytes _, ?_⟩); conv => whnf
            | exact ⟨_, _, rfl, rfl⟩
            | exact rensG_pu _ _ _ _
            | rfl
            | (rw [snap_own rfl (show (pbytes _).length = _ * 1 from by rw [pbytes_length, Nat.mul_one])]); conv => whnf
            | fail
          all_goals first
            | rfl
            | (exfalso; omega)
      · have e : R = y := by rw [← h2]; unfold lx; rw [if_neg hy]
        subst e
        repeat' first
          | (with_reducible first | refine bo_run ?_ | refine bw_run ?_ | refine bd_run ?_ | refine Br.tt ?_ | refine Br.ff ?_); conv => whnf
          | (with_reducible refine br_not ?_)
          | (with_reducible first | refine br_dec_tt (by assumption) ?_ | refine br_dec_ff (by assumption) ?_ | refine br_dec_tt (by decide) ?_ | refine br_dec_ff (by decide) ?_); conv => whnf
          | (with_reducible refine br_dec_intro (fun _ => ?_) (fun _ => ?_)) <;> conv => whnf
          | (with_reducible first | refine br_beq_tt (by assumption) ?_ | refine br_beq_ff (by assumption) ?_ | refine br_beq_tt (by decide) ?_ | refine br_beq_ff (by decide) ?_); conv => whnf
          | (with_reducible refine br_beq_intro (fun _ => ?_) (fun _ => ?_)) <;> conv => whnf
          | (with_reducible first | refine br_bne_tt (by assumption) ?_ | refine br_bne_ff (by assumption) ?_ | refine br_bne_tt (by decide) ?_ | refine br_bne_ff (by decide) ?_); conv => whnf
          | (with_reducible refine br_bne_intro (fun _ => ?_) (fun _ => ?_)) <;> conv => whnf
          | (with_reducible first | refine br_of_true (by assumption) ?_ | refine br_of_false (by assumption) ?_); conv => whnf
          | (with_reducible refine br_intro (fun _ => ?_) (fun _ => ?_)) <;> conv => whnf
          | (with_reducible refine and_rfl ?_); conv => whnf
          | (refine and_late (fun _ => ?_) (by first | omega | (show _ = _; rfl) | exact trivial | exact ⟨rfl, trivial⟩ | exact ⟨rfl, rfl, trivial⟩ | exact (fun h => by cases h) | exact (fun _ => ⟨rfl, rfl⟩) | exact Nat.le_of_ble_eq_true rfl | (simp only [List.length_map, List.length_append, pbytes, Nat.mul_one, List.length_cons, List.length_nil]; first | done | omega))); conv => whnf
          | (with_reducible refine and_late (fun _ => ?_) ?_); conv => whnf
          | (with_reducible refine vcall_id ?_)
            first
            | (refine vcall_inl rfl rfl rfl rfl (Nat.le_of_ble_eq_true rfl) ?_)
          | (with_reducible refine Both.mk ?_ ?_) <;> conv => whnf
          | (refine ⟨[], _, _, rfl, ?_⟩); conv => whnf
          | (refine ⟨_, rfl, ?_⟩); conv => whnf
          | (refine ⟨_, unbytes_pbytes _, ?_⟩); conv => whnf
          | exact ⟨_, _, rfl, rfl⟩
          | exact rensG_pu _ _ _ _
          | rfl
          | (rw [snap_own rfl (show (pbytes _).length = _ * 1 from by rw [pbytes_length, Nat.mul_one])]); conv => whnf
          | fail
        all_goals rfl
theorem con_ref05_Order : Contract Try.prog id_ref05_Order (RelP (fun (x : V × V) => okV x.1 ∧ okV x.2) (fun x => [pvV x.1, pvV x.2]) (fun x => i64 (ordV x.1 x.2))) :=
  (Contract.all con_ref05_Order' 0).pre fun x h => ⟨rkV x.1 + 1, Nat.lt_succ_self _, h⟩
theorem con_law05_ValueOrders : Contract Try.prog id_law05_ValueOrders (RelP (fun ((a, b) : V × V) => okV a ∧ okV b) (fun (a, b) => [pvV a, pvV b]) fun _ => bl true) := by
  refine (code_law05_ValueOrders).pure (Known.cons con_law05_fine (Known.cons con_law05_awake (Known.cons con_value_Order (Known.cons con_ref05_Order Known.nil)))) (by rintro x -; first | exact Nat.le_of_ble_eq_true rfl | (obtain ⟨_, _⟩ := x; exact Nat.le_of_ble_eq_true rfl) | (obtain ⟨_, _, _⟩ := x; exact Nat.le_of_ble_eq_true rfl) | (obtain ⟨_, _, _, _⟩ := x; exact Nat.le_of_ble_eq_true rfl) | (obtain ⟨_, _, _, _, _⟩ := x; exact Nat.le_of_ble_eq_true rfl) | (obtain ⟨_, _, _, _, _, _⟩ := x; exact Nat.le_of_ble_eq_true rfl) | (obtain ⟨_, _, _, _, _, _, _⟩ := x; exact Nat.le_of_ble_eq_true rfl) | (obtain ⟨_, _, _, _, _, _, _, _⟩ := x; exact Nat.le_of_ble_eq_true rfl)) ?_
  rintro ⟨a, b⟩ ⟨ha, hb⟩
  dsimp only at ha hb ⊢
  obtain ⟨ka, ia, ba, ta, la⟩ := a
  obtain ⟨kb, ib, bb, tb, lb⟩ := b
  have pa := pvV_mk ka ia ba ta la
  have pb := pvV_mk kb ib bb tb lb
  simp only [pa, pb]
  generalize hA : V.mk ka ia ba ta la = a at *
  generalize hB : V.mk kb ib bb tb lb = b at *
  have fa : ∀ {σ Q}, Q (.pu (bl (fineV a))) σ → VCall (RelP (fun (v : V) => okV v) (fun v => [pvV v]) (fun v => bl (fineV v))) [] [.pu (.agg [i64 ka, i64 ia, u64 ba, str ta, .sl la.length (cellsL la)])] σ Q := fun k => call_rel (x := a) (by rw [pa]; rfl) ha rfl (.inl rfl) k
  have fb : ∀ {σ Q}, Q (.pu (bl (fineV b))) σ → VCall (RelP (fun (v : V) => okV v) (fun v => [pvV v]) (fun v => bl (fineV v))) [] [.pu (.agg [i64 kb, i64 ib, u64 bb, str tb, .sl lb.length (cellsL lb)])] σ Q := fun k => call_rel (x := b) (by rw [pb]; rfl) hb rfl (.inl rfl) k
  generalize hab : ordV a b = ab
  have r1 : ab = ab := rfl
  repeat' first
    | (with_reducible first | refine bo_run ?_ | refine bw_run ?_ | refine bd_run ?_ | refine Br.tt ?_ | refine Br.ff ?_); conv => whnf
    | (with_reducible refine br_not ?_)
    | (with_reducible first | refine br_dec_tt (by assumption) ?_ | refine br_dec_ff (by assumption) ?_ | refine br_dec_tt (by decide) ?_ | refine br_dec_ff (by decide) ?_); conv => whnf
    | (with_reducible refine br_dec_intro (fun _ => ?_) (fun _ => ?_)) <;> conv => whnf
    | (with_reducible first | refine br_beq_tt (by assumption) ?_ | refine br_beq_ff (by assumption) ?_ | refine br_beq_tt (by decide) ?_ | refine br_beq_ff (by decide) ?_); conv => whnf
    | (with_reducible refine br_beq_intro (fun _ => ?_) (fun _ => ?_)) <;> conv => whnf
    | (with_reducible first | refine br_bne_tt (by assumption) ?_ | refine br_bne_ff (by assumption) ?_ | refine br_bne_tt (by decide) ?_ | refine br_bne_ff (by decide) ?_); conv => whnf
    | (with_reducible refine br_bne_intro (fun _ => ?_) (fun _ => ?_)) <;> conv => whnf
    | (with_reducible first | refine br_of_true (by assumption) ?_ | refine br_of_false (by assumption) ?_); conv => whnf
    | (with_reducible refine br_intro (fun _ => ?_) (fun _ => ?_)) <;> conv => whnf
    | (with_reducible refine and_rfl ?_); conv => whnf
    | (refine and_late (fun _ => ?_) (by first | omega | (show _ = _; rfl) | exact trivial | exact ⟨rfl, trivial⟩ | exact ⟨rfl, rfl, trivial⟩ | exact (fun h => by cases h) | exact (fun _ => ⟨rfl, rfl⟩) | exact Nat.le_of_ble_eq_true rfl | (simp only [List.length_map, List.length_append, pbytes, Nat.mul_one, List.length_cons, List.length_nil]; first | done | omega))); conv => whnf
    | (with_reducible refine and_late (fun _ => ?_) ?_); conv => whnf
    | (with_reducible refine vcall_id ?_)
      first
      | (refine fa ?_); conv => whnf
      | (refine fb ?_); conv => whnf
      | (refine call_rel (x := ()) (p := bl true) rfl trivial rfl (.inl rfl) ?_); conv => whnf
      | (refine call_rel (x := (a, b)) (p := i64 ab) (by rw [pa, pb]; rfl) ⟨ha, hb⟩ (by show i64 _ = _; rw [hab]) (.inl rfl) ?_); conv => whnf
    | (with_reducible refine Both.mk ?_ ?_) <;> conv => whnf
    | (refine ⟨[], _, _, rfl, ?_⟩); conv => whnf
    | (refine ⟨_, rfl, ?_⟩); conv => whnf
    | (refine ⟨_, unbytes_pbytes _, ?_⟩); conv => whnf
    | exact ⟨_, _, rfl, rfl⟩
    | exact rensG_pu _ _ _ _
    | rfl
    | (rw [snap_own rfl (show (pbytes _).length = _ * 1 from by rw [pbytes_length, Nat.mul_one])]); conv => whnf
    | fail
  all_goals first
    | trivial
    | rfl
end Go.Proofs.Ytlodbaikbgbhjaa
