/- ValueTotal: the order is one, and of values that may be tells apart what is not the same. -/
import Derived.Test.YtlodbaikbgbhjaaValueA
import Derived.Test.YtlodbaikbgbhjaaValueT
set_option linter.unusedVariables false
set_option linter.unusedSimpArgs false
set_option maxRecDepth 20000
namespace Go.Proofs.Ytlodbaikbgbhjaa
open Go Go.Vm Go.IntWalk

theorem con_value_Float : Contract Try.prog id_value_Float (RelP (fun (n : Int) => True) (fun n => [u64 n]) (fun n => pvV (.mk 2 0 (canonI n) ⟨#[]⟩ []))) := by
  refine (code_value_Float).pureL (Known.cons con_floats_Canon Known.nil) (by rintro x -; first | exact Nat.le_of_ble_eq_true rfl | (obtain ⟨_, _⟩ := x; exact Nat.le_of_ble_eq_true rfl) | (obtain ⟨_, _, _⟩ := x; exact Nat.le_of_ble_eq_true rfl) | (obtain ⟨_, _, _, _⟩ := x; exact Nat.le_of_ble_eq_true rfl) | (obtain ⟨_, _, _, _, _⟩ := x; exact Nat.le_of_ble_eq_true rfl) | (obtain ⟨_, _, _, _, _, _⟩ := x; exact Nat.le_of_ble_eq_true rfl) | (obtain ⟨_, _, _, _, _, _, _⟩ := x; exact Nat.le_of_ble_eq_true rfl) | (obtain ⟨_, _, _, _, _, _, _, _⟩ := x; exact Nat.le_of_ble_eq_true rfl)) ?_
  rintro n -
  repeat' first
    | (with_reducible refine bo_run ?_); conv => whnf
    | (with_reducible refine bw_run ?_); conv => whnf
    | (with_reducible refine bd_run ?_); conv => whnf
    | (with_reducible refine Br.tt ?_); conv => whnf
    | (with_reducible refine Br.ff ?_); conv => whnf
    | (with_reducible refine br_not ?_)
    | (with_reducible refine br_dec_tt (by assumption) ?_); conv => whnf
    | (with_reducible refine br_dec_ff (by assumption) ?_); conv => whnf
    | (with_reducible refine br_dec_tt (by decide) ?_); conv => whnf
    | (with_reducible refine br_dec_ff (by decide) ?_); conv => whnf
    | (with_reducible refine br_dec_intro (fun _ => ?_) (fun _ => ?_)) <;> conv => whnf
    | (with_reducible refine br_beq_tt (by assumption) ?_); conv => whnf
    | (with_reducible refine br_beq_ff (by assumption) ?_); conv => whnf
    | (with_reducible refine br_beq_tt (by decide) ?_); conv => whnf
    | (with_reducible refine br_beq_ff (by decide) ?_); conv => whnf
    | (with_reducible refine br_beq_intro (fun _ => ?_) (fun _ => ?_)) <;> conv => whnf
    | (with_reducible refine br_bne_tt (by assumption) ?_); conv => whnf
    | (with_reducible refine br_bne_ff (by assumption) ?_); conv => whnf
    | (with_reducible refine br_bne_tt (by decide) ?_); conv => whnf
    | (with_reducible refine br_bne_ff (by decide) ?_); conv => whnf
    | (with_reducible refine br_bne_intro (fun _ => ?_) (fun _ => ?_)) <;> conv => whnf
    | (with_reducible refine br_of_true (by assumption) ?_); conv => whnf
    | (with_reducible refine br_of_false (by assumption) ?_); conv => whnf
    | (with_reducible refine br_intro (fun _ => ?_) (fun _ => ?_)) <;> conv => whnf
    | (with_reducible refine and_rfl ?_); conv => whnf
    | (refine and_late (fun _ => ?_) (by first | omega | (show _ = _; rfl) | exact trivial | exact ⟨rfl, trivial⟩ | exact ⟨rfl, rfl, trivial⟩ | exact (fun h => by cases h) | exact (fun _ => ⟨rfl, rfl⟩) | exact Nat.le_of_ble_eq_true rfl | (simp only [List.length_map, List.length_append, pbytes, Nat.mul_one, List.length_cons, List.length_nil]; done) | (simp only [List.length_map, List.length_append, pbytes, Nat.mul_one, List.length_cons, List.length_nil]; omega))); conv => whnf
    | (with_reducible refine and_late (fun _ => ?_) ?_); conv => whnf
    | (with_reducible refine vcall_id ?_)
      first
      | (refine vcall_inl rfl rfl rfl rfl (Nat.le_of_ble_eq_true rfl) ?_)
    | (with_reducible refine Both.mk ?_ ?_) <;> conv => whnf
    | (refine ⟨[], _, _, rfl, ?_⟩); conv => whnf
    | (refine ⟨_, rfl, ?_⟩); conv => whnf
    | (refine ⟨_, unbytes_pbytes _, ?_⟩); conv => whnf
    | exact ⟨_, _, rfl, rfl⟩
    | exact rensG_pu _ _ _ _
    | rfl
    | (rw [snap_own rfl (show (pbytes _).length = _ * 1 from by rw [pbytes_length, Nat.mul_one])]); conv => whnf
    | fail
  refine call_rel (x := n) (p := u64 (canonI n)) rfl trivial rfl (.inl rfl) ?_
  conv => whnf
  repeat' first
    | (with_reducible refine bo_run ?_); conv => whnf
    | (with_reducible refine bw_run ?_); conv => whnf
    | (with_reducible refine bd_run ?_); conv => whnf
    | (with_reducible refine Br.tt ?_); conv => whnf
    | (with_reducible refine Br.ff ?_); conv => whnf
    | (with_reducible refine br_not ?_)
    | (with_reducible refine br_dec_tt (by assumption) ?_); conv => whnf
    | (with_reducible refine br_dec_ff (by assumption) ?_); conv => whnf
    | (with_reducible refine br_dec_tt (by decide) ?_); conv => whnf
    | (with_reducible refine br_dec_ff (by decide) ?_); conv => whnf
    | (with_reducible refine br_dec_intro (fun _ => ?_) (fun _ => ?_)) <;> conv => whnf
    | (with_reducible refine br_beq_tt (by assumption) ?_); conv => whnf
    | (with_reducible refine br_beq_ff (by assumption) ?_); conv => whnf
    | (with_reducible refine br_beq_tt (by decide) ?_); conv => whnf
    | (with_reducible refine br_beq_ff (by decide) ?_); conv => whnf
    | (with_reducible refine br_beq_intro (fun _ => ?_) (fun _ => ?_)) <;> conv => whnf
    | (with_reducible refine br_bne_tt (by assumption) ?_); conv => whnf
    | (with_reducible refine br_bne_ff (by assumption) ?_); conv => whnf
    | (with_reducible refine br_bne_tt (by decide) ?_); conv => whnf
    | (with_reducible refine br_bne_ff (by decide) ?_); conv => whnf
    | (with_reducible refine br_bne_intro (fun _ => ?_) (fun _ => ?_)) <;> conv => whnf
    | (with_reducible refine br_of_true (by assumption) ?_); conv => whnf
    | (with_reducible refine br_of_false (by assumption) ?_); conv => whnf
    | (with_reducible refine br_intro (fun _ => ?_) (fun _ => ?_)) <;> conv => whnf
    | (with_reducible refine and_rfl ?_); conv => whnf
    | (refine and_late (fun _ => ?_) (by first | omega | (show _ = _; rfl) | exact trivial | exact ⟨rfl, trivial⟩ | exact ⟨rfl, rfl, trivial⟩ | exact (fun h => by cases h) | exact (fun _ => ⟨rfl, rfl⟩) | exact Nat.le_of_ble_eq_true rfl | (simp only [List.length_map, List.length_append, pbytes, Nat.mul_one, List.length_cons, List.length_nil]; done) | (simp only [List.length_map, List.length_append, pbytes, Nat.mul_one, List.length_cons, List.length_nil]; omega))); conv => whnf
    | (with_reducible refine and_late (fun _ => ?_) ?_); conv => whnf
    | (with_reducible refine vcall_id ?_)
      first
      | (refine vcall_inl rfl rfl rfl rfl (Nat.le_of_ble_eq_true rfl) ?_)
    | (with_reducible refine Both.mk ?_ ?_) <;> conv => whnf
    | (refine ⟨[], _, _, rfl, ?_⟩); conv => whnf
    | (refine ⟨_, rfl, ?_⟩); conv => whnf
    | (refine ⟨_, unbytes_pbytes _, ?_⟩); conv => whnf
    | exact ⟨_, _, rfl, rfl⟩
    | exact rensG_pu _ _ _ _
    | rfl
    | (rw [snap_own rfl (show (pbytes _).length = _ * 1 from by rw [pbytes_length, Nat.mul_one])]); conv => whnf
    | fail
  rw [pvV_nil]
  exact .agg (.cons (.refl _) (.cons (.refl _) (.cons (.refl _) (.cons (.refl _) (.cons .nil .nil)))))
set_option maxHeartbeats 4000000 in
theorem con_law05_ValueTotal : Contract Try.prog id_law05_ValueTotal (RelP (fun ((a, b, c) : V × V × V) => okV a ∧ okV b ∧ okV c) (fun (a, b, c) => [pvV a, pvV b, pvV c]) fun _ => bl true) := by
  refine (code_law05_ValueTotal).pure (Known.cons con_law05_fine (Known.cons con_law05_awake (Known.cons con_value_Order (Known.cons con_value_Check (Known.cons con_value_Same (Known.cons con_value_Float (Known.cons con_floats_Canon Known.nil))))))) (by rintro x -; first | exact Nat.le_of_ble_eq_true rfl | (obtain ⟨_, _⟩ := x; exact Nat.le_of_ble_eq_true rfl) | (obtain ⟨_, _, _⟩ := x; exact Nat.le_of_ble_eq_true rfl) | (obtain ⟨_, _, _, _⟩ := x; exact Nat.le_of_ble_eq_true rfl) | (obtain ⟨_, _, _, _, _⟩ := x; exact Nat.le_of_ble_eq_true rfl) | (obtain ⟨_, _, _, _, _, _⟩ := x; exact Nat.le_of_ble_eq_true rfl) | (obtain ⟨_, _, _, _, _, _, _⟩ := x; exact Nat.le_of_ble_eq_true rfl) | (obtain ⟨_, _, _, _, _, _, _, _⟩ := x; exact Nat.le_of_ble_eq_true rfl)) ?_
  rintro ⟨a, b, c⟩ ⟨ha, hb, hc⟩
  dsimp only at ha hb hc ⊢
  have hsame : checkV a = 0 → checkV b = 0 → ((ordV a b == 0) == sameV a b) = true := fun h k => by
    have := ordV_same a b 4 4 ha hb (checkV_ok h).1 (checkV_ok k).1
    rw [beq_iff_eq, Bool.eq_iff_iff, beq_iff_eq]
    exact this
  have hq := ordV_Q a b c
  have hr := ordV_range a b
  have hr2 := ordV_range b a
  have hanti := ordV_anti a b
  have e1 : ordV a b = IntKind.i64.wrap (0 - ordV b a) := by rw [i64_in _ (by omega)]; omega
  obtain ⟨ka, ia, ba, ta, la⟩ := a
  obtain ⟨kb, ib, bb, tb, lb⟩ := b
  obtain ⟨kc, ic, bc, tc, lc⟩ := c
  have pa := pvV_mk ka ia ba ta la
  have pb := pvV_mk kb ib bb tb lb
  have pc := pvV_mk kc ic bc tc lc
  simp only [pa, pb, pc]
  generalize hA : V.mk ka ia ba ta la = a at *
  generalize hB : V.mk kb ib bb tb lb = b at *
  generalize hC : V.mk kc ic bc tc lc = c at *
  have fa : ∀ {σ Q}, Q (.pu (bl (fineV a))) σ → VCall (RelP (fun (v : V) => okV v) (fun v => [pvV v]) (fun v => bl (fineV v))) [] [.pu (.agg [i64 ka, i64 ia, u64 ba, str ta, .sl la.length (cellsL la)])] σ Q := fun k => call_rel (x := a) (by rw [pa]; rfl) ha rfl (.inl rfl) k
  have fb : ∀ {σ Q}, Q (.pu (bl (fineV b))) σ → VCall (RelP (fun (v : V) => okV v) (fun v => [pvV v]) (fun v => bl (fineV v))) [] [.pu (.agg [i64 kb, i64 ib, u64 bb, str tb, .sl lb.length (cellsL lb)])] σ Q := fun k => call_rel (x := b) (by rw [pb]; rfl) hb rfl (.inl rfl) k
  have fc : ∀ {σ Q}, Q (.pu (bl (fineV c))) σ → VCall (RelP (fun (v : V) => okV v) (fun v => [pvV v]) (fun v => bl (fineV v))) [] [.pu (.agg [i64 kc, i64 ic, u64 bc, str tc, .sl lc.length (cellsL lc)])] σ Q := fun k => call_rel (x := c) (by rw [pc]; rfl) hc rfl (.inl rfl) k
  have r1 : canonI ba = canonI ba := rfl
  generalize hab : ordV a b = ab at *
  generalize hbc : ordV b c = bc' at *
  generalize hac : ordV a c = ac at *
  generalize hba : ordV b a = ba' at *
  unfold Q3 at hq
  repeat' first
    | (with_reducible refine bo_run ?_); conv => whnf
    | (with_reducible refine bw_run ?_); conv => whnf
    | (with_reducible refine bd_run ?_); conv => whnf
    | (with_reducible refine Br.tt ?_); conv => whnf
    | (with_reducible refine Br.ff ?_); conv => whnf
    | (with_reducible refine br_not ?_)
    | (with_reducible refine br_dec_tt (by assumption) ?_); conv => whnf
    | (with_reducible refine br_dec_ff (by assumption) ?_); conv => whnf
    | (with_reducible refine br_dec_tt (by decide) ?_); conv => whnf
    | (with_reducible refine br_dec_ff (by decide) ?_); conv => whnf
    | (with_reducible refine br_dec_intro (fun _ => ?_) (fun _ => ?_)) <;> conv => whnf
    | (with_reducible refine br_beq_tt (by assumption) ?_); conv => whnf
    | (with_reducible refine br_beq_ff (by assumption) ?_); conv => whnf
    | (with_reducible refine br_beq_tt (by decide) ?_); conv => whnf
    | (with_reducible refine br_beq_ff (by decide) ?_); conv => whnf
    | (with_reducible refine br_beq_intro (fun _ => ?_) (fun _ => ?_)) <;> conv => whnf
    | (with_reducible refine br_bne_tt (by assumption) ?_); conv => whnf
    | (with_reducible refine br_bne_ff (by assumption) ?_); conv => whnf
    | (with_reducible refine br_bne_tt (by decide) ?_); conv => whnf
    | (with_reducible refine br_bne_ff (by decide) ?_); conv => whnf
    | (with_reducible refine br_bne_intro (fun _ => ?_) (fun _ => ?_)) <;> conv => whnf
    | (with_reducible refine br_of_true (by assumption) ?_); conv => whnf
    | (with_reducible refine br_of_false (by assumption) ?_); conv => whnf
    | (with_reducible refine br_intro (fun _ => ?_) (fun _ => ?_)) <;> conv => whnf
    | (with_reducible refine and_rfl ?_); conv => whnf
    | (refine and_late (fun _ => ?_) (by first | omega | (show _ = _; rfl) | exact trivial | exact ⟨rfl, trivial⟩ | exact ⟨rfl, rfl, trivial⟩ | exact (fun h => by cases h) | exact (fun _ => ⟨rfl, rfl⟩) | exact Nat.le_of_ble_eq_true rfl | (simp only [List.length_map, List.length_append, pbytes, Nat.mul_one, List.length_cons, List.length_nil]; done) | (simp only [List.length_map, List.length_append, pbytes, Nat.mul_one, List.length_cons, List.length_nil]; omega))); conv => whnf
    | (with_reducible refine and_late (fun _ => ?_) ?_); conv => whnf
    | (with_reducible refine vcall_id ?_)
      first
      | (refine fa ?_); conv => whnf
      | (refine fb ?_); conv => whnf
      | (refine fc ?_); conv => whnf
      | (refine call_rel (x := ()) (p := bl true) rfl trivial rfl (.inl rfl) ?_); conv => whnf
      | (refine call_rel (x := (a, b)) (p := i64 ab) (by rw [pa, pb]; rfl) ⟨ha, hb⟩ (by show i64 _ = _; rw [hab]) (.inl rfl) ?_); conv => whnf
      | (refine call_rel (x := (b, c)) (p := i64 bc') (by rw [pb, pc]; rfl) ⟨hb, hc⟩ (by show i64 _ = _; rw [hbc]) (.inl rfl) ?_); conv => whnf
      | (refine call_rel (x := (a, c)) (p := i64 ac) (by rw [pa, pc]; rfl) ⟨ha, hc⟩ (by show i64 _ = _; rw [hac]) (.inl rfl) ?_); conv => whnf
      | (refine call_rel (x := (b, a)) (p := i64 ba') (by rw [pb, pa]; rfl) ⟨hb, ha⟩ (by show i64 _ = _; rw [hba]) (.inl rfl) ?_); conv => whnf
      | (refine call_subP a (p := i64 (checkV a)) rfl (by rw [pa]; exact LEs.refl _) ha rfl (.inl rfl) ?_); conv => whnf
      | (refine call_subP b (p := i64 (checkV b)) rfl (by rw [pb]; exact LEs.refl _) hb rfl (.inl rfl) ?_); conv => whnf
      | (refine call_subP (a, b) (p := bl (sameV a b)) rfl (by rw [pa, pb]; exact LEs.refl _) ha rfl (.inl rfl) ?_); conv => whnf
      | (refine call_rel (x := ba) (p := .agg [i64 2, i64 0, u64 (canonI ba), str ⟨#[]⟩, .sl 0 []]) rfl trivial pvV_nil (.inl rfl) ?_); conv => whnf
      | (refine call_rel (x := canonI ba) (p := u64 (canonI ba)) rfl trivial (by show u64 _ = _; rw [canonI_idem]) (.inl rfl) ?_); conv => whnf
      | (refine call_rel (x := ba) (p := u64 (canonI ba)) rfl trivial rfl (.inl rfl) ?_); conv => whnf
    | (with_reducible refine Both.mk ?_ ?_) <;> conv => whnf
    | (refine ⟨[], _, _, rfl, ?_⟩); conv => whnf
    | (refine ⟨_, rfl, ?_⟩); conv => whnf
    | (refine ⟨_, unbytes_pbytes _, ?_⟩); conv => whnf
    | exact ⟨_, _, rfl, rfl⟩
    | exact rensG_pu _ _ _ _
    | rfl
    | (rw [snap_own rfl (show (pbytes _).length = _ * 1 from by rw [pbytes_length, Nat.mul_one])]); conv => whnf
    | fail
  all_goals first
    | trivial
    | rfl
    | (exfalso; omega)
    | (have := hsame (by assumption) (by assumption); simp_all; done)
end Go.Proofs.Ytlodbaikbgbhjaa
