/- value.Read, value.Parse. -/
import Derived.Test.YtlodbaikbgbhjaaValueZ
set_option linter.unusedVariables false
set_option linter.unusedSimpArgs false
set_option maxRecDepth 20000
namespace Go.Proofs.Ytlodbaikbgbhjaa
open Go Go.Vm Go.IntWalk

def readT1 (r : R) : R := if (r.1.length : Int) - (readV 4 r).2.1.length > 1000 then rFail 5 (readV 4 r).2 else (readV 4 r).2
def readT (r : R) : V × R := (if (readT1 r).2 = 0 then (readV 4 r).1 else zeroV, readT1 r)
theorem readT1_ok {r : R} (h : okR r) : okR (readT1 r) := by
  unfold readT1
  split
  · exact okR_fail (readV_okR 4 h)
  · exact readV_okR 4 h
theorem con_value_Read : Contract Try.prog id_value_Read (RelM ty_pack_Reader (fun (r : R) => okR r) (fun r => rc r) (fun _ => []) (fun r => pvV (readT r).1) (fun r => rc (readT r).2)) := by
  refine (code_value_Read).methL (Known.cons con_pack_Reader_Left (Known.cons con_value_read (Known.cons con_pack_Reader_Fail (Known.cons con_pack_Reader_Err Known.nil)))) (by rintro x -; first | exact Nat.le_of_ble_eq_true rfl | (obtain ⟨_, _⟩ := x; exact Nat.le_of_ble_eq_true rfl) | (obtain ⟨_, _, _⟩ := x; exact Nat.le_of_ble_eq_true rfl) | (obtain ⟨_, _, _, _⟩ := x; exact Nat.le_of_ble_eq_true rfl) | (obtain ⟨_, _, _, _, _⟩ := x; exact Nat.le_of_ble_eq_true rfl) | (obtain ⟨_, _, _, _, _, _⟩ := x; exact Nat.le_of_ble_eq_true rfl) | (obtain ⟨_, _, _, _, _, _, _⟩ := x; exact Nat.le_of_ble_eq_true rfl) | (obtain ⟨_, _, _, _, _, _, _, _⟩ := x; exact Nat.le_of_ble_eq_true rfl)) ?_
  rintro r g hr
  have h1 := readV_okR 4 hr
  have h2 := readT1_ok hr
  unfold readT
  obtain ⟨⟨k, i, b, s, l⟩, hv⟩ : ∃ v, (readV 4 r).1 = v := ⟨_, rfl⟩
  have pv := pvV_mk k i b s l
  obtain ⟨r1, hr1⟩ : ∃ r1, (readV 4 r).2 = r1 := ⟨_, rfl⟩
  obtain ⟨r2, hr2⟩ : ∃ r2, readT1 r = r2 := ⟨_, rfl⟩
  have hr3 := hr2
  unfold readT1 at hr3
  rw [hr1] at h1 hr3
  rw [hr2] at h2
  rw [hv, hr2]
  dsimp only
  have w1 : IntKind.i64.wrap ((r.1.length : Int) - r1.1.length) = (r.1.length : Int) - r1.1.length := i64_in _ (by have := hr.2.1; have := h1.2.1; omega)
  by_cases q : (r.1.length : Int) - r1.1.length > 1000
  · rw [if_pos q] at hr3
    have q2 : ¬ r2.2 = 0 := by rw [← hr3]; exact rFail_ne (by decide)
    have q1 : IntKind.i64.wrap ((r.1.length : Int) - r1.1.length) > 1000 := by rw [w1]; exact q
    rw [if_neg q2, show pvV zeroV = .agg [i64 0, i64 0, u64 0, str ⟨#[]⟩, .sl 0 []] from pvV_nil]
    repeat' first
      | (with_reducible first | refine bo_run ?_ | refine bw_run ?_ | refine bd_run ?_ | refine Br.tt ?_ | refine Br.ff ?_); conv => whnf
      | (with_reducible refine br_not ?_)
      | (with_reducible first | refine br_dec_tt (by assumption) ?_ | refine br_dec_ff (by assumption) ?_ | refine br_dec_tt (by decide) ?_ | refine br_dec_ff (by decide) ?_); conv => whnf
      | (with_reducible refine br_dec_intro (fun _ => ?_) (fun _ => ?_)) <;> conv => whnf
      | (with_reducible first | refine br_beq_tt (by assumption) ?_ | refine br_beq_ff (by assumption) ?_ | refine br_beq_tt (by decide) ?_ | refine br_beq_ff (by decide) ?_); conv => whnf
      | (with_reducible refine br_beq_intro (fun _ => ?_) (fun _ => ?_)) <;> conv => whnf
      | (with_reducible first | refine br_bne_tt (by assumption) ?_ | refine br_bne_ff (by assumption) ?_ | refine br_bne_tt (by decide) ?_ | refine br_bne_ff (by decide) ?_); conv => whnf
      | (with_reducible refine br_bne_intro (fun _ => ?_) (fun _ => ?_)) <;> conv => whnf
      | (with_reducible first | refine br_of_true (by assumption) ?_ | refine br_of_false (by assumption) ?_); conv => whnf
      | (with_reducible refine br_intro (fun _ => ?_) (fun _ => ?_)) <;> conv => whnf
      | (with_reducible refine and_rfl ?_); conv => whnf
      | (refine and_late (fun _ => ?_) (by first | omega | (show _ = _; rfl) | exact trivial | exact ⟨rfl, trivial⟩ | exact ⟨rfl, rfl, trivial⟩ | exact (fun h => by cases h) | exact (fun _ => ⟨rfl, rfl⟩) | exact Nat.le_of_ble_eq_true rfl | (simp only [List.length_map, List.length_append, pbytes, Nat.mul_one, List.length_cons, List.length_nil]; first | done | omega))); conv => whnf
      | (with_reducible refine and_late (fun _ => ?_) ?_); conv => whnf
      | (with_reducible refine vcall_id ?_)
        first
        | (refine call_relM (x := r) (p := i64 r.1.length) (o := rc r) rfl rfl hr rfl rfl ?_); conv => whnf
        | (refine call_relM (x := r) (p := .agg [i64 k, i64 i, u64 b, str s, .sl l.length (cellsL l)]) (o := rc r1) rfl rfl hr (by show pvV _ = _; rw [hv, pv]) (by show rc _ = _; rw [hr1]) ?_); conv => whnf
        | (refine call_relM (x := r1) (p := i64 r1.1.length) (o := rc r1) rfl rfl h1 rfl rfl ?_); conv => whnf
        | (refine call_relM (x := (r1, 5)) (p := .tup []) (o := rc r2) rfl rfl trivial rfl (by show rc _ = _; rw [hr3]) ?_); conv => whnf
        | (refine call_relM (x := r2) (p := i64 r2.2) (o := rc r2) rfl rfl trivial rfl rfl ?_); conv => whnf
      | (with_reducible refine Both.mk ?_ ?_) <;> conv => whnf
      | (refine ⟨[], _, _, rfl, ?_⟩); conv => whnf
      | (refine ⟨_, rfl, ?_⟩); conv => whnf
      | (refine ⟨_, unbytes_pbytes _, ?_⟩); conv => whnf
      | exact ⟨_, _, rfl, rfl⟩
      | exact rensG_pu _ _ _ _
      | rfl
      | (rw [snap_own rfl (show (pbytes _).length = _ * 1 from by rw [pbytes_length, Nat.mul_one])]); conv => whnf
      | fail
    all_goals exact le_nilV
  · rw [if_neg q] at hr3
    subst hr3
    have q1 : ¬ IntKind.i64.wrap ((r.1.length : Int) - r1.1.length) > 1000 := by rw [w1]; exact q
    by_cases q2 : r1.2 = 0
    · rw [if_pos q2, pv]
      repeat' first
        | (with_reducible first | refine bo_run ?_ | refine bw_run ?_ | refine bd_run ?_ | refine Br.tt ?_ | refine Br.ff ?_); conv => whnf
        | (with_reducible refine br_not ?_)
        | (with_reducible first | refine br_dec_tt (by assumption) ?_ | refine br_dec_ff (by assumption) ?_ | refine br_dec_tt (by decide) ?_ | refine br_dec_ff (by decide) ?_); conv => whnf
        | (with_reducible refine br_dec_intro (fun _ => ?_) (fun _ => ?_)) <;> conv => whnf
        | (with_reducible first | refine br_beq_tt (by assumption) ?_ | refine br_beq_ff (by assumption) ?_ | refine br_beq_tt (by decide) ?_ | refine br_beq_ff (by decide) ?_); conv => whnf
        | (with_reducible refine br_beq_intro (fun _ => ?_) (fun _ => ?_)) <;> conv => whnf
        | (with_reducible first | refine br_bne_tt (by assumption) ?_ | refine br_bne_ff (by assumption) ?_ | refine br_bne_tt (by decide) ?_ | refine br_bne_ff (by decide) ?_); conv => whnf
        | (with_reducible refine br_bne_intro (fun _ => ?_) (fun _ => ?_)) <;> conv => whnf
        | (with_reducible first | refine br_of_true (by assumption) ?_ | refine br_of_false (by assumption) ?_); conv => whnf
        | (with_reducible refine br_intro (fun _ => ?_) (fun _ => ?_)) <;> conv => whnf
        | (with_reducible refine and_rfl ?_); conv => whnf
        | (refine and_late (fun _ => ?_) (by first | omega | (show _ = _; rfl) | exact trivial | exact ⟨rfl, trivial⟩ | exact ⟨rfl, rfl, trivial⟩ | exact (fun h => by cases h) | exact (fun _ => ⟨rfl, rfl⟩) | exact Nat.le_of_ble_eq_true rfl | (simp only [List.length_map, List.length_append, pbytes, Nat.mul_one, List.length_cons, List.length_nil]; first | done | omega))); conv => whnf
        | (with_reducible refine and_late (fun _ => ?_) ?_); conv => whnf
        | (with_reducible refine vcall_id ?_)
          first
          | (refine call_relM (x := r) (p := i64 r.1.length) (o := rc r) rfl rfl hr rfl rfl ?_); conv => whnf
          | (refine call_relM (x := r) (p := .agg [i64 k, i64 i, u64 b, str s, .sl l.length (cellsL l)]) (o := rc r1) rfl rfl hr (by show pvV _ = _; rw [hv, pv]) (by show rc _ = _; rw [hr1]) ?_); conv => whnf
          | (refine call_relM (x := r1) (p := i64 r1.1.length) (o := rc r1) rfl rfl h1 rfl rfl ?_); conv => whnf
          | (refine call_relM (x := r1) (p := i64 r1.2) (o := rc r1) rfl rfl trivial rfl rfl ?_); conv => whnf
        | (with_reducible refine Both.mk ?_ ?_) <;> conv => whnf
        | (refine ⟨[], _, _, rfl, ?_⟩); conv => whnf
        | (refine ⟨_, rfl, ?_⟩); conv => whnf
        | (refine ⟨_, unbytes_pbytes _, ?_⟩); conv => whnf
        | exact ⟨_, _, rfl, rfl⟩
        | exact rensG_pu _ _ _ _
        | rfl
        | (rw [snap_own rfl (show (pbytes _).length = _ * 1 from by rw [pbytes_length, Nat.mul_one])]); conv => whnf
        | fail
      all_goals exact .refl _
    · rw [if_neg q2, show pvV zeroV = .agg [i64 0, i64 0, u64 0, str ⟨#[]⟩, .sl 0 []] from pvV_nil]
      repeat' first
        | (with_reducible first | refine bo_run ?_ | refine bw_run ?_ | refine bd_run ?_ | refine Br.tt ?_ | refine Br.ff ?_); conv => whnf
        | (with_reducible refine br_not ?_)
        | (with_reducible first | refine br_dec_tt (by assumption) ?_ | refine br_dec_ff (by assumption) ?_ | refine br_dec_tt (by decide) ?_ | refine br_dec_ff (by decide) ?_); conv => whnf
        | (with_reducible refine br_dec_intro (fun _ => ?_) (fun _ => ?_)) <;> conv => whnf
        | (with_reducible first | refine br_beq_tt (by assumption) ?_ | refine br_beq_ff (by assumption) ?_ | refine br_beq_tt (by decide) ?_ | refine br_beq_ff (by decide) ?_); conv => whnf
        | (with_reducible refine br_beq_intro (fun _ => ?_) (fun _ => ?_)) <;> conv => whnf
        | (with_reducible first | refine br_bne_tt (by assumption) ?_ | refine br_bne_ff (by assumption) ?_ | refine br_bne_tt (by decide) ?_ | refine br_bne_ff (by decide) ?_); conv => whnf
        | (with_reducible refine br_bne_intro (fun _ => ?_) (fun _ => ?_)) <;> conv => whnf
        | (with_reducible first | refine br_of_true (by assumption) ?_ | refine br_of_false (by assumption) ?_); conv => whnf
        | (with_reducible refine br_intro (fun _ => ?_) (fun _ => ?_)) <;> conv => whnf
        | (with_reducible refine and_rfl ?_); conv => whnf
        | (refine and_late (fun _ => ?_) (by first | omega | (show _ = _; rfl) | exact trivial | exact ⟨rfl, trivial⟩ | exact ⟨rfl, rfl, trivial⟩ | exact (fun h => by cases h) | exact (fun _ => ⟨rfl, rfl⟩) | exact Nat.le_of_ble_eq_true rfl | (simp only [List.length_map, List.length_append, pbytes, Nat.mul_one, List.length_cons, List.length_nil]; first | done | omega))); conv => whnf
        | (with_reducible refine and_late (fun _ => ?_) ?_); conv => whnf
        | (with_reducible refine vcall_id ?_)
          first
          | (refine call_relM (x := r) (p := i64 r.1.length) (o := rc r) rfl rfl hr rfl rfl ?_); conv => whnf
          | (refine call_relM (x := r) (p := .agg [i64 k, i64 i, u64 b, str s, .sl l.length (cellsL l)]) (o := rc r1) rfl rfl hr (by show pvV _ = _; rw [hv, pv]) (by show rc _ = _; rw [hr1]) ?_); conv => whnf
          | (refine call_relM (x := r1) (p := i64 r1.1.length) (o := rc r1) rfl rfl h1 rfl rfl ?_); conv => whnf
          | (refine call_relM (x := r1) (p := i64 r1.2) (o := rc r1) rfl rfl trivial rfl rfl ?_); conv => whnf
        | (with_reducible refine Both.mk ?_ ?_) <;> conv => whnf
        | (refine ⟨[], _, _, rfl, ?_⟩); conv => whnf
        | (refine ⟨_, rfl, ?_⟩); conv => whnf
        | (refine ⟨_, unbytes_pbytes _, ?_⟩); conv => whnf
        | exact ⟨_, _, rfl, rfl⟩
        | exact rensG_pu _ _ _ _
        | rfl
        | (rw [snap_own rfl (show (pbytes _).length = _ * 1 from by rw [pbytes_length, Nat.mul_one])]); conv => whnf
        | fail
      all_goals exact le_nilV
def parseE (xs : List Int) : Int := rEnd (readT (r0 xs)).2
def parseV (xs : List Int) : V := if parseE xs = 0 then (readT (r0 xs)).1 else zeroV
theorem con_value_Parse' : Contract Try.prog id_value_Parse (RelP (fun (xs : List Int) => okB xs ∧ xs.length ≤ 1073741824) (fun xs => [bsl xs]) (fun xs => .tup [pvV (parseV xs), i64 (parseE xs)])) := by
  refine (code_value_Parse).pureL (Known.cons con_pack_Open (Known.cons con_value_Read (Known.cons con_pack_Reader_End Known.nil))) (by rintro x -; first | exact Nat.le_of_ble_eq_true rfl | (obtain ⟨_, _⟩ := x; exact Nat.le_of_ble_eq_true rfl) | (obtain ⟨_, _, _⟩ := x; exact Nat.le_of_ble_eq_true rfl) | (obtain ⟨_, _, _, _⟩ := x; exact Nat.le_of_ble_eq_true rfl) | (obtain ⟨_, _, _, _, _⟩ := x; exact Nat.le_of_ble_eq_true rfl) | (obtain ⟨_, _, _, _, _, _⟩ := x; exact Nat.le_of_ble_eq_true rfl) | (obtain ⟨_, _, _, _, _, _, _⟩ := x; exact Nat.le_of_ble_eq_true rfl) | (obtain ⟨_, _, _, _, _, _, _, _⟩ := x; exact Nat.le_of_ble_eq_true rfl)) ?_
  rintro xs ⟨ok, hl⟩
  have hr : okR (r0 xs) := okR_0 ok (by omega)
  have h2 : okR (readT (r0 xs)).2 := readT1_ok hr
  obtain ⟨r2, hr2⟩ : ∃ r2, (readT (r0 xs)).2 = r2 := ⟨_, rfl⟩
  obtain ⟨⟨k, i, b, s, l⟩, hv⟩ : ∃ v, (readT (r0 xs)).1 = v := ⟨_, rfl⟩
  have pv := pvV_mk k i b s l
  unfold parseV
  obtain ⟨e, he⟩ : ∃ e, parseE xs = e := ⟨_, rfl⟩
  have he2 := he
  unfold parseE at he2
  rw [hr2] at h2 he2
  rw [he, hv]
  by_cases q : e = 0
  · rw [if_pos q, pv]
    subst q
    repeat' first
      | (with_reducible first | refine bo_run ?_ | refine bw_run ?_ | refine bd_run ?_ | refine Br.tt ?_ | refine Br.ff ?_); conv => whnf
      | (with_reducible refine br_not ?_)
      | (with_reducible first | refine br_dec_tt (by assumption) ?_ | refine br_dec_ff (by assumption) ?_ | refine br_dec_tt (by decide) ?_ | refine br_dec_ff (by decide) ?_); conv => whnf
      | (with_reducible refine br_dec_intro (fun _ => ?_) (fun _ => ?_)) <;> conv => whnf
      | (with_reducible first | refine br_beq_tt (by assumption) ?_ | refine br_beq_ff (by assumption) ?_ | refine br_beq_tt (by decide) ?_ | refine br_beq_ff (by decide) ?_); conv => whnf
      | (with_reducible refine br_beq_intro (fun _ => ?_) (fun _ => ?_)) <;> conv => whnf
      | (with_reducible first | refine br_bne_tt (by assumption) ?_ | refine br_bne_ff (by assumption) ?_ | refine br_bne_tt (by decide) ?_ | refine br_bne_ff (by decide) ?_); conv => whnf
      | (with_reducible refine br_bne_intro (fun _ => ?_) (fun _ => ?_)) <;> conv => whnf
      | (with_reducible first | refine br_of_true (by assumption) ?_ | refine br_of_false (by assumption) ?_); conv => whnf
      | (with_reducible refine br_intro (fun _ => ?_) (fun _ => ?_)) <;> conv => whnf
      | (with_reducible refine and_rfl ?_); conv => whnf
      | (refine and_late (fun _ => ?_) (by first | omega | (show _ = _; rfl) | exact trivial | exact ⟨rfl, trivial⟩ | exact ⟨rfl, rfl, trivial⟩ | exact (fun h => by cases h) | exact (fun _ => ⟨rfl, rfl⟩) | exact Nat.le_of_ble_eq_true rfl | (simp only [List.length_map, List.length_append, pbytes, Nat.mul_one, List.length_cons, List.length_nil]; first | done | omega))); conv => whnf
      | (with_reducible refine and_late (fun _ => ?_) ?_); conv => whnf
      | (with_reducible refine vcall_id ?_)
        first
        | (refine call_relN (x := (bsl xs, xs)) (o := rc (r0 xs)) rfl ⟨asB_sl _, hl⟩ rfl (.inl rfl) ?_); conv => whnf
        | (refine call_relM (x := r0 xs) (p := .agg [i64 k, i64 i, u64 b, str s, .sl l.length (cellsL l)]) (o := rc r2) rfl rfl hr (by show pvV _ = _; rw [hv, pv]) (by show rc _ = _; rw [hr2]) ?_); conv => whnf
        | (refine call_relM (x := r2) (p := i64 0) (o := rc r2) rfl rfl h2 (by show i64 _ = _; rw [he2]) rfl ?_); conv => whnf
      | (with_reducible refine Both.mk ?_ ?_) <;> conv => whnf
      | (refine ⟨[], _, _, rfl, ?_⟩); conv => whnf
      | (refine ⟨_, rfl, ?_⟩); conv => whnf
      | (refine ⟨_, unbytes_pbytes _, ?_⟩); conv => whnf
      | exact ⟨_, _, rfl, rfl⟩
      | exact rensG_pu _ _ _ _
      | rfl
      | (rw [snap_own rfl (show (pbytes _).length = _ * 1 from by rw [pbytes_length, Nat.mul_one])]); conv => whnf
      | fail
    all_goals exact .refl _
  · rw [if_neg q, show pvV zeroV = .agg [i64 0, i64 0, u64 0, str ⟨#[]⟩, .sl 0 []] from pvV_nil]
    repeat' first
      | (with_reducible first | refine bo_run ?_ | refine bw_run ?_ | refine bd_run ?_ | refine Br.tt ?_ | refine Br.ff ?_); conv => whnf
      | (with_reducible refine br_not ?_)
      | (with_reducible first | refine br_dec_tt (by assumption) ?_ | refine br_dec_ff (by assumption) ?_ | refine br_dec_tt (by decide) ?_ | refine br_dec_ff (by decide) ?_); conv => whnf
      | (with_reducible refine br_dec_intro (fun _ => ?_) (fun _ => ?_)) <;> conv => whnf
      | (with_reducible first | refine br_beq_tt (by assumption) ?_ | refine br_beq_ff (by assumption) ?_ | refine br_beq_tt (by decide) ?_ | refine br_beq_ff (by decide) ?_); conv => whnf
      | (with_reducible refine br_beq_intro (fun _ => ?_) (fun _ => ?_)) <;> conv => whnf
      | (with_reducible first | refine br_bne_tt (by assumption) ?_ | refine br_bne_ff (by assumption) ?_ | refine br_bne_tt (by decide) ?_ | refine br_bne_ff (by decide) ?_); conv => whnf
      | (with_reducible refine br_bne_intro (fun _ => ?_) (fun _ => ?_)) <;> conv => whnf
      | (with_reducible first | refine br_of_true (by assumption) ?_ | refine br_of_false (by assumption) ?_); conv => whnf
      | (with_reducible refine br_intro (fun _ => ?_) (fun _ => ?_)) <;> conv => whnf
      | (with_reducible refine and_rfl ?_); conv => whnf
      | (refine and_late (fun _ => ?_) (by first | omega | (show _ = _; rfl) | exact trivial | exact ⟨rfl, trivial⟩ | exact ⟨rfl, rfl, trivial⟩ | exact (fun h => by cases h) | exact (fun _ => ⟨rfl, rfl⟩) | exact Nat.le_of_ble_eq_true rfl | (simp only [List.length_map, List.length_append, pbytes, Nat.mul_one, List.length_cons, List.length_nil]; first | done | omega))); conv => whnf
      | (with_reducible refine and_late (fun _ => ?_) ?_); conv => whnf
      | (with_reducible refine vcall_id ?_)
        first
        | (refine call_relN (x := (bsl xs, xs)) (o := rc (r0 xs)) rfl ⟨asB_sl _, hl⟩ rfl (.inl rfl) ?_); conv => whnf
        | (refine call_relM (x := r0 xs) (p := .agg [i64 k, i64 i, u64 b, str s, .sl l.length (cellsL l)]) (o := rc r2) rfl rfl hr (by show pvV _ = _; rw [hv, pv]) (by show rc _ = _; rw [hr2]) ?_); conv => whnf
        | (refine call_relM (x := r2) (p := i64 e) (o := rc r2) rfl rfl h2 (by show i64 _ = _; rw [he2]) rfl ?_); conv => whnf
      | (with_reducible refine Both.mk ?_ ?_) <;> conv => whnf
      | (refine ⟨[], _, _, rfl, ?_⟩); conv => whnf
      | (refine ⟨_, rfl, ?_⟩); conv => whnf
      | (refine ⟨_, unbytes_pbytes _, ?_⟩); conv => whnf
      | exact ⟨_, _, rfl, rfl⟩
      | exact rensG_pu _ _ _ _
      | rfl
      | (rw [snap_own rfl (show (pbytes _).length = _ * 1 from by rw [pbytes_length, Nat.mul_one])]); conv => whnf
      | fail
    all_goals exact .tup (.cons le_nilV (.cons (.refl _) .nil))
end Go.Proofs.Ytlodbaikbgbhjaa
