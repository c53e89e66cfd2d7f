/- value.read: what it computes. -/
import Derived.Test.YtlodbaikbgbhjaaValueY
import Derived.Test.YtlodbaikbgbhjaaPackS
set_option linter.unusedVariables false
set_option linter.unusedSimpArgs false
set_option maxRecDepth 20000
namespace Go.Vm
open Go Go.RowKit
/-- as metFin, but that the result may be what stands for it, too -/
def metFinL (res : List RV) (e : TypeId) (g : Nat) (p : PV) (cs : List PV) : VExit → Env → St → Prop
  | .exit _, _, _ => False
  | _, env, σ => withRes env σ res fun ars => (∃ q, renG σ [0] 1 (packRes ars) = some (.pu q) ∧ LE q p) ∧ ∃ cs', σ[0]? = some (some ⟨e, g, cs'⟩) ∧ rensG σ [0] 1 cs' = some (cs.map .pu)
def RelML {α : Type} (e : TypeId) (pre : α → Prop) (cells : α → List PV) (args : α → List PV) (res : α → PV) (cells' : α → List PV) : Spec := fun ars objs K => Tag 12 (∃ g x, pre x ∧ ars = .ptr 0 g 0 :: (args x).map .pu ∧ objs = [⟨e, g, (cells x).map .pu⟩] ∧ ∀ q, LE q (res x) → K (.pu q) [some ⟨e, g, (cells' x).map .pu⟩])
theorem IsCode.methL {P : Program} {f : FuncId} {Γ : FuncId → Spec} {nt : Nat} {vc : VCode} {res : List RV} {α : Type} {e : TypeId} {pre : α → Prop} {cells : α → List PV} {args : α → List PV} {out : α → PV} {cells' : α → List PV} (C : IsCode P f nt vc res) (hΓ : Known P Γ) (hl : ∀ x, pre x → (args x).length + 1 ≤ nt)
    (h : ∀ x g, pre x → BW Γ vc (metFinL res e g (out x) (cells' x)) (envFrom 0 (.ptr 0 g 0 :: (args x).map .pu)) [some ⟨e, g, (cells x).map .pu⟩]) : Contract P f (RelM e pre cells args out cells') := by
  obtain ⟨fn, c, h1, h2, h3, h4, h5, h6, rfl⟩ := C.ex
  have k : Contract P f (RelML e pre cells args out cells') := by
    simp only [bw_eq] at h
    refine contract_of_Q hΓ h1 h2 h3 h4 h5 h6 ?_
    rintro ars objs K ⟨g, x, q1, rfl, rfl, hK⟩
    refine ⟨by simpa using hl x q1, _, h x g q1, fun ex env σ k0 => ?_⟩
    refine fin_mono (A := fun ars => (∃ q, renG σ [0] 1 (packRes ars) = some (.pu q) ∧ LE q (out x)) ∧ ∃ cs', σ[0]? = some (some ⟨e, g, cs'⟩) ∧ rensG σ [0] 1 cs' = some ((cells' x).map .pu)) (by cases ex <;> exact k0) ?_
    rintro ars ⟨⟨q, k1, kq⟩, cs', k2, k3⟩
    exact ⟨[], _, _, fin_met k1 k2 k3, hK q kq⟩
  refine ⟨k.1, ?_⟩
  rintro w objs β Z vs ars K hS has ⟨g, x, q1, q2, q3, q4⟩
  have q5 : RelML e pre cells args out cells' ars objs fun r τ => ∃ r', LEA r r' ∧ K r' τ := ⟨g, x, q1, q2, q3, fun q hq => ⟨_, .pu hq, q4⟩⟩
  refine (k.2 w objs β Z vs ars _ hS has q5).mono fun e w' h' => ?_
  obtain ⟨v, β', r, τ, rfl, h1, h2, h3, r', h4, h5⟩ := h'
  exact ⟨v, β', r', τ, rfl, h1, h2, h4.rep h3, h5⟩
end Go.Vm
namespace Go.Proofs.Ytlodbaikbgbhjaa
open Go Go.Vm Go.IntWalk

theorem le_nilV {a b c d : PV} : LE (.agg [a, b, c, d, nilS]) (.agg [a, b, c, d, .sl 0 []]) := .agg (.cons (.refl _) (.cons (.refl _) (.cons (.refl _) (.cons (.refl _) (.cons .nil .nil)))))
def zC : List AV := [.pu (i64 0), .pu (i64 0), .pu (u64 0), .pu (str ⟨#[]⟩), .pu nilS]
theorem renG_agg_own2 {σ : St} {id g n sz : Nat} {e : TypeId} {xs : List AV} {cs : List PV} {a b c d : PV} (hi : idx [0] id = none) (h : σ[id]? = some (some ⟨e, g, xs⟩)) (hu : unpus (List.take (n * sz) xs) = some cs) : renG σ [0] 1 (.agg [.pu a, .pu b, .pu c, .pu d, .own id g 0 n sz]) = some (.pu (.agg [a, b, c, d, .sl n cs])) := by
  simp only [renG, rensG, hi, snap, h, if_true, List.drop_zero, hu]
  rfl
/-- objects while a list is read -/
def rdS (g : Nat) (r : R) (acc : List V) (gg : Nat) : St := match acc with
  | [] => [some ⟨ty_pack_Reader, g, (rc r).map .pu⟩, some ⟨ty_Value, 0, zC⟩, some ⟨ty_Value, 0, [.pu (i64 4), .pu (i64 0), .pu (u64 0), .pu (str ⟨#[]⟩), .pu nilS]⟩]
  | v :: l => [some ⟨ty_pack_Reader, g, (rc r).map .pu⟩, some ⟨ty_Value, 0, zC⟩, some ⟨ty_Value, 0, [.pu (i64 4), .pu (i64 0), .pu (u64 0), .pu (str ⟨#[]⟩), .own 3 gg 0 (v :: l).length 5]⟩, some ⟨ty_Value, gg, (cellsL (v :: l)).map .pu⟩]
theorem read_of {d : Nat} {z : Bool} {f : R → V × R} (hz : z = decide (d = 0)) (hfo : ∀ r, okR r → okR (f r).2) (hd : d ≤ 4)
    (ih : Contract Try.prog id_value_read (RelM ty_pack_Reader (fun (r : R) => 1 ≤ d ∧ okR r) (fun r => rc r) (fun _ => [i64 ((d : Int) - 1)]) (fun r => pvV (f r).1) (fun r => rc (f r).2))) :
    Contract Try.prog id_value_read (RelM ty_pack_Reader (fun (r : R) => okR r) (fun r => rc r) (fun _ => [i64 d]) (fun r => pvV (stepV z f r).1) (fun r => rc (stepV z f r).2)) := by
  refine (code_value_read).methL (Known.cons con_pack_Reader_Num (Known.cons con_pack_Reader_Int (Known.cons con_pack_Reader_Bits (Known.cons con_floats_Canon (Known.cons con_pack_Reader_Fail (Known.cons con_pack_Reader_Text (Known.cons con_pack_Reader_Err (Known.cons ih Known.nil)))))))) (by rintro x -; first | exact Nat.le_of_ble_eq_true rfl | (obtain ⟨_, _⟩ := x; exact Nat.le_of_ble_eq_true rfl) | (obtain ⟨_, _, _⟩ := x; exact Nat.le_of_ble_eq_true rfl) | (obtain ⟨_, _, _, _⟩ := x; exact Nat.le_of_ble_eq_true rfl) | (obtain ⟨_, _, _, _, _⟩ := x; exact Nat.le_of_ble_eq_true rfl) | (obtain ⟨_, _, _, _, _, _⟩ := x; exact Nat.le_of_ble_eq_true rfl) | (obtain ⟨_, _, _, _, _, _, _⟩ := x; exact Nat.le_of_ble_eq_true rfl) | (obtain ⟨_, _, _, _, _, _, _, _⟩ := x; exact Nat.le_of_ble_eq_true rfl)) ?_
  rintro r g hr
  have h1 := okR_num (hi := 4) hr
  obtain ⟨s1, s2, s3, s4⟩ := rNum_range (hi := 4) hr
  have hR : stepV z f r = stepV z f r := rfl
  generalize hX : stepV z f r = X at hR ⊢
  unfold stepV at hX
  obtain ⟨k, hk⟩ : ∃ k, (rNum 4 r).1 = k := ⟨_, rfl⟩
  obtain ⟨r1, hr1⟩ : ∃ r1, (rNum 4 r).2 = r1 := ⟨_, rfl⟩
  rw [hk, hr1] at hX
  rw [hk] at s1 s2 s3 s4
  rw [hr1] at h1 s3 s4
  by_cases k1 : k = 1
  · subst k1
    rw [if_pos rfl] at hX
    subst hX
    simp only [pvV_nil]
    repeat' first
      | (with_reducible first | refine bo_run ?_ | refine bw_run ?_ | refine bd_run ?_ | refine Br.tt ?_ | refine Br.ff ?_); conv => whnf
      | (with_reducible refine br_not ?_)
      | (with_reducible first | refine br_dec_tt (by assumption) ?_ | refine br_dec_ff (by assumption) ?_ | refine br_dec_tt (by decide) ?_ | refine br_dec_ff (by decide) ?_); conv => whnf
      | (with_reducible refine br_dec_intro (fun _ => ?_) (fun _ => ?_)) <;> conv => whnf
      | (with_reducible first | refine br_beq_tt (by assumption) ?_ | refine br_beq_ff (by assumption) ?_ | refine br_beq_tt (by decide) ?_ | refine br_beq_ff (by decide) ?_); conv => whnf
      | (with_reducible refine br_beq_intro (fun _ => ?_) (fun _ => ?_)) <;> conv => whnf
      | (with_reducible first | refine br_bne_tt (by assumption) ?_ | refine br_bne_ff (by assumption) ?_ | refine br_bne_tt (by decide) ?_ | refine br_bne_ff (by decide) ?_); conv => whnf
      | (with_reducible refine br_bne_intro (fun _ => ?_) (fun _ => ?_)) <;> conv => whnf
      | (with_reducible first | refine br_of_true (by assumption) ?_ | refine br_of_false (by assumption) ?_); conv => whnf
      | (with_reducible refine br_intro (fun _ => ?_) (fun _ => ?_)) <;> conv => whnf
      | (with_reducible refine and_rfl ?_); conv => whnf
      | (refine and_late (fun _ => ?_) (by first | omega | (show _ = _; rfl) | exact trivial | exact ⟨rfl, trivial⟩ | exact ⟨rfl, rfl, trivial⟩ | exact (fun h => by cases h) | exact (fun _ => ⟨rfl, rfl⟩) | exact Nat.le_of_ble_eq_true rfl | (simp only [List.length_map, List.length_append, pbytes, Nat.mul_one, List.length_cons, List.length_nil]; first | done | omega))); conv => whnf
      | (with_reducible refine and_late (fun _ => ?_) ?_); conv => whnf
      | (with_reducible refine vcall_id ?_)
        first
        | (refine call_relM (x := (r, 4)) (p := i64 1) (o := rc r1) rfl rfl hr (by show i64 _ = _; rw [hk]) (by show rc _ = _; rw [hr1]) ?_); conv => whnf
        | (refine call_relM (x := r1) (p := i64 (rInt r1).1) (o := rc (rInt r1).2) rfl rfl h1 rfl rfl ?_); conv => whnf
      | (with_reducible refine Both.mk ?_ ?_) <;> conv => whnf
      | (refine ⟨[], _, _, rfl, ?_⟩); conv => whnf
      | (refine ⟨_, rfl, ?_⟩); conv => whnf
      | (refine ⟨_, unbytes_pbytes _, ?_⟩); conv => whnf
      | exact ⟨_, _, rfl, rfl⟩
      | exact rensG_pu _ _ _ _
      | rfl
      | (rw [snap_own rfl (show (pbytes _).length = _ * 1 from by rw [pbytes_length, Nat.mul_one])]); conv => whnf
      | fail
    all_goals exact le_nilV
  rw [if_neg k1] at hX
  by_cases k2 : k = 2
  · subst k2
    rw [if_pos rfl] at hX
    subst hX
    simp only [pvV_nil]
    by_cases hc : canonI (rTake 8 r1).1 = (rTake 8 r1).1
    · rw [if_pos hc]
      repeat' first
        | (with_reducible first | refine bo_run ?_ | refine bw_run ?_ | refine bd_run ?_ | refine Br.tt ?_ | refine Br.ff ?_); conv => whnf
        | (with_reducible refine br_not ?_)
        | (with_reducible first | refine br_dec_tt (by assumption) ?_ | refine br_dec_ff (by assumption) ?_ | refine br_dec_tt (by decide) ?_ | refine br_dec_ff (by decide) ?_); conv => whnf
        | (with_reducible refine br_dec_intro (fun _ => ?_) (fun _ => ?_)) <;> conv => whnf
        | (with_reducible first | refine br_beq_tt (by assumption) ?_ | refine br_beq_ff (by assumption) ?_ | refine br_beq_tt (by decide) ?_ | refine br_beq_ff (by decide) ?_); conv => whnf
        | (with_reducible refine br_beq_intro (fun _ => ?_) (fun _ => ?_)) <;> conv => whnf
        | (with_reducible first | refine br_bne_tt (by assumption) ?_ | refine br_bne_ff (by assumption) ?_ | refine br_bne_tt (by decide) ?_ | refine br_bne_ff (by decide) ?_); conv => whnf
        | (with_reducible refine br_bne_intro (fun _ => ?_) (fun _ => ?_)) <;> conv => whnf
        | (with_reducible first | refine br_of_true (by assumption) ?_ | refine br_of_false (by assumption) ?_); conv => whnf
        | (with_reducible refine br_intro (fun _ => ?_) (fun _ => ?_)) <;> conv => whnf
        | (with_reducible refine and_rfl ?_); conv => whnf
        | (refine and_late (fun _ => ?_) (by first | omega | (show _ = _; rfl) | exact trivial | exact ⟨rfl, trivial⟩ | exact ⟨rfl, rfl, trivial⟩ | exact (fun h => by cases h) | exact (fun _ => ⟨rfl, rfl⟩) | exact Nat.le_of_ble_eq_true rfl | (simp only [List.length_map, List.length_append, pbytes, Nat.mul_one, List.length_cons, List.length_nil]; first | done | omega))); conv => whnf
        | (with_reducible refine and_late (fun _ => ?_) ?_); conv => whnf
        | (with_reducible refine vcall_id ?_)
          first
          | (refine call_relM (x := (r, 4)) (p := i64 2) (o := rc r1) rfl rfl hr (by show i64 _ = _; rw [hk]) (by show rc _ = _; rw [hr1]) ?_); conv => whnf
          | (refine call_relM (x := r1) (p := u64 (rTake 8 r1).1) (o := rc (rTake 8 r1).2) rfl rfl h1 rfl rfl ?_); conv => whnf
          | (refine call_rel (x := ((rTake 8 r1).1 : Int)) (p := u64 (canonI (rTake 8 r1).1)) rfl trivial rfl (.inl rfl) ?_); conv => whnf
        | (with_reducible refine Both.mk ?_ ?_) <;> conv => whnf
        | (refine ⟨[], _, _, rfl, ?_⟩); conv => whnf
        | (refine ⟨_, rfl, ?_⟩); conv => whnf
        | (refine ⟨_, unbytes_pbytes _, ?_⟩); conv => whnf
        | exact ⟨_, _, rfl, rfl⟩
        | exact rensG_pu _ _ _ _
        | rfl
        | (rw [snap_own rfl (show (pbytes _).length = _ * 1 from by rw [pbytes_length, Nat.mul_one])]); conv => whnf
        | fail
      all_goals exact le_nilV
    · rw [if_neg hc]
      repeat' first
        | (with_reducible first | refine bo_run ?_ | refine bw_run ?_ | refine bd_run ?_ | refine Br.tt ?_ | refine Br.ff ?_); conv => whnf
        | (with_reducible refine br_not ?_)
        | (with_reducible first | refine br_dec_tt (by assumption) ?_ | refine br_dec_ff (by assumption) ?_ | refine br_dec_tt (by decide) ?_ | refine br_dec_ff (by decide) ?_); conv => whnf
        | (with_reducible refine br_dec_intro (fun _ => ?_) (fun _ => ?_)) <;> conv => whnf
        | (with_reducible first | refine br_beq_tt (by assumption) ?_ | refine br_beq_ff (by assumption) ?_ | refine br_beq_tt (by decide) ?_ | refine br_beq_ff (by decide) ?_); conv => whnf
        | (with_reducible refine br_beq_intro (fun _ => ?_) (fun _ => ?_)) <;> conv => whnf
        | (with_reducible first | refine br_bne_tt (by assumption) ?_ | refine br_bne_ff (by assumption) ?_ | refine br_bne_tt (by decide) ?_ | refine br_bne_ff (by decide) ?_); conv => whnf
        | (with_reducible refine br_bne_intro (fun _ => ?_) (fun _ => ?_)) <;> conv => whnf
        | (with_reducible first | refine br_of_true (by assumption) ?_ | refine br_of_false (by assumption) ?_); conv => whnf
        | (with_reducible refine br_intro (fun _ => ?_) (fun _ => ?_)) <;> conv => whnf
        | (with_reducible refine and_rfl ?_); conv => whnf
        | (refine and_late (fun _ => ?_) (by first | omega | (show _ = _; rfl) | exact trivial | exact ⟨rfl, trivial⟩ | exact ⟨rfl, rfl, trivial⟩ | exact (fun h => by cases h) | exact (fun _ => ⟨rfl, rfl⟩) | exact Nat.le_of_ble_eq_true rfl | (simp only [List.length_map, List.length_append, pbytes, Nat.mul_one, List.length_cons, List.length_nil]; first | done | omega))); conv => whnf
        | (with_reducible refine and_late (fun _ => ?_) ?_); conv => whnf
        | (with_reducible refine vcall_id ?_)
          first
          | (refine call_relM (x := (r, 4)) (p := i64 2) (o := rc r1) rfl rfl hr (by show i64 _ = _; rw [hk]) (by show rc _ = _; rw [hr1]) ?_); conv => whnf
          | (refine call_relM (x := r1) (p := u64 (rTake 8 r1).1) (o := rc (rTake 8 r1).2) rfl rfl h1 rfl rfl ?_); conv => whnf
          | (refine call_rel (x := ((rTake 8 r1).1 : Int)) (p := u64 (canonI (rTake 8 r1).1)) rfl trivial rfl (.inl rfl) ?_); conv => whnf
          | (refine call_relM (x := ((rTake 8 r1).2, 3)) (p := .tup []) (o := rc (rFail 3 (rTake 8 r1).2)) rfl rfl trivial rfl rfl ?_); conv => whnf
        | (with_reducible refine Both.mk ?_ ?_) <;> conv => whnf
        | (refine ⟨[], _, _, rfl, ?_⟩); conv => whnf
        | (refine ⟨_, rfl, ?_⟩); conv => whnf
        | (refine ⟨_, unbytes_pbytes _, ?_⟩); conv => whnf
        | exact ⟨_, _, rfl, rfl⟩
        | exact rensG_pu _ _ _ _
        | rfl
        | (rw [snap_own rfl (show (pbytes _).length = _ * 1 from by rw [pbytes_length, Nat.mul_one])]); conv => whnf
        | fail
      all_goals exact le_nilV
  rw [if_neg k2] at hX
  by_cases k3 : k = 3
  · subst k3
    rw [if_pos rfl] at hX
    subst hX
    simp only [pvV_nil]
    repeat' first
      | (with_reducible first | refine bo_run ?_ | refine bw_run ?_ | refine bd_run ?_ | refine Br.tt ?_ | refine Br.ff ?_); conv => whnf
      | (with_reducible refine br_not ?_)
      | (with_reducible first | refine br_dec_tt (by assumption) ?_ | refine br_dec_ff (by assumption) ?_ | refine br_dec_tt (by decide) ?_ | refine br_dec_ff (by decide) ?_); conv => whnf
      | (with_reducible refine br_dec_intro (fun _ => ?_) (fun _ => ?_)) <;> conv => whnf
      | (with_reducible first | refine br_beq_tt (by assumption) ?_ | refine br_beq_ff (by assumption) ?_ | refine br_beq_tt (by decide) ?_ | refine br_beq_ff (by decide) ?_); conv => whnf
      | (with_reducible refine br_beq_intro (fun _ => ?_) (fun _ => ?_)) <;> conv => whnf
      | (with_reducible first | refine br_bne_tt (by assumption) ?_ | refine br_bne_ff (by assumption) ?_ | refine br_bne_tt (by decide) ?_ | refine br_bne_ff (by decide) ?_); conv => whnf
      | (with_reducible refine br_bne_intro (fun _ => ?_) (fun _ => ?_)) <;> conv => whnf
      | (with_reducible first | refine br_of_true (by assumption) ?_ | refine br_of_false (by assumption) ?_); conv => whnf
      | (with_reducible refine br_intro (fun _ => ?_) (fun _ => ?_)) <;> conv => whnf
      | (with_reducible refine and_rfl ?_); conv => whnf
      | (refine and_late (fun _ => ?_) (by first | omega | (show _ = _; rfl) | exact trivial | exact ⟨rfl, trivial⟩ | exact ⟨rfl, rfl, trivial⟩ | exact (fun h => by cases h) | exact (fun _ => ⟨rfl, rfl⟩) | exact Nat.le_of_ble_eq_true rfl | (simp only [List.length_map, List.length_append, pbytes, Nat.mul_one, List.length_cons, List.length_nil]; first | done | omega))); conv => whnf
      | (with_reducible refine and_late (fun _ => ?_) ?_); conv => whnf
      | (with_reducible refine vcall_id ?_)
        first
        | (refine call_relM (x := (r, 4)) (p := i64 3) (o := rc r1) rfl rfl hr (by show i64 _ = _; rw [hk]) (by show rc _ = _; rw [hr1]) ?_); conv => whnf
        | (refine call_relM (x := (r1, 200)) (p := str (rText 200 r1).1) (o := rc (rText 200 r1).2) rfl rfl h1 rfl rfl ?_); conv => whnf
      | (with_reducible refine Both.mk ?_ ?_) <;> conv => whnf
      | (refine ⟨[], _, _, rfl, ?_⟩); conv => whnf
      | (refine ⟨_, rfl, ?_⟩); conv => whnf
      | (refine ⟨_, unbytes_pbytes _, ?_⟩); conv => whnf
      | exact ⟨_, _, rfl, rfl⟩
      | exact rensG_pu _ _ _ _
      | rfl
      | (rw [snap_own rfl (show (pbytes _).length = _ * 1 from by rw [pbytes_length, Nat.mul_one])]); conv => whnf
      | fail
    all_goals exact le_nilV
  rw [if_neg k3] at hX
  by_cases k4 : ¬ k = 4
  · rw [if_neg k4] at hX
    subst hX
    simp only [pvV_nil]
    repeat' first
      | (with_reducible first | refine bo_run ?_ | refine bw_run ?_ | refine bd_run ?_ | refine Br.tt ?_ | refine Br.ff ?_); conv => whnf
      | (with_reducible refine br_not ?_)
      | (with_reducible first | refine br_dec_tt (by assumption) ?_ | refine br_dec_ff (by assumption) ?_ | refine br_dec_tt (by decide) ?_ | refine br_dec_ff (by decide) ?_); conv => whnf
      | (with_reducible refine br_dec_intro (fun _ => ?_) (fun _ => ?_)) <;> conv => whnf
      | (with_reducible first | refine br_beq_tt (by assumption) ?_ | refine br_beq_ff (by assumption) ?_ | refine br_beq_tt (by decide) ?_ | refine br_beq_ff (by decide) ?_); conv => whnf
      | (with_reducible refine br_beq_intro (fun _ => ?_) (fun _ => ?_)) <;> conv => whnf
      | (with_reducible first | refine br_bne_tt (by assumption) ?_ | refine br_bne_ff (by assumption) ?_ | refine br_bne_tt (by decide) ?_ | refine br_bne_ff (by decide) ?_); conv => whnf
      | (with_reducible refine br_bne_intro (fun _ => ?_) (fun _ => ?_)) <;> conv => whnf
      | (with_reducible first | refine br_of_true (by assumption) ?_ | refine br_of_false (by assumption) ?_); conv => whnf
      | (with_reducible refine br_intro (fun _ => ?_) (fun _ => ?_)) <;> conv => whnf
      | (with_reducible refine and_rfl ?_); conv => whnf
      | (refine and_late (fun _ => ?_) (by first | omega | (show _ = _; rfl) | exact trivial | exact ⟨rfl, trivial⟩ | exact ⟨rfl, rfl, trivial⟩ | exact (fun h => by cases h) | exact (fun _ => ⟨rfl, rfl⟩) | exact Nat.le_of_ble_eq_true rfl | (simp only [List.length_map, List.length_append, pbytes, Nat.mul_one, List.length_cons, List.length_nil]; first | done | omega))); conv => whnf
      | (with_reducible refine and_late (fun _ => ?_) ?_); conv => whnf
      | (with_reducible refine vcall_id ?_)
        first
        | (refine call_relM (x := (r, 4)) (p := i64 k) (o := rc r1) rfl rfl hr (by show i64 _ = _; rw [hk]) (by show rc _ = _; rw [hr1]) ?_); conv => whnf
      | (with_reducible refine Both.mk ?_ ?_) <;> conv => whnf
      | (refine ⟨[], _, _, rfl, ?_⟩); conv => whnf
      | (refine ⟨_, rfl, ?_⟩); conv => whnf
      | (refine ⟨_, unbytes_pbytes _, ?_⟩); conv => whnf
      | exact ⟨_, _, rfl, rfl⟩
      | exact rensG_pu _ _ _ _
      | rfl
      | (rw [snap_own rfl (show (pbytes _).length = _ * 1 from by rw [pbytes_length, Nat.mul_one])]); conv => whnf
      | fail
    all_goals exact le_nilV
  have k4 : k = 4 := by omega
  subst k4
  rw [if_pos rfl] at hX
  have h3 : okR (if z then rFail 5 r1 else r1) := by
    cases z
    · exact h1
    · exact okR_fail h1
  have hn12 := num12 h3
  have hn0 := rNum_range (hi := 12) h3
  have ho12 := okR_num (hi := 12) h3
  have hd0 : d = 0 → (rNum 12 (if z then rFail 5 r1 else r1)).1 = 0 := fun q => by
    rw [hz, decide_eq_true q, if_pos rfl, rNum_bad (rFail_ne (by decide))]
  obtain ⟨r2, hr2⟩ : ∃ r2, (if z then rFail 5 r1 else r1) = r2 := ⟨_, rfl⟩
  rw [hr2] at hX hn12 hn0 ho12 hd0 h3
  obtain ⟨m, hm⟩ : ∃ m : Nat, (rNum 12 r2).1 = m := ⟨(rNum 12 r2).1.toNat, by omega⟩
  obtain ⟨r3, hr3⟩ : ∃ r3, (rNum 12 r2).2 = r3 := ⟨_, rfl⟩
  rw [hm, hr3, Int.toNat_natCast] at hX
  rw [hm] at hn12 hd0
  rw [hr3] at ho12
  obtain ⟨L, rL, hL⟩ : ∃ L rL, loopR f m r3 [] = (L, rL) := ⟨_, _, rfl⟩
  rw [hL] at hX
  subst hX
  by_cases q0 : d = 0
  · subst q0
    rw [hz] at hr2
    simp only [decide_true, if_true] at hr2
    subst hr2
    repeat' first
      | (with_reducible first | refine bo_run ?_ | refine bw_run ?_ | refine bd_run ?_ | refine Br.tt ?_ | refine Br.ff ?_); conv => whnf
      | (with_reducible refine br_not ?_)
      | (with_reducible first | refine br_dec_tt (by assumption) ?_ | refine br_dec_ff (by assumption) ?_ | refine br_dec_tt (by decide) ?_ | refine br_dec_ff (by decide) ?_); conv => whnf
      | (with_reducible refine br_dec_intro (fun _ => ?_) (fun _ => ?_)) <;> conv => whnf
      | (with_reducible first | refine br_beq_tt (by assumption) ?_ | refine br_beq_ff (by assumption) ?_ | refine br_beq_tt (by decide) ?_ | refine br_beq_ff (by decide) ?_); conv => whnf
      | (with_reducible refine br_beq_intro (fun _ => ?_) (fun _ => ?_)) <;> conv => whnf
      | (with_reducible first | refine br_bne_tt (by assumption) ?_ | refine br_bne_ff (by assumption) ?_ | refine br_bne_tt (by decide) ?_ | refine br_bne_ff (by decide) ?_); conv => whnf
      | (with_reducible refine br_bne_intro (fun _ => ?_) (fun _ => ?_)) <;> conv => whnf
      | (with_reducible first | refine br_of_true (by assumption) ?_ | refine br_of_false (by assumption) ?_); conv => whnf
      | (with_reducible refine br_intro (fun _ => ?_) (fun _ => ?_)) <;> conv => whnf
      | (with_reducible refine and_rfl ?_); conv => whnf
      | (refine and_late (fun _ => ?_) (by first | omega | (show _ = _; rfl) | exact trivial | exact ⟨rfl, trivial⟩ | exact ⟨rfl, rfl, trivial⟩ | exact (fun h => by cases h) | exact (fun _ => ⟨rfl, rfl⟩) | exact Nat.le_of_ble_eq_true rfl | (simp only [List.length_map, List.length_append, pbytes, Nat.mul_one, List.length_cons, List.length_nil]; first | done | omega))); conv => whnf
      | (with_reducible refine and_late (fun _ => ?_) ?_); conv => whnf
      | (with_reducible refine vcall_id ?_)
        first
        | (refine call_relM (x := (r, 4)) (p := i64 4) (o := rc r1) rfl rfl hr (by show i64 _ = _; rw [hk]) (by show rc _ = _; rw [hr1]) ?_); conv => whnf
        | (refine call_relM (x := (r1, 5)) (p := .tup []) (o := rc (rFail 5 r1)) rfl rfl trivial rfl rfl ?_); conv => whnf
        | (refine call_relM (x := (rFail 5 r1, 12)) (p := i64 m) (o := rc r3) rfl rfl h3 (by show i64 _ = _; rw [hm]) (by show rc _ = _; rw [hr3]) ?_); conv => whnf
      | (with_reducible refine Both.mk ?_ ?_) <;> conv => whnf
      | (refine ⟨[], _, _, rfl, ?_⟩); conv => whnf
      | (refine ⟨_, rfl, ?_⟩); conv => whnf
      | (refine ⟨_, unbytes_pbytes _, ?_⟩); conv => whnf
      | exact ⟨_, _, rfl, rfl⟩
      | exact rensG_pu _ _ _ _
      | rfl
      | (rw [snap_own rfl (show (pbytes _).length = _ * 1 from by rw [pbytes_length, Nat.mul_one])]); conv => whnf
      | fail
    obtain rfl : m = 0 := by have := hd0 rfl; omega
    refine bw_loop (α := Unit) (fun _ => [(0, .ptr 0 g 0), (1, .pu (i64 ((0 : Nat) : Int))), (4, .ptr 1 0 0), (5, .ptr 2 0 0), (6, .pu (i64 ((0 : Nat) : Int)))]) (fun _ => rdS g r3 [] 0) (fun _ => True) (fun _ => 0) () rfl rfl trivial ?_
    rintro - -
    rw [show rdS g r3 [] 0 = [some ⟨ty_pack_Reader, g, (rc r3).map .pu⟩, some ⟨ty_Value, 0, zC⟩, some ⟨ty_Value, 0, [.pu (i64 4), .pu (i64 0), .pu (u64 0), .pu (str ⟨#[]⟩), .pu nilS]⟩] from rfl]
    rw [loopR] at hL
    cases hL
    simp only [pvV_nil]
    have gz : ¬ ((0 : Nat) : Int) > 0 := by decide
    repeat' first
      | (with_reducible first | refine bo_run ?_ | refine bw_run ?_ | refine bd_run ?_ | refine Br.tt ?_ | refine Br.ff ?_); conv => whnf
      | (with_reducible refine br_not ?_)
      | (with_reducible first | refine br_dec_tt (by assumption) ?_ | refine br_dec_ff (by assumption) ?_ | refine br_dec_tt (by decide) ?_ | refine br_dec_ff (by decide) ?_); conv => whnf
      | (with_reducible refine br_dec_intro (fun _ => ?_) (fun _ => ?_)) <;> conv => whnf
      | (with_reducible first | refine br_beq_tt (by assumption) ?_ | refine br_beq_ff (by assumption) ?_ | refine br_beq_tt (by decide) ?_ | refine br_beq_ff (by decide) ?_); conv => whnf
      | (with_reducible refine br_beq_intro (fun _ => ?_) (fun _ => ?_)) <;> conv => whnf
      | (with_reducible first | refine br_bne_tt (by assumption) ?_ | refine br_bne_ff (by assumption) ?_ | refine br_bne_tt (by decide) ?_ | refine br_bne_ff (by decide) ?_); conv => whnf
      | (with_reducible refine br_bne_intro (fun _ => ?_) (fun _ => ?_)) <;> conv => whnf
      | (with_reducible first | refine br_of_true (by assumption) ?_ | refine br_of_false (by assumption) ?_); conv => whnf
      | (with_reducible refine br_intro (fun _ => ?_) (fun _ => ?_)) <;> conv => whnf
      | (with_reducible refine and_rfl ?_); conv => whnf
      | (refine and_late (fun _ => ?_) (by first | omega | (show _ = _; rfl) | exact trivial | exact ⟨rfl, trivial⟩ | exact ⟨rfl, rfl, trivial⟩ | exact (fun h => by cases h) | exact (fun _ => ⟨rfl, rfl⟩) | exact Nat.le_of_ble_eq_true rfl | (simp only [List.length_map, List.length_append, pbytes, Nat.mul_one, List.length_cons, List.length_nil]; first | done | omega))); conv => whnf
      | (with_reducible refine and_late (fun _ => ?_) ?_); conv => whnf
      | (with_reducible refine vcall_id ?_)
        first
        | (refine vcall_inl rfl rfl rfl rfl (Nat.le_of_ble_eq_true rfl) ?_)
      | (with_reducible refine Both.mk ?_ ?_) <;> conv => whnf
      | (refine ⟨[], _, _, rfl, ?_⟩); conv => whnf
      | (refine ⟨_, rfl, ?_⟩); conv => whnf
      | (refine ⟨_, unbytes_pbytes _, ?_⟩); conv => whnf
      | exact ⟨_, _, rfl, rfl⟩
      | exact rensG_pu _ _ _ _
      | rfl
      | (rw [snap_own rfl (show (pbytes _).length = _ * 1 from by rw [pbytes_length, Nat.mul_one])]); conv => whnf
      | fail
    exact le_nilV
  · rw [hz, decide_eq_false q0] at hr2
    simp only [Bool.false_eq_true, if_false] at hr2
    subst hr2
    have q0' : ¬ (d : Int) = 0 := by omega
    repeat' first
      | (with_reducible first | refine bo_run ?_ | refine bw_run ?_ | refine bd_run ?_ | refine Br.tt ?_ | refine Br.ff ?_); conv => whnf
      | (with_reducible refine br_not ?_)
      | (with_reducible first | refine br_dec_tt (by assumption) ?_ | refine br_dec_ff (by assumption) ?_ | refine br_dec_tt (by decide) ?_ | refine br_dec_ff (by decide) ?_); conv => whnf
      | (with_reducible refine br_dec_intro (fun _ => ?_) (fun _ => ?_)) <;> conv => whnf
      | (with_reducible first | refine br_beq_tt (by assumption) ?_ | refine br_beq_ff (by assumption) ?_ | refine br_beq_tt (by decide) ?_ | refine br_beq_ff (by decide) ?_); conv => whnf
      | (with_reducible refine br_beq_intro (fun _ => ?_) (fun _ => ?_)) <;> conv => whnf
      | (with_reducible first | refine br_bne_tt (by assumption) ?_ | refine br_bne_ff (by assumption) ?_ | refine br_bne_tt (by decide) ?_ | refine br_bne_ff (by decide) ?_); conv => whnf
      | (with_reducible refine br_bne_intro (fun _ => ?_) (fun _ => ?_)) <;> conv => whnf
      | (with_reducible first | refine br_of_true (by assumption) ?_ | refine br_of_false (by assumption) ?_); conv => whnf
      | (with_reducible refine br_intro (fun _ => ?_) (fun _ => ?_)) <;> conv => whnf
      | (with_reducible refine and_rfl ?_); conv => whnf
      | (refine and_late (fun _ => ?_) (by first | omega | (show _ = _; rfl) | exact trivial | exact ⟨rfl, trivial⟩ | exact ⟨rfl, rfl, trivial⟩ | exact (fun h => by cases h) | exact (fun _ => ⟨rfl, rfl⟩) | exact Nat.le_of_ble_eq_true rfl | (simp only [List.length_map, List.length_append, pbytes, Nat.mul_one, List.length_cons, List.length_nil]; first | done | omega))); conv => whnf
      | (with_reducible refine and_late (fun _ => ?_) ?_); conv => whnf
      | (with_reducible refine vcall_id ?_)
        first
        | (refine call_relM (x := (r, 4)) (p := i64 4) (o := rc r1) rfl rfl hr (by show i64 _ = _; rw [hk]) (by show rc _ = _; rw [hr1]) ?_); conv => whnf
        | (refine call_relM (x := (r1, 12)) (p := i64 m) (o := rc r3) rfl rfl h3 (by show i64 _ = _; rw [hm]) (by show rc _ = _; rw [hr3]) ?_); conv => whnf
      | (with_reducible refine Both.mk ?_ ?_) <;> conv => whnf
      | (refine ⟨[], _, _, rfl, ?_⟩); conv => whnf
      | (refine ⟨_, rfl, ?_⟩); conv => whnf
      | (refine ⟨_, unbytes_pbytes _, ?_⟩); conv => whnf
      | exact ⟨_, _, rfl, rfl⟩
      | exact rensG_pu _ _ _ _
      | rfl
      | (rw [snap_own rfl (show (pbytes _).length = _ * 1 from by rw [pbytes_length, Nat.mul_one])]); conv => whnf
      | fail
    have hb0 : m ≤ 12 := by omega
    have we : IntKind.i64.wrap ((d : Int) - 1) = (d : Int) - 1 := i64_in _ (by omega)
    refine bw_loop (α := Nat × R × List V × Nat) (fun x => [(0, .ptr 0 g 0), (1, .pu (i64 (d : Int))), (4, .ptr 1 0 0), (5, .ptr 2 0 0), (6, .pu (i64 (x.1 : Int)))]) (fun x => rdS g x.2.1 x.2.2.1 x.2.2.2)
      (fun x => okR x.2.1 ∧ x.2.2.1.length + x.1 ≤ 12 ∧ loopR f x.1 x.2.1 x.2.2.1 = (L, rL)) (fun x => x.1) (m, r3, [], 0) rfl rfl ⟨ho12, by show 0 + m ≤ 12; omega, hL⟩ ?_
    rintro ⟨n, r, acc, gg⟩ ⟨i1, i2, i3⟩
    dsimp only at i1 i2 i3 ⊢
    cases n with
    | zero =>
      rw [loopR] at i3
      cases i3
      have gz : ¬ ((0 : Nat) : Int) > 0 := by decide
      cases L with
      | nil =>
        simp only [pvV_nil, rdS]
        repeat' first
          | (with_reducible first | refine bo_run ?_ | refine bw_run ?_ | refine bd_run ?_ | refine Br.tt ?_ | refine Br.ff ?_); conv => whnf
          | (with_reducible refine br_not ?_)
          | (with_reducible first | refine br_dec_tt (by assumption) ?_ | refine br_dec_ff (by assumption) ?_ | refine br_dec_tt (by decide) ?_ | refine br_dec_ff (by decide) ?_); conv => whnf
          | (with_reducible refine br_dec_intro (fun _ => ?_) (fun _ => ?_)) <;> conv => whnf
          | (with_reducible first | refine br_beq_tt (by assumption) ?_ | refine br_beq_ff (by assumption) ?_ | refine br_beq_tt (by decide) ?_ | refine br_beq_ff (by decide) ?_); conv => whnf
          | (with_reducible refine br_beq_intro (fun _ => ?_) (fun _ => ?_)) <;> conv => whnf
          | (with_reducible first | refine br_bne_tt (by assumption) ?_ | refine br_bne_ff (by assumption) ?_ | refine br_bne_tt (by decide) ?_ | refine br_bne_ff (by decide) ?_); conv => whnf
          | (with_reducible refine br_bne_intro (fun _ => ?_) (fun _ => ?_)) <;> conv => whnf
          | (with_reducible first | refine br_of_true (by assumption) ?_ | refine br_of_false (by assumption) ?_); conv => whnf
          | (with_reducible refine br_intro (fun _ => ?_) (fun _ => ?_)) <;> conv => whnf
          | (with_reducible refine and_rfl ?_); conv => whnf
          | (refine and_late (fun _ => ?_) (by first | omega | (show _ = _; rfl) | exact trivial | exact ⟨rfl, trivial⟩ | exact ⟨rfl, rfl, trivial⟩ | exact (fun h => by cases h) | exact (fun _ => ⟨rfl, rfl⟩) | exact Nat.le_of_ble_eq_true rfl | (simp only [List.length_map, List.length_append, pbytes, Nat.mul_one, List.length_cons, List.length_nil]; first | done | omega))); conv => whnf
          | (with_reducible refine and_late (fun _ => ?_) ?_); conv => whnf
          | (with_reducible refine vcall_id ?_)
            first
            | (refine vcall_inl rfl rfl rfl rfl (Nat.le_of_ble_eq_true rfl) ?_)
          | (with_reducible refine Both.mk ?_ ?_) <;> conv => whnf
          | (refine ⟨[], _, _, rfl, ?_⟩); conv => whnf
          | (refine ⟨_, rfl, ?_⟩); conv => whnf
          | (refine ⟨_, unbytes_pbytes _, ?_⟩); conv => whnf
          | exact ⟨_, _, rfl, rfl⟩
          | exact rensG_pu _ _ _ _
          | rfl
          | (rw [snap_own rfl (show (pbytes _).length = _ * 1 from by rw [pbytes_length, Nat.mul_one])]); conv => whnf
          | fail
        exact le_nilV
      | cons v l =>
        have hc := cellsL_length (v :: l)
        simp only [pvV_mk, rdS]
        repeat' first
          | (with_reducible first | refine bo_run ?_ | refine bw_run ?_ | refine bd_run ?_ | refine Br.tt ?_ | refine Br.ff ?_); conv => whnf
          | (with_reducible refine br_not ?_)
          | (with_reducible first | refine br_dec_tt (by assumption) ?_ | refine br_dec_ff (by assumption) ?_ | refine br_dec_tt (by decide) ?_ | refine br_dec_ff (by decide) ?_); conv => whnf
          | (with_reducible refine br_dec_intro (fun _ => ?_) (fun _ => ?_)) <;> conv => whnf
          | (with_reducible first | refine br_beq_tt (by assumption) ?_ | refine br_beq_ff (by assumption) ?_ | refine br_beq_tt (by decide) ?_ | refine br_beq_ff (by decide) ?_); conv => whnf
          | (with_reducible refine br_beq_intro (fun _ => ?_) (fun _ => ?_)) <;> conv => whnf
          | (with_reducible first | refine br_bne_tt (by assumption) ?_ | refine br_bne_ff (by assumption) ?_ | refine br_bne_tt (by decide) ?_ | refine br_bne_ff (by decide) ?_); conv => whnf
          | (with_reducible refine br_bne_intro (fun _ => ?_) (fun _ => ?_)) <;> conv => whnf
          | (with_reducible first | refine br_of_true (by assumption) ?_ | refine br_of_false (by assumption) ?_); conv => whnf
          | (with_reducible refine br_intro (fun _ => ?_) (fun _ => ?_)) <;> conv => whnf
          | (with_reducible refine and_rfl ?_); conv => whnf
          | (refine and_late (fun _ => ?_) (by first | omega | (show _ = _; rfl) | exact trivial | exact ⟨rfl, trivial⟩ | exact ⟨rfl, rfl, trivial⟩ | exact (fun h => by cases h) | exact (fun _ => ⟨rfl, rfl⟩) | exact Nat.le_of_ble_eq_true rfl | (simp only [List.length_map, List.length_append, pbytes, Nat.mul_one, List.length_cons, List.length_nil]; first | done | omega))); conv => whnf
          | (with_reducible refine and_late (fun _ => ?_) ?_); conv => whnf
          | (with_reducible refine vcall_id ?_)
            first
            | (refine vcall_inl rfl rfl rfl rfl (Nat.le_of_ble_eq_true rfl) ?_)
          | (with_reducible refine Both.mk ?_ ?_) <;> conv => whnf
          | (refine ⟨[], _, _, rfl, ?_⟩); conv => whnf
          | (refine ⟨_, rfl, ?_⟩); conv => whnf
          | (refine ⟨_, unbytes_pbytes _, ?_⟩); conv => whnf
          | exact ⟨_, _, rfl, rfl⟩
          | exact rensG_pu _ _ _ _
          | rfl
          | (rw [snap_own rfl (show (pbytes _).length = _ * 1 from by rw [pbytes_length, Nat.mul_one])]); conv => whnf
          | fail
        refine ⟨_, renG_agg_own2 (id := 3) (g := gg) (n := (v :: l).length) (sz := 5) (e := ty_Value) (xs := (cellsL (v :: l)).map AV.pu) (cs := cellsL (v :: l)) (a := i64 4) (b := i64 0) (c := u64 0) (d := str ⟨#[]⟩) rfl rfl (by rw [List.take_of_length_le (by rw [List.length_map]; omega), unpus_map]), .refl _⟩
    | succ n =>
      have gp : ((n + 1 : Nat) : Int) > 0 := by omega
      have wn : IntKind.i64.wrap (((n + 1 : Nat) : Int) - 1) = (n : Int) := by rw [i64_in _ (by omega)]; omega
      by_cases he : r.2 = 0
      · rw [loopR, if_pos he] at i3
        obtain ⟨⟨k2, i2', b2, s2, l2⟩, hv⟩ : ∃ v, (f r).1 = v := ⟨_, rfl⟩
        obtain ⟨r', hr'⟩ : ∃ r', (f r).2 = r' := ⟨_, rfl⟩
        have ho' := hfo r i1
        rw [hv, hr'] at i3
        rw [hr'] at ho'
        have pv := pvV_mk k2 i2' b2 s2 l2
        cases acc with
        | nil =>
          simp only [rdS]
          repeat' first
            | (with_reducible first | refine bo_run ?_ | refine bw_run ?_ | refine bd_run ?_ | refine Br.tt ?_ | refine Br.ff ?_); conv => whnf
            | (with_reducible refine br_not ?_)
            | (with_reducible first | refine br_dec_tt (by assumption) ?_ | refine br_dec_ff (by assumption) ?_ | refine br_dec_tt (by decide) ?_ | refine br_dec_ff (by decide) ?_); conv => whnf
            | (with_reducible refine br_dec_intro (fun _ => ?_) (fun _ => ?_)) <;> conv => whnf
            | (with_reducible first | refine br_beq_tt (by assumption) ?_ | refine br_beq_ff (by assumption) ?_ | refine br_beq_tt (by decide) ?_ | refine br_beq_ff (by decide) ?_); conv => whnf
            | (with_reducible refine br_beq_intro (fun _ => ?_) (fun _ => ?_)) <;> conv => whnf
            | (with_reducible first | refine br_bne_tt (by assumption) ?_ | refine br_bne_ff (by assumption) ?_ | refine br_bne_tt (by decide) ?_ | refine br_bne_ff (by decide) ?_); conv => whnf
            | (with_reducible refine br_bne_intro (fun _ => ?_) (fun _ => ?_)) <;> conv => whnf
            | (with_reducible first | refine br_of_true (by assumption) ?_ | refine br_of_false (by assumption) ?_); conv => whnf
            | (with_reducible refine br_intro (fun _ => ?_) (fun _ => ?_)) <;> conv => whnf
            | (with_reducible refine and_rfl ?_); conv => whnf
            | (refine and_late (fun _ => ?_) (by first | omega | (show _ = _; rfl) | exact trivial | exact ⟨rfl, trivial⟩ | exact ⟨rfl, rfl, trivial⟩ | exact (fun h => by cases h) | exact (fun _ => ⟨rfl, rfl⟩) | exact Nat.le_of_ble_eq_true rfl | (simp only [List.length_map, List.length_append, pbytes, Nat.mul_one, List.length_cons, List.length_nil]; first | done | omega))); conv => whnf
            | (with_reducible refine and_late (fun _ => ?_) ?_); conv => whnf
            | (with_reducible refine vcall_id ?_)
              first
              | (refine call_relM (x := r) (p := i64 r.2) (o := rc r) rfl rfl trivial rfl rfl ?_); conv => whnf
              | (refine call_relM (x := r) (p := .agg [i64 k2, i64 i2', u64 b2, str s2, .sl l2.length (cellsL l2)]) (o := rc r') rfl (by rw [we]; rfl) (by exact ⟨by omega, i1⟩) (by show pvV _ = _; rw [hv, pv]) (by show rc _ = _; rw [hr']) ?_); conv => whnf
            | (with_reducible refine Both.mk ?_ ?_) <;> conv => whnf
            | (refine ⟨[], _, _, rfl, ?_⟩); conv => whnf
            | (refine ⟨_, rfl, ?_⟩); conv => whnf
            | (refine ⟨_, unbytes_pbytes _, ?_⟩); conv => whnf
            | exact ⟨_, _, rfl, rfl⟩
            | exact rensG_pu _ _ _ _
            | rfl
            | (rw [snap_own rfl (show (pbytes _).length = _ * 1 from by rw [pbytes_length, Nat.mul_one])]); conv => whnf
            | fail
          · refine ⟨_, ?_, (n, r', [V.mk k2 i2' b2 s2 l2], 0), ⟨ho', by show 1 + n ≤ 12; simp only [List.length_nil] at i2; omega, i3⟩, rfl, by rw [wn]; rfl, ?_⟩
            · show n < n + 1
              omega
            · show _ = rdS g r' [V.mk k2 i2' b2 s2 l2] 0
              simp only [rdS, cellsL, cellsV_mk]
              rfl
        | cons v l =>
          have hc := cellsL_length (v :: l)
          simp only [rdS]
          repeat' first
            | (with_reducible first | refine bo_run ?_ | refine bw_run ?_ | refine bd_run ?_ | refine Br.tt ?_ | refine Br.ff ?_); conv => whnf
            | (with_reducible refine br_not ?_)
            | (with_reducible first | refine br_dec_tt (by assumption) ?_ | refine br_dec_ff (by assumption) ?_ | refine br_dec_tt (by decide) ?_ | refine br_dec_ff (by decide) ?_); conv => whnf
            | (with_reducible refine br_dec_intro (fun _ => ?_) (fun _ => ?_)) <;> conv => whnf
            | (with_reducible first | refine br_beq_tt (by assumption) ?_ | refine br_beq_ff (by assumption) ?_ | refine br_beq_tt (by decide) ?_ | refine br_beq_ff (by decide) ?_); conv => whnf
            | (with_reducible refine br_beq_intro (fun _ => ?_) (fun _ => ?_)) <;> conv => whnf
            | (with_reducible first | refine br_bne_tt (by assumption) ?_ | refine br_bne_ff (by assumption) ?_ | refine br_bne_tt (by decide) ?_ | refine br_bne_ff (by decide) ?_); conv => whnf
            | (with_reducible refine br_bne_intro (fun _ => ?_) (fun _ => ?_)) <;> conv => whnf
            | (with_reducible first | refine br_of_true (by assumption) ?_ | refine br_of_false (by assumption) ?_); conv => whnf
            | (with_reducible refine br_intro (fun _ => ?_) (fun _ => ?_)) <;> conv => whnf
            | (with_reducible refine and_rfl ?_); conv => whnf
            | (refine and_late (fun _ => ?_) (by first | omega | (show _ = _; rfl) | exact trivial | exact ⟨rfl, trivial⟩ | exact ⟨rfl, rfl, trivial⟩ | exact (fun h => by cases h) | exact (fun _ => ⟨rfl, rfl⟩) | exact Nat.le_of_ble_eq_true rfl | (simp only [List.length_map, List.length_append, pbytes, Nat.mul_one, List.length_cons, List.length_nil]; first | done | omega))); conv => whnf
            | (with_reducible refine and_late (fun _ => ?_) ?_); conv => whnf
            | (with_reducible refine vcall_id ?_)
              first
              | (refine call_relM (x := r) (p := i64 r.2) (o := rc r) rfl rfl trivial rfl rfl ?_); conv => whnf
              | (refine call_relM (x := r) (p := .agg [i64 k2, i64 i2', u64 b2, str s2, .sl l2.length (cellsL l2)]) (o := rc r') rfl (by rw [we]; rfl) (by exact ⟨by omega, i1⟩) (by show pvV _ = _; rw [hv, pv]) (by show rc _ = _; rw [hr']) ?_); conv => whnf
            | (with_reducible refine Both.mk ?_ ?_) <;> conv => whnf
            | (refine ⟨[], _, _, rfl, ?_⟩); conv => whnf
            | (refine ⟨_, rfl, ?_⟩); conv => whnf
            | (refine ⟨_, unbytes_pbytes _, ?_⟩); conv => whnf
            | exact ⟨_, _, rfl, rfl⟩
            | exact rensG_pu _ _ _ _
            | rfl
            | (rw [snap_own rfl (show (pbytes _).length = _ * 1 from by rw [pbytes_length, Nat.mul_one])]); conv => whnf
            | fail
          · refine ⟨_, ?_, (n, r', (v :: l) ++ [V.mk k2 i2' b2 s2 l2], gg + 1), ⟨ho', by show ((v :: l) ++ [V.mk k2 i2' b2 s2 l2]).length + n ≤ 12; rw [List.length_append, List.length_singleton]; omega, i3⟩, rfl, by rw [wn]; rfl, ?_⟩
            · show n < n + 1
              omega
            · have hcs : cellsL ((v :: l) ++ [V.mk k2 i2' b2 s2 l2]) = cellsL (v :: l) ++ [i64 k2, i64 i2', u64 b2, str s2, .sl l2.length (cellsL l2)] := by rw [cellsL_app, cellsL.eq_def [V.mk k2 i2' b2 s2 l2]]; simp only [cellsV_mk, cellsL, List.append_nil]
              show _ = rdS g r' (v :: (l ++ [V.mk k2 i2' b2 s2 l2])) (gg + 1)
              simp only [rdS]
              rw [← List.cons_append, hcs, List.map_append, List.length_append]
              rfl
      · rw [loopR, if_neg he] at i3
        cases i3
        cases L with
        | nil =>
          simp only [pvV_nil, rdS]
          repeat' first
            | (with_reducible first | refine bo_run ?_ | refine bw_run ?_ | refine bd_run ?_ | refine Br.tt ?_ | refine Br.ff ?_); conv => whnf
            | (with_reducible refine br_not ?_)
            | (with_reducible first | refine br_dec_tt (by assumption) ?_ | refine br_dec_ff (by assumption) ?_ | refine br_dec_tt (by decide) ?_ | refine br_dec_ff (by decide) ?_); conv => whnf
            | (with_reducible refine br_dec_intro (fun _ => ?_) (fun _ => ?_)) <;> conv => whnf
            | (with_reducible first | refine br_beq_tt (by assumption) ?_ | refine br_beq_ff (by assumption) ?_ | refine br_beq_tt (by decide) ?_ | refine br_beq_ff (by decide) ?_); conv => whnf
            | (with_reducible refine br_beq_intro (fun _ => ?_) (fun _ => ?_)) <;> conv => whnf
            | (with_reducible first | refine br_bne_tt (by assumption) ?_ | refine br_bne_ff (by assumption) ?_ | refine br_bne_tt (by decide) ?_ | refine br_bne_ff (by decide) ?_); conv => whnf
            | (with_reducible refine br_bne_intro (fun _ => ?_) (fun _ => ?_)) <;> conv => whnf
            | (with_reducible first | refine br_of_true (by assumption) ?_ | refine br_of_false (by assumption) ?_); conv => whnf
            | (with_reducible refine br_intro (fun _ => ?_) (fun _ => ?_)) <;> conv => whnf
            | (with_reducible refine and_rfl ?_); conv => whnf
            | (refine and_late (fun _ => ?_) (by first | omega | (show _ = _; rfl) | exact trivial | exact ⟨rfl, trivial⟩ | exact ⟨rfl, rfl, trivial⟩ | exact (fun h => by cases h) | exact (fun _ => ⟨rfl, rfl⟩) | exact Nat.le_of_ble_eq_true rfl | (simp only [List.length_map, List.length_append, pbytes, Nat.mul_one, List.length_cons, List.length_nil]; first | done | omega))); conv => whnf
            | (with_reducible refine and_late (fun _ => ?_) ?_); conv => whnf
            | (with_reducible refine vcall_id ?_)
              first
              | (refine call_relM (x := rL) (p := i64 rL.2) (o := rc rL) rfl rfl trivial rfl rfl ?_); conv => whnf
            | (with_reducible refine Both.mk ?_ ?_) <;> conv => whnf
            | (refine ⟨[], _, _, rfl, ?_⟩); conv => whnf
            | (refine ⟨_, rfl, ?_⟩); conv => whnf
            | (refine ⟨_, unbytes_pbytes _, ?_⟩); conv => whnf
            | exact ⟨_, _, rfl, rfl⟩
            | exact rensG_pu _ _ _ _
            | rfl
            | (rw [snap_own rfl (show (pbytes _).length = _ * 1 from by rw [pbytes_length, Nat.mul_one])]); conv => whnf
            | fail
          exact le_nilV
        | cons v l =>
          have hc := cellsL_length (v :: l)
          simp only [pvV_mk, rdS]
          repeat' first
            | (with_reducible first | refine bo_run ?_ | refine bw_run ?_ | refine bd_run ?_ | refine Br.tt ?_ | refine Br.ff ?_); conv => whnf
            | (with_reducible refine br_not ?_)
            | (with_reducible first | refine br_dec_tt (by assumption) ?_ | refine br_dec_ff (by assumption) ?_ | refine br_dec_tt (by decide) ?_ | refine br_dec_ff (by decide) ?_); conv => whnf
            | (with_reducible refine br_dec_intro (fun _ => ?_) (fun _ => ?_)) <;> conv => whnf
            | (with_reducible first | refine br_beq_tt (by assumption) ?_ | refine br_beq_ff (by assumption) ?_ | refine br_beq_tt (by decide) ?_ | refine br_beq_ff (by decide) ?_); conv => whnf
            | (with_reducible refine br_beq_intro (fun _ => ?_) (fun _ => ?_)) <;> conv => whnf
            | (with_reducible first | refine br_bne_tt (by assumption) ?_ | refine br_bne_ff (by assumption) ?_ | refine br_bne_tt (by decide) ?_ | refine br_bne_ff (by decide) ?_); conv => whnf
            | (with_reducible refine br_bne_intro (fun _ => ?_) (fun _ => ?_)) <;> conv => whnf
            | (with_reducible first | refine br_of_true (by assumption) ?_ | refine br_of_false (by assumption) ?_); conv => whnf
            | (with_reducible refine br_intro (fun _ => ?_) (fun _ => ?_)) <;> conv => whnf
            | (with_reducible refine and_rfl ?_); conv => whnf
            | (refine and_late (fun _ => ?_) (by first | omega | (show _ = _; rfl) | exact trivial | exact ⟨rfl, trivial⟩ | exact ⟨rfl, rfl, trivial⟩ | exact (fun h => by cases h) | exact (fun _ => ⟨rfl, rfl⟩) | exact Nat.le_of_ble_eq_true rfl | (simp only [List.length_map, List.length_append, pbytes, Nat.mul_one, List.length_cons, List.length_nil]; first | done | omega))); conv => whnf
            | (with_reducible refine and_late (fun _ => ?_) ?_); conv => whnf
            | (with_reducible refine vcall_id ?_)
              first
              | (refine call_relM (x := rL) (p := i64 rL.2) (o := rc rL) rfl rfl trivial rfl rfl ?_); conv => whnf
            | (with_reducible refine Both.mk ?_ ?_) <;> conv => whnf
            | (refine ⟨[], _, _, rfl, ?_⟩); conv => whnf
            | (refine ⟨_, rfl, ?_⟩); conv => whnf
            | (refine ⟨_, unbytes_pbytes _, ?_⟩); conv => whnf
            | exact ⟨_, _, rfl, rfl⟩
            | exact rensG_pu _ _ _ _
            | rfl
            | (rw [snap_own rfl (show (pbytes _).length = _ * 1 from by rw [pbytes_length, Nat.mul_one])]); conv => whnf
            | fail
          refine ⟨_, renG_agg_own2 (id := 3) (g := gg) (n := (v :: l).length) (sz := 5) (e := ty_Value) (xs := (cellsL (v :: l)).map AV.pu) (cs := cellsL (v :: l)) (a := i64 4) (b := i64 0) (c := u64 0) (d := str ⟨#[]⟩) rfl rfl (by rw [List.take_of_length_le (by rw [List.length_map]; omega), unpus_map]), .refl _⟩
theorem con_value_read_d : ∀ d : Nat, d ≤ 4 → Contract Try.prog id_value_read (RelM ty_pack_Reader (fun (r : R) => okR r) (fun r => rc r) (fun _ => [i64 d]) (fun r => pvV (readV d r).1) (fun r => rc (readV d r).2))
  | 0, h => by
    refine read_of (d := 0) (z := true) (f := fun r => (zeroV, r)) rfl (fun r h => h) (by omega) ?_
    refine (code_value_read).meth Known.nil (by rintro x -; first | exact Nat.le_of_ble_eq_true rfl | (obtain ⟨_, _⟩ := x; exact Nat.le_of_ble_eq_true rfl) | (obtain ⟨_, _, _⟩ := x; exact Nat.le_of_ble_eq_true rfl) | (obtain ⟨_, _, _, _⟩ := x; exact Nat.le_of_ble_eq_true rfl) | (obtain ⟨_, _, _, _, _⟩ := x; exact Nat.le_of_ble_eq_true rfl) | (obtain ⟨_, _, _, _, _, _⟩ := x; exact Nat.le_of_ble_eq_true rfl) | (obtain ⟨_, _, _, _, _, _, _⟩ := x; exact Nat.le_of_ble_eq_true rfl) | (obtain ⟨_, _, _, _, _, _, _, _⟩ := x; exact Nat.le_of_ble_eq_true rfl)) ?_
    rintro r g ⟨h, _⟩
    omega
  | d + 1, h => by
    have ih := con_value_read_d d (by omega)
    refine read_of (d := d + 1) (z := false) (f := readV d) rfl (fun r h => readV_okR d h) h ?_
    refine ih.mono ?_
    rintro ars objs K ⟨g, r, ⟨_, h1⟩, h2, h3, h4⟩
    exact ⟨g, r, h1, by rw [h2, show ((d + 1 : Nat) : Int) - 1 = (d : Int) from by omega], h3, h4⟩
theorem con_value_read : Contract Try.prog id_value_read (RelM ty_pack_Reader (fun (r : R) => okR r) (fun r => rc r) (fun _ => [i64 4]) (fun r => pvV (readV 4 r).1) (fun r => rc (readV 4 r).2)) := con_value_read_d 4 (Nat.le_refl _)
end Go.Proofs.Ytlodbaikbgbhjaa
