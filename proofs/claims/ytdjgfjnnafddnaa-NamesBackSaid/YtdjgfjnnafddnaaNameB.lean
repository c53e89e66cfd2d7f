/- usher/names: whose key any text is. -/
import Derived.Test.YtdjgfjnnafddnaaNameA
import Derived.Test.YtdjgfjnnafddnaaVmS
import Derived.Test.YtdjgfjnnafddnaaCStd
import Derived.IntWalk
set_option linter.unusedVariables false
set_option linter.unusedSimpArgs false
set_option maxRecDepth 20000
namespace Go.Proofs.Ytdjgfjnnafddnaa
open Go Go.Vm Go.IntWalk

def hasP (s t : ByteArray) : Bool := decide (t.size ≤ s.size) && strEq (s.extract 0 t.size) t
def F107 : List PV → Option PV
  | [.val (.string s), .val (.string t)] => some (.val (.bool (hasP s t)))
  | _ => none
theorem F107_some {ps p} (h : F107 ps = some p) : ∃ s t, ps = [.val (.string s), .val (.string t)] ∧ p = .val (.bool (hasP s t)) := by
  unfold F107 at h
  split at h
  · rename_i s t; exact ⟨s, t, rfl, by simpa using h.symm⟩
  · cases h
theorem con_stringslite_HasPrefix : Contract Try.prog id_stringslite_HasPrefix (DetP F107) := by
  refine (code_stringslite_HasPrefix).detP Known.nil ?_
  intro ps p h
  obtain ⟨s, t, rfl, rfl⟩ := F107_some h
  refine ⟨Nat.le_of_ble_eq_true rfl, ?_⟩
  clear h
  generalize hr : hasP s t = r
  repeat' first
    | (with_reducible refine bo_run ?_); conv => whnf
    | (with_reducible refine bw_run ?_); conv => whnf
    | (with_reducible refine bd_run ?_); conv => whnf
    | (with_reducible refine Br.tt ?_); conv => whnf
    | (with_reducible refine Br.ff ?_); conv => whnf
    | (with_reducible refine br_not ?_)
    | (with_reducible refine br_dec_tt (by assumption) ?_); conv => whnf
    | (with_reducible refine br_dec_ff (by assumption) ?_); conv => whnf
    | (with_reducible refine br_dec_tt (by decide) ?_); conv => whnf
    | (with_reducible refine br_dec_ff (by decide) ?_); conv => whnf
    | (with_reducible refine br_dec_intro (fun _ => ?_) (fun _ => ?_)) <;> conv => whnf
    | (with_reducible refine br_beq_tt (by assumption) ?_); conv => whnf
    | (with_reducible refine br_beq_ff (by assumption) ?_); conv => whnf
    | (with_reducible refine br_beq_tt (by decide) ?_); conv => whnf
    | (with_reducible refine br_beq_ff (by decide) ?_); conv => whnf
    | (with_reducible refine br_beq_intro (fun _ => ?_) (fun _ => ?_)) <;> conv => whnf
    | (with_reducible refine br_bne_tt (by assumption) ?_); conv => whnf
    | (with_reducible refine br_bne_ff (by assumption) ?_); conv => whnf
    | (with_reducible refine br_bne_tt (by decide) ?_); conv => whnf
    | (with_reducible refine br_bne_ff (by decide) ?_); conv => whnf
    | (with_reducible refine br_bne_intro (fun _ => ?_) (fun _ => ?_)) <;> conv => whnf
    | (with_reducible refine br_of_true (by assumption) ?_); conv => whnf
    | (with_reducible refine br_of_false (by assumption) ?_); conv => whnf
    | (with_reducible refine br_intro (fun _ => ?_) (fun _ => ?_)) <;> conv => whnf
    | (with_reducible refine and_rfl ?_); conv => whnf
    | (refine and_late (fun _ => ?_) (by first | omega | (show _ = _; rfl) | exact trivial | exact ⟨rfl, trivial⟩ | exact ⟨rfl, rfl, trivial⟩ | exact (fun h => by cases h) | exact (fun _ => ⟨rfl, rfl⟩) | exact Nat.le_of_ble_eq_true rfl | (simp only [List.length_map, List.length_append, pbytes, Nat.mul_one, List.length_cons, List.length_nil]; done) | (simp only [List.length_map, List.length_append, pbytes, Nat.mul_one, List.length_cons, List.length_nil]; omega))); conv => whnf
    | (with_reducible refine and_late (fun _ => ?_) ?_); conv => whnf
    | (with_reducible refine vcall_id ?_)
      first
      | (refine vcall_inl rfl rfl rfl rfl (Nat.le_of_ble_eq_true rfl) ?_)
    | (with_reducible refine Both.mk ?_ ?_) <;> conv => whnf
    | (refine ⟨[], _, _, rfl, ?_⟩); conv => whnf
    | (refine ⟨_, rfl, ?_⟩); conv => whnf
    | (refine ⟨_, unbytes_pbytes _, ?_⟩); conv => whnf
    | exact ⟨_, _, rfl, rfl⟩
    | exact rensG_pu _ _ _ _
    | rfl
    | (rw [snap_own rfl (show (pbytes _).length = _ * 1 from by rw [pbytes_length, Nat.mul_one])]); conv => whnf
    | fail
  all_goals subst hr
  · rename_i q _ _ _
    have : t.size ≤ s.size := by omega
    simp [packRes, renG, hasP, this]
  · rename_i q
    have : ¬ t.size ≤ s.size := by omega
    simp [packRes, renG, hasP, this]
def cutP (s t : ByteArray) : PV := .tup [.val (.string (if hasP s t then s.extract t.size s.size else s)), .val (.bool (hasP s t))]
def F103 : List PV → Option PV
  | [.val (.string s), .val (.string t)] => some (cutP s t)
  | _ => none
theorem F103_some {ps p} (h : F103 ps = some p) : ∃ s t, ps = [.val (.string s), .val (.string t)] ∧ p = cutP s t := by
  unfold F103 at h
  split at h
  · rename_i s t; exact ⟨s, t, rfl, by simpa using h.symm⟩
  · cases h
theorem con_stringslite_CutPrefix : Contract Try.prog id_stringslite_CutPrefix (DetP F103) := by
  refine (code_stringslite_CutPrefix).detP (Known.cons con_stringslite_HasPrefix Known.nil) ?_
  intro ps p h
  obtain ⟨s, t, rfl, rfl⟩ := F103_some h
  refine ⟨Nat.le_of_ble_eq_true rfl, ?_⟩
  clear h
  generalize hr : cutP s t = r
  repeat' first
    | (with_reducible refine bo_run ?_); conv => whnf
    | (with_reducible refine bw_run ?_); conv => whnf
    | (with_reducible refine bd_run ?_); conv => whnf
    | (with_reducible refine Br.tt ?_); conv => whnf
    | (with_reducible refine Br.ff ?_); conv => whnf
    | (with_reducible refine br_not ?_)
    | (with_reducible refine br_dec_tt (by assumption) ?_); conv => whnf
    | (with_reducible refine br_dec_ff (by assumption) ?_); conv => whnf
    | (with_reducible refine br_dec_tt (by decide) ?_); conv => whnf
    | (with_reducible refine br_dec_ff (by decide) ?_); conv => whnf
    | (with_reducible refine br_dec_intro (fun _ => ?_) (fun _ => ?_)) <;> conv => whnf
    | (with_reducible refine br_beq_tt (by assumption) ?_); conv => whnf
    | (with_reducible refine br_beq_ff (by assumption) ?_); conv => whnf
    | (with_reducible refine br_beq_tt (by decide) ?_); conv => whnf
    | (with_reducible refine br_beq_ff (by decide) ?_); conv => whnf
    | (with_reducible refine br_beq_intro (fun _ => ?_) (fun _ => ?_)) <;> conv => whnf
    | (with_reducible refine br_bne_tt (by assumption) ?_); conv => whnf
    | (with_reducible refine br_bne_ff (by assumption) ?_); conv => whnf
    | (with_reducible refine br_bne_tt (by decide) ?_); conv => whnf
    | (with_reducible refine br_bne_ff (by decide) ?_); conv => whnf
    | (with_reducible refine br_bne_intro (fun _ => ?_) (fun _ => ?_)) <;> conv => whnf
    | (with_reducible refine br_of_true (by assumption) ?_); conv => whnf
    | (with_reducible refine br_of_false (by assumption) ?_); conv => whnf
    | (with_reducible refine br_intro (fun _ => ?_) (fun _ => ?_)) <;> conv => whnf
    | (with_reducible refine and_rfl ?_); conv => whnf
    | (refine and_late (fun _ => ?_) (by first | omega | (show _ = _; rfl) | exact trivial | exact ⟨rfl, trivial⟩ | exact ⟨rfl, rfl, trivial⟩ | exact (fun h => by cases h) | exact (fun _ => ⟨rfl, rfl⟩) | exact Nat.le_of_ble_eq_true rfl | (simp only [List.length_map, List.length_append, pbytes, Nat.mul_one, List.length_cons, List.length_nil]; done) | (simp only [List.length_map, List.length_append, pbytes, Nat.mul_one, List.length_cons, List.length_nil]; omega))); conv => whnf
    | (with_reducible refine and_late (fun _ => ?_) ?_); conv => whnf
    | (with_reducible refine vcall_id ?_)
      first
      | (refine call_pure rfl rfl (.inl rfl) ?_); conv => whnf
      | (refine vcall_inl rfl rfl rfl rfl (Nat.le_of_ble_eq_true rfl) ?_)
    | (with_reducible refine Both.mk ?_ ?_) <;> conv => whnf
    | (refine ⟨[], _, _, rfl, ?_⟩); conv => whnf
    | (refine ⟨_, rfl, ?_⟩); conv => whnf
    | (refine ⟨_, unbytes_pbytes _, ?_⟩); conv => whnf
    | exact ⟨_, _, rfl, rfl⟩
    | exact rensG_pu _ _ _ _
    | rfl
    | (rw [snap_own rfl (show (pbytes _).length = _ * 1 from by rw [pbytes_length, Nat.mul_one])]); conv => whnf
    | fail
  all_goals subst hr
  · rename_i q _ _ _
    simp [packRes, renG, mkTup, unpus, cutP, q]
  · rename_i q _
    simp [hasP] at q
    omega
  · rename_i q
    simp [packRes, renG, mkTup, unpus, cutP, q]
theorem con_strings_CutPrefix : Contract Try.prog id_strings_CutPrefix (DetP F103) := by
  refine (code_strings_CutPrefix).detP (Known.cons con_stringslite_CutPrefix Known.nil) ?_
  intro ps p h
  obtain ⟨s, t, rfl, rfl⟩ := F103_some h
  refine ⟨Nat.le_of_ble_eq_true rfl, ?_⟩
  clear h
  generalize hr : cutP s t = r
  repeat' first
    | (with_reducible refine bo_run ?_); conv => whnf
    | (with_reducible refine bw_run ?_); conv => whnf
    | (with_reducible refine bd_run ?_); conv => whnf
    | (with_reducible refine Br.tt ?_); conv => whnf
    | (with_reducible refine Br.ff ?_); conv => whnf
    | (with_reducible refine br_not ?_)
    | (with_reducible refine br_dec_tt (by assumption) ?_); conv => whnf
    | (with_reducible refine br_dec_ff (by assumption) ?_); conv => whnf
    | (with_reducible refine br_dec_tt (by decide) ?_); conv => whnf
    | (with_reducible refine br_dec_ff (by decide) ?_); conv => whnf
    | (with_reducible refine br_dec_intro (fun _ => ?_) (fun _ => ?_)) <;> conv => whnf
    | (with_reducible refine br_beq_tt (by assumption) ?_); conv => whnf
    | (with_reducible refine br_beq_ff (by assumption) ?_); conv => whnf
    | (with_reducible refine br_beq_tt (by decide) ?_); conv => whnf
    | (with_reducible refine br_beq_ff (by decide) ?_); conv => whnf
    | (with_reducible refine br_beq_intro (fun _ => ?_) (fun _ => ?_)) <;> conv => whnf
    | (with_reducible refine br_bne_tt (by assumption) ?_); conv => whnf
    | (with_reducible refine br_bne_ff (by assumption) ?_); conv => whnf
    | (with_reducible refine br_bne_tt (by decide) ?_); conv => whnf
    | (with_reducible refine br_bne_ff (by decide) ?_); conv => whnf
    | (with_reducible refine br_bne_intro (fun _ => ?_) (fun _ => ?_)) <;> conv => whnf
    | (with_reducible refine br_of_true (by assumption) ?_); conv => whnf
    | (with_reducible refine br_of_false (by assumption) ?_); conv => whnf
    | (with_reducible refine br_intro (fun _ => ?_) (fun _ => ?_)) <;> conv => whnf
    | (with_reducible refine and_rfl ?_); conv => whnf
    | (refine and_late (fun _ => ?_) (by first | omega | (show _ = _; rfl) | exact trivial | exact ⟨rfl, trivial⟩ | exact ⟨rfl, rfl, trivial⟩ | exact (fun h => by cases h) | exact (fun _ => ⟨rfl, rfl⟩) | exact Nat.le_of_ble_eq_true rfl | (simp only [List.length_map, List.length_append, pbytes, Nat.mul_one, List.length_cons, List.length_nil]; done) | (simp only [List.length_map, List.length_append, pbytes, Nat.mul_one, List.length_cons, List.length_nil]; omega))); conv => whnf
    | (with_reducible refine and_late (fun _ => ?_) ?_); conv => whnf
    | (with_reducible refine vcall_id ?_)
      first
      | (refine call_pure rfl rfl (.inl rfl) ?_); conv => whnf
      | (refine vcall_inl rfl rfl rfl rfl (Nat.le_of_ble_eq_true rfl) ?_)
    | (with_reducible refine Both.mk ?_ ?_) <;> conv => whnf
    | (refine ⟨[], _, _, rfl, ?_⟩); conv => whnf
    | (refine ⟨_, rfl, ?_⟩); conv => whnf
    | (refine ⟨_, unbytes_pbytes _, ?_⟩); conv => whnf
    | exact ⟨_, _, rfl, rfl⟩
    | exact rensG_pu _ _ _ _
    | rfl
    | (rw [snap_own rfl (show (pbytes _).length = _ * 1 from by rw [pbytes_length, Nat.mul_one])]); conv => whnf
    | fail
  subst hr
  simp [packRes, renG, mkTup, unpus, cutP]
/-- the last place of a byte; -1: it is nowhere -/
def lastB (s : ByteArray) (c : Int) : Nat → Int
  | 0 => -1
  | n + 1 => if bt s n = c then n else lastB s c n
noncomputable def F104 : List PV → Option PV
  | [.val (.string s), .val (.int .u8 c)] => chk (s.size ≤ 9223372036854775807) (some (.val (.int .i64 (lastB s c s.size))))
  | _ => none
theorem F104_some {ps p} (h : F104 ps = some p) : ∃ s c, s.size ≤ 9223372036854775807 ∧ ps = [.val (.string s), .val (.int .u8 c)] ∧ p = .val (.int .i64 (lastB s c s.size)) := by
  unfold F104 at h
  split at h
  · rename_i s c
    obtain ⟨h1, h⟩ := chk_some h
    exact ⟨s, c, h1, rfl, by simpa using h.symm⟩
  · cases h
theorem F104_eq {s : ByteArray} {c : Int} (h : s.size ≤ 9223372036854775807) : F104 [.val (.string s), .val (.int .u8 c)] = some (.val (.int .i64 (lastB s c s.size))) := by
  unfold F104
  exact chk_pos h
theorem con_bytealg_LastIndexByteString : Contract Try.prog id_bytealg_LastIndexByteString (DetP F104) := by
  refine (code_bytealg_LastIndexByteString).detP Known.nil ?_
  intro ps p h
  obtain ⟨s, c, hs, rfl, rfl⟩ := F104_some h
  refine ⟨Nat.le_of_ble_eq_true rfl, ?_⟩
  clear h
  generalize hr : lastB s c s.size = r
  have e1 : IntKind.i64.wrap ((s.size : Int) - 1) = (s.size : Int) - 1 := i64_in _ (by omega)
  repeat' first
    | (with_reducible refine bo_run ?_); conv => whnf
    | (with_reducible refine bw_run ?_); conv => whnf
    | (with_reducible refine bd_run ?_); conv => whnf
    | (with_reducible refine Br.tt ?_); conv => whnf
    | (with_reducible refine Br.ff ?_); conv => whnf
    | (with_reducible refine br_not ?_)
    | (with_reducible refine br_dec_tt (by assumption) ?_); conv => whnf
    | (with_reducible refine br_dec_ff (by assumption) ?_); conv => whnf
    | (with_reducible refine br_dec_tt (by decide) ?_); conv => whnf
    | (with_reducible refine br_dec_ff (by decide) ?_); conv => whnf
    | (with_reducible refine br_dec_intro (fun _ => ?_) (fun _ => ?_)) <;> conv => whnf
    | (with_reducible refine br_beq_tt (by assumption) ?_); conv => whnf
    | (with_reducible refine br_beq_ff (by assumption) ?_); conv => whnf
    | (with_reducible refine br_beq_tt (by decide) ?_); conv => whnf
    | (with_reducible refine br_beq_ff (by decide) ?_); conv => whnf
    | (with_reducible refine br_beq_intro (fun _ => ?_) (fun _ => ?_)) <;> conv => whnf
    | (with_reducible refine br_bne_tt (by assumption) ?_); conv => whnf
    | (with_reducible refine br_bne_ff (by assumption) ?_); conv => whnf
    | (with_reducible refine br_bne_tt (by decide) ?_); conv => whnf
    | (with_reducible refine br_bne_ff (by decide) ?_); conv => whnf
    | (with_reducible refine br_bne_intro (fun _ => ?_) (fun _ => ?_)) <;> conv => whnf
    | (with_reducible refine br_of_true (by assumption) ?_); conv => whnf
    | (with_reducible refine br_of_false (by assumption) ?_); conv => whnf
    | (with_reducible refine br_intro (fun _ => ?_) (fun _ => ?_)) <;> conv => whnf
    | (with_reducible refine and_rfl ?_); conv => whnf
    | (refine and_late (fun _ => ?_) (by first | omega | (show _ = _; rfl) | exact trivial | exact ⟨rfl, trivial⟩ | exact ⟨rfl, rfl, trivial⟩ | exact (fun h => by cases h) | exact (fun _ => ⟨rfl, rfl⟩) | exact Nat.le_of_ble_eq_true rfl | (simp only [List.length_map, List.length_append, pbytes, Nat.mul_one, List.length_cons, List.length_nil]; done) | (simp only [List.length_map, List.length_append, pbytes, Nat.mul_one, List.length_cons, List.length_nil]; omega))); conv => whnf
    | (with_reducible refine and_late (fun _ => ?_) ?_); conv => whnf
    | (with_reducible refine vcall_id ?_)
      first
      | (refine vcall_inl rfl rfl rfl rfl (Nat.le_of_ble_eq_true rfl) ?_)
    | (with_reducible refine Both.mk ?_ ?_) <;> conv => whnf
    | (refine ⟨[], _, _, rfl, ?_⟩); conv => whnf
    | (refine ⟨_, rfl, ?_⟩); conv => whnf
    | (refine ⟨_, unbytes_pbytes _, ?_⟩); conv => whnf
    | exact ⟨_, _, rfl, rfl⟩
    | exact rensG_pu _ _ _ _
    | rfl
    | (rw [snap_own rfl (show (pbytes _).length = _ * 1 from by rw [pbytes_length, Nat.mul_one])]); conv => whnf
    | fail
  rw [e1]
  refine bw_loop (α := Nat) (fun k => [(0, .pu (.val (.string s))), (1, .pu (.val (.int .u8 c))), (5, .pu (.val (.int .i64 ((k : Int) - 1))))]) (fun _ => []) (fun k => k ≤ s.size ∧ lastB s c k = r) (fun k => k) s.size rfl rfl ⟨Nat.le_refl _, hr⟩ ?_
  rintro k ⟨h1, h2⟩
  have e2 : IntKind.i64.wrap ((k : Int) - 1 - 1) = (k : Int) - 1 - 1 := i64_in _ (by omega)
  repeat' first
    | (with_reducible refine bo_run ?_); conv => whnf
    | (with_reducible refine bw_run ?_); conv => whnf
    | (with_reducible refine bd_run ?_); conv => whnf
    | (with_reducible refine Br.tt ?_); conv => whnf
    | (with_reducible refine Br.ff ?_); conv => whnf
    | (with_reducible refine br_not ?_)
    | (with_reducible refine br_dec_tt (by assumption) ?_); conv => whnf
    | (with_reducible refine br_dec_ff (by assumption) ?_); conv => whnf
    | (with_reducible refine br_dec_tt (by decide) ?_); conv => whnf
    | (with_reducible refine br_dec_ff (by decide) ?_); conv => whnf
    | (with_reducible refine br_dec_intro (fun _ => ?_) (fun _ => ?_)) <;> conv => whnf
    | (with_reducible refine br_beq_tt (by assumption) ?_); conv => whnf
    | (with_reducible refine br_beq_ff (by assumption) ?_); conv => whnf
    | (with_reducible refine br_beq_tt (by decide) ?_); conv => whnf
    | (with_reducible refine br_beq_ff (by decide) ?_); conv => whnf
    | (with_reducible refine br_beq_intro (fun _ => ?_) (fun _ => ?_)) <;> conv => whnf
    | (with_reducible refine br_bne_tt (by assumption) ?_); conv => whnf
    | (with_reducible refine br_bne_ff (by assumption) ?_); conv => whnf
    | (with_reducible refine br_bne_tt (by decide) ?_); conv => whnf
    | (with_reducible refine br_bne_ff (by decide) ?_); conv => whnf
    | (with_reducible refine br_bne_intro (fun _ => ?_) (fun _ => ?_)) <;> conv => whnf
    | (with_reducible refine br_of_true (by assumption) ?_); conv => whnf
    | (with_reducible refine br_of_false (by assumption) ?_); conv => whnf
    | (with_reducible refine br_intro (fun _ => ?_) (fun _ => ?_)) <;> conv => whnf
    | (with_reducible refine and_rfl ?_); conv => whnf
    | (refine and_late (fun _ => ?_) (by first | omega | (show _ = _; rfl) | exact trivial | exact ⟨rfl, trivial⟩ | exact ⟨rfl, rfl, trivial⟩ | exact (fun h => by cases h) | exact (fun _ => ⟨rfl, rfl⟩) | exact Nat.le_of_ble_eq_true rfl | (simp only [List.length_map, List.length_append, pbytes, Nat.mul_one, List.length_cons, List.length_nil]; done) | (simp only [List.length_map, List.length_append, pbytes, Nat.mul_one, List.length_cons, List.length_nil]; omega))); conv => whnf
    | (with_reducible refine and_late (fun _ => ?_) ?_); conv => whnf
    | (with_reducible refine vcall_id ?_)
      first
      | (refine vcall_inl rfl rfl rfl rfl (Nat.le_of_ble_eq_true rfl) ?_)
    | (with_reducible refine Both.mk ?_ ?_) <;> conv => whnf
    | (refine ⟨[], _, _, rfl, ?_⟩); conv => whnf
    | (refine ⟨_, rfl, ?_⟩); conv => whnf
    | (refine ⟨_, unbytes_pbytes _, ?_⟩); conv => whnf
    | exact ⟨_, _, rfl, rfl⟩
    | exact rensG_pu _ _ _ _
    | rfl
    | (rw [snap_own rfl (show (pbytes _).length = _ * 1 from by rw [pbytes_length, Nat.mul_one])]); conv => whnf
    | fail
  · rename_i q1 q2 q3 q4
    obtain ⟨j, rfl⟩ : ∃ j, k = j + 1 := ⟨k - 1, by omega⟩
    have e3 : ((j + 1 : Nat) : Int) - 1 = (j : Int) := by omega
    rw [e3] at q4 ⊢
    rw [Int.toNat_natCast] at q4
    rw [← h2, lastB, if_pos q4]
    rfl
  · rename_i q1 q2 q3 q4
    obtain ⟨j, rfl⟩ : ∃ j, k = j + 1 := ⟨k - 1, by omega⟩
    have e3 : ((j + 1 : Nat) : Int) - 1 = (j : Int) := by omega
    rw [e3, Int.toNat_natCast] at q4
    refine ⟨_, ?_, j, ⟨by omega, ?_⟩, rfl, ?_, rfl⟩
    · omega
    · rw [← h2, lastB, if_neg q4]
    · rw [e2, show ((j + 1 : Nat) : Int) - 1 - 1 = (j : Int) - 1 from by omega]
      rfl
  · have : k = 0 := by omega
    subst this
    rw [← h2]
    rfl
theorem con_strings_LastIndexByte : Contract Try.prog id_strings_LastIndexByte (DetP F104) := by
  refine (code_strings_LastIndexByte).detP (Known.cons con_bytealg_LastIndexByteString Known.nil) ?_
  intro ps p h
  obtain ⟨s, c, hs, rfl, rfl⟩ := F104_some h
  refine ⟨Nat.le_of_ble_eq_true rfl, ?_⟩
  clear h
  generalize hr : lastB s c s.size = r
  repeat' first
    | (with_reducible refine bo_run ?_); conv => whnf
    | (with_reducible refine bw_run ?_); conv => whnf
    | (with_reducible refine bd_run ?_); conv => whnf
    | (with_reducible refine Br.tt ?_); conv => whnf
    | (with_reducible refine Br.ff ?_); conv => whnf
    | (with_reducible refine br_not ?_)
    | (with_reducible refine br_dec_tt (by assumption) ?_); conv => whnf
    | (with_reducible refine br_dec_ff (by assumption) ?_); conv => whnf
    | (with_reducible refine br_dec_tt (by decide) ?_); conv => whnf
    | (with_reducible refine br_dec_ff (by decide) ?_); conv => whnf
    | (with_reducible refine br_dec_intro (fun _ => ?_) (fun _ => ?_)) <;> conv => whnf
    | (with_reducible refine br_beq_tt (by assumption) ?_); conv => whnf
    | (with_reducible refine br_beq_ff (by assumption) ?_); conv => whnf
    | (with_reducible refine br_beq_tt (by decide) ?_); conv => whnf
    | (with_reducible refine br_beq_ff (by decide) ?_); conv => whnf
    | (with_reducible refine br_beq_intro (fun _ => ?_) (fun _ => ?_)) <;> conv => whnf
    | (with_reducible refine br_bne_tt (by assumption) ?_); conv => whnf
    | (with_reducible refine br_bne_ff (by assumption) ?_); conv => whnf
    | (with_reducible refine br_bne_tt (by decide) ?_); conv => whnf
    | (with_reducible refine br_bne_ff (by decide) ?_); conv => whnf
    | (with_reducible refine br_bne_intro (fun _ => ?_) (fun _ => ?_)) <;> conv => whnf
    | (with_reducible refine br_of_true (by assumption) ?_); conv => whnf
    | (with_reducible refine br_of_false (by assumption) ?_); conv => whnf
    | (with_reducible refine br_intro (fun _ => ?_) (fun _ => ?_)) <;> conv => whnf
    | (with_reducible refine and_rfl ?_); conv => whnf
    | (refine and_late (fun _ => ?_) (by first | omega | (show _ = _; rfl) | exact trivial | exact ⟨rfl, trivial⟩ | exact ⟨rfl, rfl, trivial⟩ | exact (fun h => by cases h) | exact (fun _ => ⟨rfl, rfl⟩) | exact Nat.le_of_ble_eq_true rfl | (simp only [List.length_map, List.length_append, pbytes, Nat.mul_one, List.length_cons, List.length_nil]; done) | (simp only [List.length_map, List.length_append, pbytes, Nat.mul_one, List.length_cons, List.length_nil]; omega))); conv => whnf
    | (with_reducible refine and_late (fun _ => ?_) ?_); conv => whnf
    | (with_reducible refine vcall_id ?_)
      first
      | (refine call_pure rfl rfl (.inl rfl) ?_); conv => whnf
      | (refine vcall_inl rfl rfl rfl rfl (Nat.le_of_ble_eq_true rfl) ?_)
    | (with_reducible refine Both.mk ?_ ?_) <;> conv => whnf
    | (refine ⟨[], _, _, rfl, ?_⟩); conv => whnf
    | (refine ⟨_, rfl, ?_⟩); conv => whnf
    | (refine ⟨_, unbytes_pbytes _, ?_⟩); conv => whnf
    | exact ⟨_, _, rfl, rfl⟩
    | exact rensG_pu _ _ _ _
    | rfl
    | (rw [snap_own rfl (show (pbytes _).length = _ * 1 from by rw [pbytes_length, Nat.mul_one])]); conv => whnf
    | fail
  refine call_pure rfl (F104_eq hs) (.inl rfl) ?_
  conv => whnf
  repeat' first
    | (with_reducible refine bo_run ?_); conv => whnf
    | (with_reducible refine bw_run ?_); conv => whnf
    | (with_reducible refine bd_run ?_); conv => whnf
    | (with_reducible refine Br.tt ?_); conv => whnf
    | (with_reducible refine Br.ff ?_); conv => whnf
    | (with_reducible refine br_not ?_)
    | (with_reducible refine br_dec_tt (by assumption) ?_); conv => whnf
    | (with_reducible refine br_dec_ff (by assumption) ?_); conv => whnf
    | (with_reducible refine br_dec_tt (by decide) ?_); conv => whnf
    | (with_reducible refine br_dec_ff (by decide) ?_); conv => whnf
    | (with_reducible refine br_dec_intro (fun _ => ?_) (fun _ => ?_)) <;> conv => whnf
    | (with_reducible refine br_beq_tt (by assumption) ?_); conv => whnf
    | (with_reducible refine br_beq_ff (by assumption) ?_); conv => whnf
    | (with_reducible refine br_beq_tt (by decide) ?_); conv => whnf
    | (with_reducible refine br_beq_ff (by decide) ?_); conv => whnf
    | (with_reducible refine br_beq_intro (fun _ => ?_) (fun _ => ?_)) <;> conv => whnf
    | (with_reducible refine br_bne_tt (by assumption) ?_); conv => whnf
    | (with_reducible refine br_bne_ff (by assumption) ?_); conv => whnf
    | (with_reducible refine br_bne_tt (by decide) ?_); conv => whnf
    | (with_reducible refine br_bne_ff (by decide) ?_); conv => whnf
    | (with_reducible refine br_bne_intro (fun _ => ?_) (fun _ => ?_)) <;> conv => whnf
    | (with_reducible refine br_of_true (by assumption) ?_); conv => whnf
    | (with_reducible refine br_of_false (by assumption) ?_); conv => whnf
    | (with_reducible refine br_intro (fun _ => ?_) (fun _ => ?_)) <;> conv => whnf
    | (with_reducible refine and_rfl ?_); conv => whnf
    | (refine and_late (fun _ => ?_) (by first | omega | (show _ = _; rfl) | exact trivial | exact ⟨rfl, trivial⟩ | exact ⟨rfl, rfl, trivial⟩ | exact (fun h => by cases h) | exact (fun _ => ⟨rfl, rfl⟩) | exact Nat.le_of_ble_eq_true rfl | (simp only [List.length_map, List.length_append, pbytes, Nat.mul_one, List.length_cons, List.length_nil]; done) | (simp only [List.length_map, List.length_append, pbytes, Nat.mul_one, List.length_cons, List.length_nil]; omega))); conv => whnf
    | (with_reducible refine and_late (fun _ => ?_) ?_); conv => whnf
    | (with_reducible refine vcall_id ?_)
      first
      | (refine call_pure rfl rfl (.inl rfl) ?_); conv => whnf
      | (refine vcall_inl rfl rfl rfl rfl (Nat.le_of_ble_eq_true rfl) ?_)
    | (with_reducible refine Both.mk ?_ ?_) <;> conv => whnf
    | (refine ⟨[], _, _, rfl, ?_⟩); conv => whnf
    | (refine ⟨_, rfl, ?_⟩); conv => whnf
    | (refine ⟨_, unbytes_pbytes _, ?_⟩); conv => whnf
    | exact ⟨_, _, rfl, rfl⟩
    | exact rensG_pu _ _ _ _
    | rfl
    | (rw [snap_own rfl (show (pbytes _).length = _ * 1 from by rw [pbytes_length, Nat.mul_one])]); conv => whnf
    | fail
  subst hr
  rfl
theorem size_w : (⟨#[119, 47]⟩ : ByteArray).size = 2 := rfl
def rowOf (s : ByteArray) : PV := if hasP s ⟨#[119, 47]⟩ && name (s.extract 2 s.size) then .tup [.val (.string (s.extract 2 s.size)), .val (.bool true)] else .tup [.val (.string ⟨#[]⟩), .val (.bool false)]
def F44 : List PV → Option PV
  | [.val (.string s)] => some (rowOf s)
  | _ => none
theorem F44_some {ps p} (h : F44 ps = some p) : ∃ s, ps = [.val (.string s)] ∧ p = rowOf s := by
  unfold F44 at h
  split at h
  · rename_i s; exact ⟨s, rfl, by simpa using h.symm⟩
  · cases h
theorem con_names_ParseRow : Contract Try.prog id_names_ParseRow (DetP F44) := by
  refine (code_names_ParseRow).detP (Known.cons con_strings_CutPrefix (Known.cons con_names_Name Known.nil)) ?_
  intro ps p h
  obtain ⟨s, rfl, rfl⟩ := F44_some h
  refine ⟨Nat.le_of_ble_eq_true rfl, ?_⟩
  clear h
  generalize hr : rowOf s = r
  repeat' first
    | (with_reducible refine bo_run ?_); conv => whnf
    | (with_reducible refine bw_run ?_); conv => whnf
    | (with_reducible refine bd_run ?_); conv => whnf
    | (with_reducible refine Br.tt ?_); conv => whnf
    | (with_reducible refine Br.ff ?_); conv => whnf
    | (with_reducible refine br_not ?_)
    | (with_reducible refine br_dec_tt (by assumption) ?_); conv => whnf
    | (with_reducible refine br_dec_ff (by assumption) ?_); conv => whnf
    | (with_reducible refine br_dec_tt (by decide) ?_); conv => whnf
    | (with_reducible refine br_dec_ff (by decide) ?_); conv => whnf
    | (with_reducible refine br_dec_intro (fun _ => ?_) (fun _ => ?_)) <;> conv => whnf
    | (with_reducible refine br_beq_tt (by assumption) ?_); conv => whnf
    | (with_reducible refine br_beq_ff (by assumption) ?_); conv => whnf
    | (with_reducible refine br_beq_tt (by decide) ?_); conv => whnf
    | (with_reducible refine br_beq_ff (by decide) ?_); conv => whnf
    | (with_reducible refine br_beq_intro (fun _ => ?_) (fun _ => ?_)) <;> conv => whnf
    | (with_reducible refine br_bne_tt (by assumption) ?_); conv => whnf
    | (with_reducible refine br_bne_ff (by assumption) ?_); conv => whnf
    | (with_reducible refine br_bne_tt (by decide) ?_); conv => whnf
    | (with_reducible refine br_bne_ff (by decide) ?_); conv => whnf
    | (with_reducible refine br_bne_intro (fun _ => ?_) (fun _ => ?_)) <;> conv => whnf
    | (with_reducible refine br_of_true (by assumption) ?_); conv => whnf
    | (with_reducible refine br_of_false (by assumption) ?_); conv => whnf
    | (with_reducible refine br_intro (fun _ => ?_) (fun _ => ?_)) <;> conv => whnf
    | (with_reducible refine and_rfl ?_); conv => whnf
    | (refine and_late (fun _ => ?_) (by first | omega | (show _ = _; rfl) | exact trivial | exact ⟨rfl, trivial⟩ | exact ⟨rfl, rfl, trivial⟩ | exact (fun h => by cases h) | exact (fun _ => ⟨rfl, rfl⟩) | exact Nat.le_of_ble_eq_true rfl | (simp only [List.length_map, List.length_append, pbytes, Nat.mul_one, List.length_cons, List.length_nil]; done) | (simp only [List.length_map, List.length_append, pbytes, Nat.mul_one, List.length_cons, List.length_nil]; omega))); conv => whnf
    | (with_reducible refine and_late (fun _ => ?_) ?_); conv => whnf
    | (with_reducible refine vcall_id ?_)
      first
      | (refine call_pure rfl rfl (.inl rfl) ?_); conv => whnf
      | (refine vcall_inl rfl rfl rfl rfl (Nat.le_of_ble_eq_true rfl) ?_)
    | (with_reducible refine Both.mk ?_ ?_) <;> conv => whnf
    | (refine ⟨[], _, _, rfl, ?_⟩); conv => whnf
    | (refine ⟨_, rfl, ?_⟩); conv => whnf
    | (refine ⟨_, unbytes_pbytes _, ?_⟩); conv => whnf
    | exact ⟨_, _, rfl, rfl⟩
    | exact rensG_pu _ _ _ _
    | rfl
    | (rw [snap_own rfl (show (pbytes _).length = _ * 1 from by rw [pbytes_length, Nat.mul_one])]); conv => whnf
    | fail
  all_goals subst hr
  · rename_i q1 q2
    rw [if_pos q1, size_w] at q2 ⊢
    simp [packRes, renG, mkTup, unpus, rowOf, q1, q2]
  · rename_i q1 q2
    rw [if_pos q1, size_w] at q2
    simp [packRes, renG, mkTup, unpus, rowOf, q1, q2]
  · rename_i q1
    simp [packRes, renG, mkTup, unpus, rowOf, q1]
def goN : List Int → Nat → Nat → Nat
  | [], _, n => n
  | c :: r, i, n => if c < 48 ∨ c > 57 ∨ (i = 0 ∧ c = 48) ∨ i > 8 then 0 else goN r (i + 1) (10 * n + (c - 48).toNat)
def numS (s : ByteArray) : Nat := goN (bytesOf s) 0 0
noncomputable def F89 : List PV → Option PV
  | [.val (.string s)] => chk (s.size ≤ 9223372036854775806) (some (.val (.int .i64 (numS s))))
  | _ => none
theorem F89_some {ps p} (h : F89 ps = some p) : ∃ s, s.size ≤ 9223372036854775806 ∧ ps = [.val (.string s)] ∧ p = .val (.int .i64 (numS s)) := by
  unfold F89 at h
  split at h
  · rename_i s
    obtain ⟨h1, h⟩ := chk_some h
    exact ⟨s, h1, rfl, by simpa using h.symm⟩
  · cases h
theorem F89_eq {s : ByteArray} (h : s.size ≤ 9223372036854775806) : F89 [.val (.string s)] = some (.val (.int .i64 (numS s))) := by
  unfold F89
  exact chk_pos h
theorem drop_bt (s : ByteArray) (i : Nat) (h : i < s.size) : (bytesOf s).drop i = bt s i :: (bytesOf s).drop (i + 1) := by
  have hl : i < (bytesOf s).length := by rw [bytesOf_length]; exact h
  rw [List.drop_eq_getElem_cons hl]
  congr 1
  simp [bytesOf, bt, h]
  rfl
theorem con_names_number : Contract Try.prog id_names_number (DetP F89) := by
  refine (code_names_number).detP Known.nil ?_
  intro ps p h
  obtain ⟨s, hs, rfl, rfl⟩ := F89_some h
  refine ⟨Nat.le_of_ble_eq_true rfl, ?_⟩
  clear h
  generalize hr : numS s = r
  repeat' first
    | (with_reducible refine bo_run ?_); conv => whnf
    | (with_reducible refine bw_run ?_); conv => whnf
    | (with_reducible refine bd_run ?_); conv => whnf
    | (with_reducible refine Br.tt ?_); conv => whnf
    | (with_reducible refine Br.ff ?_); conv => whnf
    | (with_reducible refine br_not ?_)
    | (with_reducible refine br_dec_tt (by assumption) ?_); conv => whnf
    | (with_reducible refine br_dec_ff (by assumption) ?_); conv => whnf
    | (with_reducible refine br_dec_tt (by decide) ?_); conv => whnf
    | (with_reducible refine br_dec_ff (by decide) ?_); conv => whnf
    | (with_reducible refine br_dec_intro (fun _ => ?_) (fun _ => ?_)) <;> conv => whnf
    | (with_reducible refine br_beq_tt (by assumption) ?_); conv => whnf
    | (with_reducible refine br_beq_ff (by assumption) ?_); conv => whnf
    | (with_reducible refine br_beq_tt (by decide) ?_); conv => whnf
    | (with_reducible refine br_beq_ff (by decide) ?_); conv => whnf
    | (with_reducible refine br_beq_intro (fun _ => ?_) (fun _ => ?_)) <;> conv => whnf
    | (with_reducible refine br_bne_tt (by assumption) ?_); conv => whnf
    | (with_reducible refine br_bne_ff (by assumption) ?_); conv => whnf
    | (with_reducible refine br_bne_tt (by decide) ?_); conv => whnf
    | (with_reducible refine br_bne_ff (by decide) ?_); conv => whnf
    | (with_reducible refine br_bne_intro (fun _ => ?_) (fun _ => ?_)) <;> conv => whnf
    | (with_reducible refine br_of_true (by assumption) ?_); conv => whnf
    | (with_reducible refine br_of_false (by assumption) ?_); conv => whnf
    | (with_reducible refine br_intro (fun _ => ?_) (fun _ => ?_)) <;> conv => whnf
    | (with_reducible refine and_rfl ?_); conv => whnf
    | (refine and_late (fun _ => ?_) (by first | omega | (show _ = _; rfl) | exact trivial | exact ⟨rfl, trivial⟩ | exact ⟨rfl, rfl, trivial⟩ | exact (fun h => by cases h) | exact (fun _ => ⟨rfl, rfl⟩) | exact Nat.le_of_ble_eq_true rfl | (simp only [List.length_map, List.length_append, pbytes, Nat.mul_one, List.length_cons, List.length_nil]; done) | (simp only [List.length_map, List.length_append, pbytes, Nat.mul_one, List.length_cons, List.length_nil]; omega))); conv => whnf
    | (with_reducible refine and_late (fun _ => ?_) ?_); conv => whnf
    | (with_reducible refine vcall_id ?_)
      first
      | (refine vcall_inl rfl rfl rfl rfl (Nat.le_of_ble_eq_true rfl) ?_)
    | (with_reducible refine Both.mk ?_ ?_) <;> conv => whnf
    | (refine ⟨[], _, _, rfl, ?_⟩); conv => whnf
    | (refine ⟨_, rfl, ?_⟩); conv => whnf
    | (refine ⟨_, unbytes_pbytes _, ?_⟩); conv => whnf
    | exact ⟨_, _, rfl, rfl⟩
    | exact rensG_pu _ _ _ _
    | rfl
    | (rw [snap_own rfl (show (pbytes _).length = _ * 1 from by rw [pbytes_length, Nat.mul_one])]); conv => whnf
    | fail
  refine bw_loop (α := Nat × Nat) (fun y => [(0, .pu (.val (.string s))), (3, .pu (.val (.int .i64 (y.2 : Int)))), (7, .pu (.val (.int .i64 s.size))), (8, .pu (.val (.int .i64 (y.1 : Int))))]) (fun _ => [])
    (fun y => y.1 ≤ s.size ∧ goN ((bytesOf s).drop y.1) y.1 y.2 = r ∧ y.1 ≤ 9 ∧ y.2 < 10 ^ y.1) (fun y => s.size - y.1) (0, 0) rfl rfl ⟨Nat.zero_le _, by simpa [numS] using hr, by omega, by simp⟩ ?_
  rintro ⟨i, n⟩ ⟨h1, h2, h3, h4⟩
  simp only at h1 h2 h3 h4
  have bad : i < s.size → (bt s i < 48 ∨ bt s i > 57 ∨ (i = 0 ∧ bt s i = 48) ∨ i > 8) → r = 0 := fun q1 q2 => by
    rw [← h2, drop_bt s i q1, goN, if_pos q2]
  have good : i < s.size → ¬ (bt s i < 48 ∨ bt s i > 57 ∨ (i = 0 ∧ bt s i = 48) ∨ i > 8) → goN ((bytesOf s).drop (i + 1)) (i + 1) (10 * n + (bt s i - 48).toNat) = r ∧ i + 1 ≤ 9 ∧ 10 * n + (bt s i - 48).toNat < 10 ^ (i + 1) ∧
      IntKind.i64.wrap (IntKind.i64.wrap (10 * (n : Int)) + IntKind.i64.wrap (IntKind.u8.wrap (bt s i - 48))) = ((10 * n + (bt s i - 48).toNat : Nat) : Int) := fun q1 q2 => by
    have hn : n < 10 ^ 9 := Nat.lt_of_lt_of_le h4 (Nat.pow_le_pow_right (by omega) h3)
    have hp : 10 * n + 10 ≤ 10 ^ (i + 1) := by rw [Nat.pow_succ]; omega
    refine ⟨by rw [← h2, drop_bt s i q1, goN, if_neg q2], by omega, by omega, ?_⟩
    rw [u8_in _ (by omega), i64_in (10 * (n : Int)) (by omega), i64_in (bt s i - 48) (by omega), i64_in _ (by omega)]
    omega
  repeat' first
    | (with_reducible refine bo_run ?_); conv => whnf
    | (with_reducible refine bw_run ?_); conv => whnf
    | (with_reducible refine bd_run ?_); conv => whnf
    | (with_reducible refine Br.tt ?_); conv => whnf
    | (with_reducible refine Br.ff ?_); conv => whnf
    | (with_reducible refine br_not ?_)
    | (with_reducible refine br_dec_tt (by assumption) ?_); conv => whnf
    | (with_reducible refine br_dec_ff (by assumption) ?_); conv => whnf
    | (with_reducible refine br_dec_tt (by decide) ?_); conv => whnf
    | (with_reducible refine br_dec_ff (by decide) ?_); conv => whnf
    | (with_reducible refine br_dec_intro (fun _ => ?_) (fun _ => ?_)) <;> conv => whnf
    | (with_reducible refine br_beq_tt (by assumption) ?_); conv => whnf
    | (with_reducible refine br_beq_ff (by assumption) ?_); conv => whnf
    | (with_reducible refine br_beq_tt (by decide) ?_); conv => whnf
    | (with_reducible refine br_beq_ff (by decide) ?_); conv => whnf
    | (with_reducible refine br_beq_intro (fun _ => ?_) (fun _ => ?_)) <;> conv => whnf
    | (with_reducible refine br_bne_tt (by assumption) ?_); conv => whnf
    | (with_reducible refine br_bne_ff (by assumption) ?_); conv => whnf
    | (with_reducible refine br_bne_tt (by decide) ?_); conv => whnf
    | (with_reducible refine br_bne_ff (by decide) ?_); conv => whnf
    | (with_reducible refine br_bne_intro (fun _ => ?_) (fun _ => ?_)) <;> conv => whnf
    | (with_reducible refine br_of_true (by assumption) ?_); conv => whnf
    | (with_reducible refine br_of_false (by assumption) ?_); conv => whnf
    | (with_reducible refine br_intro (fun _ => ?_) (fun _ => ?_)) <;> conv => whnf
    | (with_reducible refine and_rfl ?_); conv => whnf
    | (refine and_late (fun _ => ?_) (by first | omega | (show _ = _; rfl) | exact trivial | exact ⟨rfl, trivial⟩ | exact ⟨rfl, rfl, trivial⟩ | exact (fun h => by cases h) | exact (fun _ => ⟨rfl, rfl⟩) | exact Nat.le_of_ble_eq_true rfl | (simp only [List.length_map, List.length_append, pbytes, Nat.mul_one, List.length_cons, List.length_nil]; done) | (simp only [List.length_map, List.length_append, pbytes, Nat.mul_one, List.length_cons, List.length_nil]; omega))); conv => whnf
    | (with_reducible refine and_late (fun _ => ?_) ?_); conv => whnf
    | (with_reducible refine vcall_id ?_)
      first
      | (refine vcall_inl rfl rfl rfl rfl (Nat.le_of_ble_eq_true rfl) ?_)
    | (with_reducible refine Both.mk ?_ ?_) <;> conv => whnf
    | (refine ⟨[], _, _, rfl, ?_⟩); conv => whnf
    | (refine ⟨_, rfl, ?_⟩); conv => whnf
    | (refine ⟨_, unbytes_pbytes _, ?_⟩); conv => whnf
    | exact ⟨_, _, rfl, rfl⟩
    | exact rensG_pu _ _ _ _
    | rfl
    | (rw [snap_own rfl (show (pbytes _).length = _ * 1 from by rw [pbytes_length, Nat.mul_one])]); conv => whnf
    | fail
  all_goals simp only [Int.toNat_natCast] at *
  · rw [bad (by omega) (by omega)]; rfl
  · rw [bad (by omega) (by omega)]; rfl
  · rw [bad (by omega) (by omega)]; rfl
  · rw [bad (by omega) (by omega)]; rfl
  · obtain ⟨g1, g2, g3, g4⟩ := good (by omega) (by omega)
    refine ⟨_, ?_, (i + 1, _), ⟨by simp only; omega, g1, g2, g3⟩, rfl, ?_, trivial⟩
    · simp only; omega
    · rw [g4, i64_in _ (by omega)]
      rfl
  · rw [bad (by omega) (by omega)]; rfl
  · obtain ⟨g1, g2, g3, g4⟩ := good (by omega) (by omega)
    refine ⟨_, ?_, (i + 1, _), ⟨by simp only; omega, g1, g2, g3⟩, rfl, ?_, trivial⟩
    · simp only; omega
    · rw [g4, i64_in _ (by omega)]
      rfl
  · rename_i q
    have : i = s.size := by omega
    rw [this, List.drop_of_length_le (by rw [bytesOf_length]; omega)] at h2
    simp only [goN] at h2
    rw [h2]
    rfl
theorem dec_digit : ∀ (n : Nat), ∀ x ∈ dec n, 48 ≤ x ∧ x ≤ 57 := by
  intro n
  induction n using Nat.strongRecOn with
  | ind n ih =>
    intro x hx
    rw [dec] at hx
    split at hx
    · simp only [List.mem_singleton] at hx
      omega
    · rcases List.mem_append.1 hx with hx | hx
      · exact ih (n / 10) (by omega) x hx
      · simp only [List.mem_singleton] at hx
        omega
theorem dec_ok (n : Nat) : okB (dec n) := fun x hx => by
  have := dec_digit n x hx
  omega
theorem bytesOf_branch (s : ByteArray) (n : Nat) : bytesOf (branch s n) = [104, 47] ++ bytesOf s ++ [47] ++ dec n := by
  unfold branch
  rw [bytesOf_append, bytesOf_append, bytesOf_append, bytesOf_strOf (dec_ok n)]
  rfl
theorem name_slash {s : ByteArray} (h : name s = true) : 47 ∉ bytesOf s := by
  intro hm
  obtain ⟨i, hi, hx⟩ := List.getElem_of_mem hm
  rw [bytesOf_length] at hi
  unfold name at h
  simp only [Bool.and_eq_true] at h
  have h1 := of_decide_eq_true h.2 i hi
  have h2 := bt_get s i hi
  rw [List.getElem?_eq_getElem (by rw [bytesOf_length]; exact hi), hx] at h2
  simp only [Option.some.injEq] at h2
  rw [← h2] at h1
  revert h1
  decide +kernel
theorem lastB_spec (s : ByteArray) (c : Int) : ∀ k, k ≤ s.size → (lastB s c k = -1 ∧ ∀ j, j < k → bt s j ≠ c) ∨ ∃ i : Nat, i < k ∧ lastB s c k = i ∧ bt s i = c ∧ ∀ j, i < j → j < k → bt s j ≠ c
  | 0, _ => .inl ⟨rfl, fun j h => by omega⟩
  | k + 1, h => by
    unfold lastB
    split
    · rename_i h1
      exact .inr ⟨k, by omega, rfl, h1, fun j a b => by omega⟩
    · rename_i h1
      rcases lastB_spec s c k (by omega) with ⟨a, b⟩ | ⟨i, a, b, d, e⟩
      · refine .inl ⟨a, fun j hj => ?_⟩
        rcases Nat.lt_succ_iff_lt_or_eq.1 hj with hj | rfl
        · exact b j hj
        · exact h1
      · refine .inr ⟨i, by omega, b, d, fun j x y => ?_⟩
        rcases Nat.lt_succ_iff_lt_or_eq.1 y with y | rfl
        · exact e j x y
        · exact h1
/-- the last place of a byte, where the text is known -/
theorem lastB_of {s : ByteArray} {c : Int} {a d : List Int} (h : bytesOf s = a ++ c :: d) (hd : c ∉ d) : lastB s c s.size = a.length := by
  have hl : s.size = a.length + (d.length + 1) := by rw [← bytesOf_length, h]; simp
  have key : ∀ j, a.length < j → j < s.size → bt s j ≠ c := fun j h1 h2 e => by
    have := bt_get s j h2
    rw [h, List.getElem?_append_right (by omega), e] at this
    obtain ⟨m, hm⟩ : ∃ m, j - a.length = m + 1 := ⟨j - a.length - 1, by omega⟩
    rw [hm, List.getElem?_cons_succ] at this
    exact hd (List.mem_of_getElem? this)
  have hc : bt s a.length = c := by
    have := bt_get s a.length (by omega)
    rw [h, List.getElem?_append_right (Nat.le_refl _)] at this
    simpa using this.symm
  rcases lastB_spec s c s.size (Nat.le_refl _) with ⟨_, b⟩ | ⟨i, a1, b, d1, e⟩
  · exact absurd hc (b _ (by omega))
  · rw [b]
    rcases Nat.lt_trichotomy i a.length with q | q | q
    · exact absurd hc (e _ q (by omega))
    · rw [q]
    · exact absurd d1 (key i q a1)
theorem goN_le : ∀ (l : List Int) (i n : Nat), goN l i n = 0 ∨ n ≤ goN l i n
  | [], i, n => .inr (Nat.le_refl _)
  | c :: r, i, n => by
    unfold goN
    split
    · exact .inl rfl
    · rcases goN_le r (i + 1) (10 * n + (c - 48).toNat) with h | h
      · exact .inl h
      · exact .inr (by omega)
theorem dec_one {n : Nat} (h : n < 10) : dec n = [48 + (n : Int)] := by rw [dec, dif_pos h]
theorem dec_ten : dec 10 = [49, 48] := by
  rw [dec, dif_neg (by omega), dec_one (by omega)]
  rfl
theorem goN_dec {n : Nat} (h1 : 1 ≤ n) (h2 : n ≤ 10) : goN (dec n) 0 0 = n := by
  rcases Nat.lt_or_ge n 10 with h | h
  · rw [dec_one h]
    unfold goN
    rw [if_neg (by omega)]
    unfold goN
    omega
  · have : n = 10 := by omega
    subst this
    rw [dec_ten]
    decide
theorem goN_inv {l : List Int} {m : Nat} (h : goN l 0 0 = m) (h1 : 1 ≤ m) (h2 : m ≤ 10) : l = dec m := by
  match l, h with
  | [], h => simp [goN] at h; omega
  | [c], h =>
    unfold goN at h
    split at h
    · omega
    · unfold goN at h
      rw [dec_one (by omega)]
      congr 1
      omega
  | [c, d], h =>
    unfold goN at h
    split at h
    · omega
    · unfold goN at h
      split at h
      · omega
      · unfold goN at h
        have : m = 10 := by omega
        subst this
        rw [dec_ten]
        have hc : c = 49 := by omega
        have hd : d = 48 := by omega
        rw [hc, hd]
  | c :: d :: e :: r, h =>
    exfalso
    unfold goN at h
    split at h
    · omega
    · unfold goN at h
      split at h
      · omega
      · unfold goN at h
        split at h
        · omega
        · rcases goN_le r (0 + 1 + 1 + 1) (10 * (10 * (10 * 0 + (c - 48).toNat) + (d - 48).toNat) + (e - 48).toNat) with q | q
          · omega
          · omega
def isB (s a : ByteArray) (n : Nat) : Prop := s = branch a n ∧ name a = true ∧ 1 ≤ n ∧ n ≤ 10
theorem isB_rest {s a : ByteArray} {n : Nat} (h : isB s a n) : bytesOf (s.extract 2 s.size) = bytesOf a ++ 47 :: dec n := by
  obtain ⟨rfl, _, _, _⟩ := h
  rw [bytesOf_extract, List.take_of_length_le (by rw [bytesOf_length]; exact Nat.le_refl _), bytesOf_branch]
  simp
theorem slash_dec (n : Nat) : (47 : Int) ∉ dec n := fun h => by
  have := dec_digit n 47 h
  omega
theorem isB_last {s a : ByteArray} {n : Nat} (h : isB s a n) : lastB (s.extract 2 s.size) 47 (s.extract 2 s.size).size = a.size := by
  rw [lastB_of (isB_rest h) (slash_dec n), bytesOf_length]
theorem isB_uniq {s a b : ByteArray} {n m : Nat} (h : isB s a n) (k : isB s b m) : a = b ∧ n = m := by
  have h1 := isB_rest h
  have h2 := isB_rest k
  have h3 : (a.size : Int) = b.size := by rw [← isB_last h, isB_last k]
  rw [h1] at h2
  have h4 : (bytesOf a).length = (bytesOf b).length := by rw [bytesOf_length, bytesOf_length]; omega
  obtain ⟨q1, q2⟩ := List.append_inj h2 h4
  refine ⟨bytesOf_inj q1, ?_⟩
  simp only [List.cons.injEq, true_and] at q2
  rw [← goN_dec h.2.2.1 h.2.2.2, q2, goN_dec k.2.2.1 k.2.2.2]
open Classical in
noncomputable def brOf (s : ByteArray) : PV :=
  if h : ∃ x : ByteArray × Nat, isB s x.1 x.2 then .tup [.val (.string h.choose.1), .val (.int .i64 h.choose.2), .val (.bool true)] else .tup [.val (.string ⟨#[]⟩), .val (.int .i64 0), .val (.bool false)]
theorem brOf_yes {s a : ByteArray} {n : Nat} (h : isB s a n) : brOf s = .tup [.val (.string a), .val (.int .i64 n), .val (.bool true)] := by
  have hx : ∃ x : ByteArray × Nat, isB s x.1 x.2 := ⟨(a, n), h⟩
  unfold brOf
  rw [dif_pos hx]
  obtain ⟨h1, h2⟩ := isB_uniq hx.choose_spec h
  rw [h1, h2]
theorem brOf_no {s : ByteArray} (h : ∀ a n, ¬ isB s a n) : brOf s = .tup [.val (.string ⟨#[]⟩), .val (.int .i64 0), .val (.bool false)] := by
  unfold brOf
  rw [dif_neg (fun ⟨x, hx⟩ => h x.1 x.2 hx)]
noncomputable def F46 : List PV → Option PV
  | [.val (.string s)] => chk (s.size ≤ 140737488355328) (some (brOf s))
  | _ => none
theorem F46_some {ps p} (h : F46 ps = some p) : ∃ s, s.size ≤ 140737488355328 ∧ ps = [.val (.string s)] ∧ p = brOf s := by
  unfold F46 at h
  split at h
  · rename_i s
    obtain ⟨h1, h⟩ := chk_some h
    exact ⟨s, h1, rfl, by simpa using h.symm⟩
  · cases h
theorem F46_eq {s : ByteArray} (h : s.size ≤ 140737488355328) : F46 [.val (.string s)] = some (brOf s) := by
  unfold F46
  exact chk_pos h
theorem size_h : (⟨#[104, 47]⟩ : ByteArray).size = 2 := rfl
theorem isB_hasP {s a : ByteArray} {n : Nat} (h : isB s a n) : hasP s ⟨#[104, 47]⟩ = true := by
  obtain ⟨rfl, _, _, _⟩ := h
  have hb := bytesOf_branch a n
  have hl : 2 ≤ (branch a n).size := by rw [← bytesOf_length, hb]; simp
  simp only [hasP, size_h, Bool.and_eq_true, decide_eq_true_eq]
  refine ⟨hl, ?_⟩
  rw [strEq_bytes, decide_eq_true_eq, bytesOf_extract, hb]
  rfl
/-- what is known of the key of a branch -/
theorem isB_parts {s a t : ByteArray} {n : Nat} (h : isB s a n) (ht : t = s.extract 2 s.size) : lastB t 47 t.size = a.size ∧ t.extract 0 a.size = a ∧ numS (t.extract (a.size + 1) t.size) = n := by
  subst ht
  have hr := isB_rest h
  refine ⟨isB_last h, bytesOf_inj ?_, ?_⟩
  · rw [bytesOf_extract, hr, ← bytesOf_length a, List.take_left]
    rfl
  · unfold numS
    rw [bytesOf_extract, List.take_of_length_le (by rw [bytesOf_length]; exact Nat.le_refl _), hr, ← bytesOf_length a]
    rw [show bytesOf a ++ 47 :: dec n = (bytesOf a ++ [47]) ++ dec n from by simp, show (bytesOf a).length + 1 = (bytesOf a ++ [47]).length from by simp, List.drop_left]
    exact goN_dec h.2.2.1 h.2.2.2
/-- what makes a key one of a branch -/
theorem isB_of {s t : ByteArray} {i m : Nat} (hp : hasP s ⟨#[104, 47]⟩ = true) (ht : t = s.extract 2 s.size) (hi : i < t.size) (hc : bt t i = 47) (hn : name (t.extract 0 i) = true) (hm : numS (t.extract (i + 1) t.size) = m) (h1 : 1 ≤ m) (h2 : m ≤ 10) : isB s (t.extract 0 i) m := by
  refine ⟨bytesOf_inj ?_, hn, h1, h2⟩
  have hd : bytesOf (t.extract (i + 1) t.size) = dec m := goN_inv hm h1 h2
  have hfull : (bytesOf t).take t.size = bytesOf t := List.take_of_length_le (by rw [bytesOf_length]; exact Nat.le_refl _)
  rw [bytesOf_branch, ← hd, bytesOf_extract, bytesOf_extract, hfull]
  have h3 : bytesOf t = (bytesOf t).take i ++ 47 :: (bytesOf t).drop (i + 1) := by
    have := drop_bt t i hi
    rw [hc] at this
    rw [← this, List.take_append_drop]
  have h4 : bytesOf s = [104, 47] ++ bytesOf t := by
    subst ht
    simp only [hasP, size_h, Bool.and_eq_true, decide_eq_true_eq] at hp
    have q := hp.2
    rw [strEq_bytes, decide_eq_true_eq, bytesOf_extract] at q
    rw [bytesOf_extract, List.take_of_length_le (by rw [bytesOf_length]; exact Nat.le_refl _)]
    have e : [104, 47] = (bytesOf s).take 2 := by
      rw [List.drop_zero] at q
      exact q.symm
    rw [e, List.take_append_drop]
  rw [h4]
  conv => lhs; rw [h3]
  simp
theorem con_names_ParseBranch : Contract Try.prog id_names_ParseBranch (DetP F46) := by
  refine (code_names_ParseBranch).detP (Known.cons con_strings_CutPrefix (Known.cons con_strings_LastIndexByte (Known.cons con_names_Name (Known.cons con_names_number Known.nil)))) ?_
  intro ps p h
  obtain ⟨s, hs, rfl, rfl⟩ := F46_some h
  refine ⟨Nat.le_of_ble_eq_true rfl, ?_⟩
  clear h
  generalize hr : brOf s = r
  obtain ⟨t, ht⟩ : ∃ t, t = (if hasP s ⟨#[104, 47]⟩ then s.extract (⟨#[104, 47]⟩ : ByteArray).size s.size else s) := ⟨_, rfl⟩
  have hts : t.size ≤ 140737488355328 := by
    rw [ht]
    split
    · rw [ByteArray.size_extract]; omega
    · exact hs
  have hb : bt ⟨#[47]⟩ (Int.toNat 0) = 47 := by decide +kernel
  have key := lastB_spec t 47 t.size (Nat.le_refl _)
  have f := F104_eq (s := t) (c := 47) (by omega)
  have parts : ∀ a n, isB s a n → hasP s ⟨#[104, 47]⟩ = true ∧ lastB t 47 t.size = a.size ∧ t.extract 0 a.size = a ∧ numS (t.extract (a.size + 1) t.size) = n := fun a n h => by
    have q := isB_hasP h
    rw [if_pos q, size_h] at ht
    exact ⟨q, isB_parts h ht⟩
  generalize hi : lastB t 47 t.size = i at key f parts
  have hi1 : -1 ≤ i ∧ i < t.size := by
    rcases key with ⟨a, _⟩ | ⟨j, a, b, _⟩ <;> omega
  have e1 : IntKind.i64.wrap (i + 1) = i + 1 := i64_in _ (by omega)
  repeat' first
    | (with_reducible refine bo_run ?_); conv => whnf
    | (with_reducible refine bw_run ?_); conv => whnf
    | (with_reducible refine bd_run ?_); conv => whnf
    | (with_reducible refine Br.tt ?_); conv => whnf
    | (with_reducible refine Br.ff ?_); conv => whnf
    | (with_reducible refine br_not ?_)
    | (with_reducible refine br_dec_tt (by assumption) ?_); conv => whnf
    | (with_reducible refine br_dec_ff (by assumption) ?_); conv => whnf
    | (with_reducible refine br_dec_tt (by decide) ?_); conv => whnf
    | (with_reducible refine br_dec_ff (by decide) ?_); conv => whnf
    | (with_reducible refine br_dec_intro (fun _ => ?_) (fun _ => ?_)) <;> conv => whnf
    | (with_reducible refine br_beq_tt (by assumption) ?_); conv => whnf
    | (with_reducible refine br_beq_ff (by assumption) ?_); conv => whnf
    | (with_reducible refine br_beq_tt (by decide) ?_); conv => whnf
    | (with_reducible refine br_beq_ff (by decide) ?_); conv => whnf
    | (with_reducible refine br_beq_intro (fun _ => ?_) (fun _ => ?_)) <;> conv => whnf
    | (with_reducible refine br_bne_tt (by assumption) ?_); conv => whnf
    | (with_reducible refine br_bne_ff (by assumption) ?_); conv => whnf
    | (with_reducible refine br_bne_tt (by decide) ?_); conv => whnf
    | (with_reducible refine br_bne_ff (by decide) ?_); conv => whnf
    | (with_reducible refine br_bne_intro (fun _ => ?_) (fun _ => ?_)) <;> conv => whnf
    | (with_reducible refine br_of_true (by assumption) ?_); conv => whnf
    | (with_reducible refine br_of_false (by assumption) ?_); conv => whnf
    | (with_reducible refine br_intro (fun _ => ?_) (fun _ => ?_)) <;> conv => whnf
    | (with_reducible refine and_rfl ?_); conv => whnf
    | (refine and_late (fun _ => ?_) (by first | omega | (show _ = _; rfl) | exact trivial | exact ⟨rfl, trivial⟩ | exact ⟨rfl, rfl, trivial⟩ | exact (fun h => by cases h) | exact (fun _ => ⟨rfl, rfl⟩) | exact Nat.le_of_ble_eq_true rfl | (simp only [List.length_map, List.length_append, pbytes, Nat.mul_one, List.length_cons, List.length_nil]; done) | (simp only [List.length_map, List.length_append, pbytes, Nat.mul_one, List.length_cons, List.length_nil]; omega))); conv => whnf
    | (with_reducible refine and_late (fun _ => ?_) ?_); conv => whnf
    | (with_reducible refine vcall_id ?_)
      first
      | (refine call_pure rfl rfl (.inl rfl) ?_); conv => whnf
      | (refine vcall_inl rfl rfl rfl rfl (Nat.le_of_ble_eq_true rfl) ?_)
    | (with_reducible refine Both.mk ?_ ?_) <;> conv => whnf
    | (refine ⟨[], _, _, rfl, ?_⟩); conv => whnf
    | (refine ⟨_, rfl, ?_⟩); conv => whnf
    | (refine ⟨_, unbytes_pbytes _, ?_⟩); conv => whnf
    | exact ⟨_, _, rfl, rfl⟩
    | exact rensG_pu _ _ _ _
    | rfl
    | (rw [snap_own rfl (show (pbytes _).length = _ * 1 from by rw [pbytes_length, Nat.mul_one])]); conv => whnf
    | fail
  rw [← ht, hb]
  refine call_pure rfl f (.inl rfl) ?_
  conv => whnf
  repeat' first
    | (with_reducible refine bo_run ?_); conv => whnf
    | (with_reducible refine bw_run ?_); conv => whnf
    | (with_reducible refine bd_run ?_); conv => whnf
    | (with_reducible refine Br.tt ?_); conv => whnf
    | (with_reducible refine Br.ff ?_); conv => whnf
    | (with_reducible refine br_not ?_)
    | (with_reducible refine br_dec_tt (by assumption) ?_); conv => whnf
    | (with_reducible refine br_dec_ff (by assumption) ?_); conv => whnf
    | (with_reducible refine br_dec_tt (by decide) ?_); conv => whnf
    | (with_reducible refine br_dec_ff (by decide) ?_); conv => whnf
    | (with_reducible refine br_dec_intro (fun _ => ?_) (fun _ => ?_)) <;> conv => whnf
    | (with_reducible refine br_beq_tt (by assumption) ?_); conv => whnf
    | (with_reducible refine br_beq_ff (by assumption) ?_); conv => whnf
    | (with_reducible refine br_beq_tt (by decide) ?_); conv => whnf
    | (with_reducible refine br_beq_ff (by decide) ?_); conv => whnf
    | (with_reducible refine br_beq_intro (fun _ => ?_) (fun _ => ?_)) <;> conv => whnf
    | (with_reducible refine br_bne_tt (by assumption) ?_); conv => whnf
    | (with_reducible refine br_bne_ff (by assumption) ?_); conv => whnf
    | (with_reducible refine br_bne_tt (by decide) ?_); conv => whnf
    | (with_reducible refine br_bne_ff (by decide) ?_); conv => whnf
    | (with_reducible refine br_bne_intro (fun _ => ?_) (fun _ => ?_)) <;> conv => whnf
    | (with_reducible refine br_of_true (by assumption) ?_); conv => whnf
    | (with_reducible refine br_of_false (by assumption) ?_); conv => whnf
    | (with_reducible refine br_intro (fun _ => ?_) (fun _ => ?_)) <;> conv => whnf
    | (with_reducible refine and_rfl ?_); conv => whnf
    | (refine and_late (fun _ => ?_) (by first | omega | (show _ = _; rfl) | exact trivial | exact ⟨rfl, trivial⟩ | exact ⟨rfl, rfl, trivial⟩ | exact (fun h => by cases h) | exact (fun _ => ⟨rfl, rfl⟩) | exact Nat.le_of_ble_eq_true rfl | (simp only [List.length_map, List.length_append, pbytes, Nat.mul_one, List.length_cons, List.length_nil]; done) | (simp only [List.length_map, List.length_append, pbytes, Nat.mul_one, List.length_cons, List.length_nil]; omega))); conv => whnf
    | (with_reducible refine and_late (fun _ => ?_) ?_); conv => whnf
    | (with_reducible refine vcall_id ?_)
      first
      | (refine call_pure rfl rfl (.inl rfl) ?_); conv => whnf
      | (refine vcall_inl rfl rfl rfl rfl (Nat.le_of_ble_eq_true rfl) ?_)
    | (with_reducible refine Both.mk ?_ ?_) <;> conv => whnf
    | (refine ⟨[], _, _, rfl, ?_⟩); conv => whnf
    | (refine ⟨_, rfl, ?_⟩); conv => whnf
    | (refine ⟨_, unbytes_pbytes _, ?_⟩); conv => whnf
    | exact ⟨_, _, rfl, rfl⟩
    | exact rensG_pu _ _ _ _
    | rfl
    | (rw [snap_own rfl (show (pbytes _).length = _ * 1 from by rw [pbytes_length, Nat.mul_one])]); conv => whnf
    | fail
  · rename_i q1 q2
    subst hr
    rw [brOf_no fun a n h => by have := (parts a n h).2.1; omega]
    rfl
  · rename_i q1 q2 _ _ _ q3 _ _ _
    obtain ⟨j, rfl⟩ : ∃ j : Nat, i = (j : Int) := ⟨i.toNat, by omega⟩
    rw [e1, show ((j : Int) + 1).toNat = j + 1 from by omega, Int.toNat_natCast]
    have hz : (t.extract (j + 1) t.size).size ≤ 9223372036854775806 := by rw [ByteArray.size_extract]; omega
    refine call_pure rfl (F89_eq hz) (.inl rfl) ?_
    conv => whnf
    have hcj : bt t j = 47 := by
      rcases key with ⟨a, _⟩ | ⟨k, a, b, d, _⟩
      · omega
      · have : k = j := by omega
        rw [← this]
        exact d
    repeat' first
      | (with_reducible refine bo_run ?_); conv => whnf
      | (with_reducible refine bw_run ?_); conv => whnf
      | (with_reducible refine bd_run ?_); conv => whnf
      | (with_reducible refine Br.tt ?_); conv => whnf
      | (with_reducible refine Br.ff ?_); conv => whnf
      | (with_reducible refine br_not ?_)
      | (with_reducible refine br_dec_tt (by assumption) ?_); conv => whnf
      | (with_reducible refine br_dec_ff (by assumption) ?_); conv => whnf
      | (with_reducible refine br_dec_tt (by decide) ?_); conv => whnf
      | (with_reducible refine br_dec_ff (by decide) ?_); conv => whnf
      | (with_reducible refine br_dec_intro (fun _ => ?_) (fun _ => ?_)) <;> conv => whnf
      | (with_reducible refine br_beq_tt (by assumption) ?_); conv => whnf
      | (with_reducible refine br_beq_ff (by assumption) ?_); conv => whnf
      | (with_reducible refine br_beq_tt (by decide) ?_); conv => whnf
      | (with_reducible refine br_beq_ff (by decide) ?_); conv => whnf
      | (with_reducible refine br_beq_intro (fun _ => ?_) (fun _ => ?_)) <;> conv => whnf
      | (with_reducible refine br_bne_tt (by assumption) ?_); conv => whnf
      | (with_reducible refine br_bne_ff (by assumption) ?_); conv => whnf
      | (with_reducible refine br_bne_tt (by decide) ?_); conv => whnf
      | (with_reducible refine br_bne_ff (by decide) ?_); conv => whnf
      | (with_reducible refine br_bne_intro (fun _ => ?_) (fun _ => ?_)) <;> conv => whnf
      | (with_reducible refine br_of_true (by assumption) ?_); conv => whnf
      | (with_reducible refine br_of_false (by assumption) ?_); conv => whnf
      | (with_reducible refine br_intro (fun _ => ?_) (fun _ => ?_)) <;> conv => whnf
      | (with_reducible refine and_rfl ?_); conv => whnf
      | (refine and_late (fun _ => ?_) (by first | omega | (show _ = _; rfl) | exact trivial | exact ⟨rfl, trivial⟩ | exact ⟨rfl, rfl, trivial⟩ | exact (fun h => by cases h) | exact (fun _ => ⟨rfl, rfl⟩) | exact Nat.le_of_ble_eq_true rfl | (simp only [List.length_map, List.length_append, pbytes, Nat.mul_one, List.length_cons, List.length_nil]; done) | (simp only [List.length_map, List.length_append, pbytes, Nat.mul_one, List.length_cons, List.length_nil]; omega))); conv => whnf
      | (with_reducible refine and_late (fun _ => ?_) ?_); conv => whnf
      | (with_reducible refine vcall_id ?_)
        first
        | (refine call_pure rfl rfl (.inl rfl) ?_); conv => whnf
        | (refine vcall_inl rfl rfl rfl rfl (Nat.le_of_ble_eq_true rfl) ?_)
      | (with_reducible refine Both.mk ?_ ?_) <;> conv => whnf
      | (refine ⟨[], _, _, rfl, ?_⟩); conv => whnf
      | (refine ⟨_, rfl, ?_⟩); conv => whnf
      | (refine ⟨_, unbytes_pbytes _, ?_⟩); conv => whnf
      | exact ⟨_, _, rfl, rfl⟩
      | exact rensG_pu _ _ _ _
      | rfl
      | (rw [snap_own rfl (show (pbytes _).length = _ * 1 from by rw [pbytes_length, Nat.mul_one])]); conv => whnf
      | fail
    · rename_i q4
      subst hr
      rw [brOf_no fun a n h => ?_]
      · rfl
      · have hh := parts a n h
        have : j = a.size := by omega
        subst this
        rw [hh.2.2.2] at q4
        have := h.2.2.1
        omega
    · rename_i q4 q5
      subst hr
      rw [brOf_no fun a n h => ?_]
      · rfl
      · have hh := parts a n h
        have : j = a.size := by omega
        subst this
        rw [hh.2.2.2] at q5
        have := h.2.2.2
        omega
    · rename_i q4 q5 _ _ _
      subst hr
      rw [if_pos q1, size_h] at ht
      rw [brOf_yes (isB_of q1 ht (by omega) hcj q3 rfl (by omega) (by omega))]
      rfl
  · rename_i q1 q2 _ _ _ q3
    obtain ⟨j, rfl⟩ : ∃ j : Nat, i = (j : Int) := ⟨i.toNat, by omega⟩
    subst hr
    rw [brOf_no fun a n h => ?_]
    · rfl
    · have hh := parts a n h
      have : j = a.size := by omega
      subst this
      rw [show t.extract (Int.toNat 0) ((a.size : Int)).toNat = t.extract 0 a.size from rfl, hh.2.2.1, h.2.1] at q3
      cases q3
  · rename_i q1
    subst hr
    rw [brOf_no fun a n h => by rw [(parts a n h).1] at q1; cases q1]
    rfl
  · decide +kernel
end Go.Proofs.Ytdjgfjnnafddnaa
