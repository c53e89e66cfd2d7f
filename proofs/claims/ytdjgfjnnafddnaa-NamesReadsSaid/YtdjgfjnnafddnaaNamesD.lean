/- strings.CutPrefix, strings.LastIndexByte. -/
import Derived.Test.YtdjgfjnnafddnaaCodeN
import Derived.Test.YtdjgfjnnafddnaaNamesC
set_option linter.unusedVariables false
set_option linter.unusedSimpArgs false
set_option maxRecDepth 20000
namespace Go.Proofs.Ytdjgfjnnafddnaa
open Go Go.Vm Go.IntWalk

def hasP (s t : ByteArray) : Bool := decide (t.size ≤ s.size) && strEq (s.extract 0 t.size) t
def F107 : List PV → Option PV
  | [.val (.string s), .val (.string t)] => some (.val (.bool (hasP s t)))
  | _ => none
theorem F107_some {ps p} (h : F107 ps = some p) : ∃ s t, ps = [.val (.string s), .val (.string t)] ∧ p = .val (.bool (hasP s t)) := by
  unfold F107 at h
  split at h
  · rename_i s t; exact ⟨s, t, rfl, by simpa using h.symm⟩
  · cases h
theorem con107 : Contract Try.prog 107 (DetP F107) := by
  refine contract_pure Known.nil Try.func107 (by kernel_rfl) rfl comp107 rfl (by kernel_rfl) ?_
  intro ps p h
  obtain ⟨s, t, rfl, rfl⟩ := F107_some h
  refine ⟨(by decide : 2 ≤ Try.f107.ntmps), ?_⟩
  clear h
  generalize hr : hasP s t = r
  repeat' first
    | (with_reducible refine bo_run ?_); conv => whnf
    | (with_reducible refine bw_run ?_); conv => whnf
    | (with_reducible refine Br.tt ?_); conv => whnf
    | (with_reducible refine Br.ff ?_); conv => whnf
    | (with_reducible refine br_not ?_)
    | (with_reducible refine br_dec_tt (by assumption) ?_); conv => whnf
    | (with_reducible refine br_dec_ff (by assumption) ?_); conv => whnf
    | (with_reducible refine br_dec_intro (fun _ => ?_) (fun _ => ?_)) <;> conv => whnf
    | (with_reducible refine br_beq_tt (by assumption) ?_); conv => whnf
    | (with_reducible refine br_beq_ff (by assumption) ?_); conv => whnf
    | (with_reducible refine br_beq_intro (fun _ => ?_) (fun _ => ?_)) <;> conv => whnf
    | (with_reducible refine br_bne_tt (by assumption) ?_); conv => whnf
    | (with_reducible refine br_bne_ff (by assumption) ?_); conv => whnf
    | (with_reducible refine br_bne_intro (fun _ => ?_) (fun _ => ?_)) <;> conv => whnf
    | (with_reducible refine br_of_true (by assumption) ?_); conv => whnf
    | (with_reducible refine br_of_false (by assumption) ?_); conv => whnf
    | (with_reducible refine br_intro (fun _ => ?_) (fun _ => ?_)) <;> conv => whnf
    | (with_reducible refine and_rfl ?_); conv => whnf
    | (refine and_late (fun _ => ?_) (by first | omega | (show _ = _; rfl) | (simp only [List.length_map, List.length_append, pbytes, Nat.mul_one, List.length_cons, List.length_nil]; done) | (simp only [List.length_map, List.length_append, pbytes, Nat.mul_one, List.length_cons, List.length_nil]; omega))); conv => whnf
    | (with_reducible refine and_late (fun _ => ?_) ?_); conv => whnf
    | (refine call_pure rfl rfl (.inl rfl) ?_); conv => whnf
    | (with_reducible refine Both.mk ?_ ?_) <;> conv => whnf
    | (refine ⟨_, rfl, ?_⟩); conv => whnf
    | (refine ⟨_, unbytes_pbytes _, ?_⟩); conv => whnf
    | exact ⟨_, _, rfl, rfl⟩
    | fail
  all_goals subst hr
  · rename_i q _ _ _
    have : t.size ≤ s.size := by omega
    simp [packRes, hasP, this]
  · rename_i q
    have : ¬ t.size ≤ s.size := by omega
    simp [packRes, hasP, this]
def cutP (s t : ByteArray) : PV := .tup [.val (.string (if hasP s t then s.extract t.size s.size else s)), .val (.bool (hasP s t))]
def F103 : List PV → Option PV
  | [.val (.string s), .val (.string t)] => some (cutP s t)
  | _ => none
theorem F103_some {ps p} (h : F103 ps = some p) : ∃ s t, ps = [.val (.string s), .val (.string t)] ∧ p = cutP s t := by
  unfold F103 at h
  split at h
  · rename_i s t; exact ⟨s, t, rfl, by simpa using h.symm⟩
  · cases h
theorem con103 : Contract Try.prog 103 (DetP F103) := by
  refine contract_pure (Known.cons con107 Known.nil) Try.func103 (by kernel_rfl) rfl comp103 rfl (by kernel_rfl) ?_
  intro ps p h
  obtain ⟨s, t, rfl, rfl⟩ := F103_some h
  refine ⟨(by decide : 2 ≤ Try.f103.ntmps), ?_⟩
  clear h
  generalize hr : cutP s t = r
  repeat' first
    | (with_reducible refine bo_run ?_); conv => whnf
    | (with_reducible refine bw_run ?_); conv => whnf
    | (with_reducible refine Br.tt ?_); conv => whnf
    | (with_reducible refine Br.ff ?_); conv => whnf
    | (with_reducible refine br_not ?_)
    | (with_reducible refine br_dec_tt (by assumption) ?_); conv => whnf
    | (with_reducible refine br_dec_ff (by assumption) ?_); conv => whnf
    | (with_reducible refine br_dec_intro (fun _ => ?_) (fun _ => ?_)) <;> conv => whnf
    | (with_reducible refine br_beq_tt (by assumption) ?_); conv => whnf
    | (with_reducible refine br_beq_ff (by assumption) ?_); conv => whnf
    | (with_reducible refine br_beq_intro (fun _ => ?_) (fun _ => ?_)) <;> conv => whnf
    | (with_reducible refine br_bne_tt (by assumption) ?_); conv => whnf
    | (with_reducible refine br_bne_ff (by assumption) ?_); conv => whnf
    | (with_reducible refine br_bne_intro (fun _ => ?_) (fun _ => ?_)) <;> conv => whnf
    | (with_reducible refine br_of_true (by assumption) ?_); conv => whnf
    | (with_reducible refine br_of_false (by assumption) ?_); conv => whnf
    | (with_reducible refine br_intro (fun _ => ?_) (fun _ => ?_)) <;> conv => whnf
    | (with_reducible refine and_rfl ?_); conv => whnf
    | (refine and_late (fun _ => ?_) (by first | omega | (show _ = _; rfl) | (simp only [List.length_map, List.length_append, pbytes, Nat.mul_one, List.length_cons, List.length_nil]; done) | (simp only [List.length_map, List.length_append, pbytes, Nat.mul_one, List.length_cons, List.length_nil]; omega))); conv => whnf
    | (with_reducible refine and_late (fun _ => ?_) ?_); conv => whnf
    | (refine call_pure rfl rfl (.inl rfl) ?_); conv => whnf
    | (with_reducible refine Both.mk ?_ ?_) <;> conv => whnf
    | (refine ⟨_, rfl, ?_⟩); conv => whnf
    | (refine ⟨_, unbytes_pbytes _, ?_⟩); conv => whnf
    | exact ⟨_, _, rfl, rfl⟩
    | fail
  all_goals subst hr
  · rename_i q _ _ _
    simp [packRes, mkTup, unpus, cutP, q]
  · rename_i q _
    simp [hasP] at q
    omega
  · rename_i q
    simp [packRes, mkTup, unpus, cutP, q]
theorem con87 : Contract Try.prog 87 (DetP F103) := by
  refine contract_pure (Known.cons con103 Known.nil) Try.func87 (by kernel_rfl) rfl comp87 rfl (by kernel_rfl) ?_
  intro ps p h
  obtain ⟨s, t, rfl, rfl⟩ := F103_some h
  refine ⟨(by decide : 2 ≤ Try.f87.ntmps), ?_⟩
  clear h
  generalize hr : cutP s t = r
  repeat' first
    | (with_reducible refine bo_run ?_); conv => whnf
    | (with_reducible refine bw_run ?_); conv => whnf
    | (with_reducible refine Br.tt ?_); conv => whnf
    | (with_reducible refine Br.ff ?_); conv => whnf
    | (with_reducible refine br_not ?_)
    | (with_reducible refine br_dec_tt (by assumption) ?_); conv => whnf
    | (with_reducible refine br_dec_ff (by assumption) ?_); conv => whnf
    | (with_reducible refine br_dec_intro (fun _ => ?_) (fun _ => ?_)) <;> conv => whnf
    | (with_reducible refine br_beq_tt (by assumption) ?_); conv => whnf
    | (with_reducible refine br_beq_ff (by assumption) ?_); conv => whnf
    | (with_reducible refine br_beq_intro (fun _ => ?_) (fun _ => ?_)) <;> conv => whnf
    | (with_reducible refine br_bne_tt (by assumption) ?_); conv => whnf
    | (with_reducible refine br_bne_ff (by assumption) ?_); conv => whnf
    | (with_reducible refine br_bne_intro (fun _ => ?_) (fun _ => ?_)) <;> conv => whnf
    | (with_reducible refine br_of_true (by assumption) ?_); conv => whnf
    | (with_reducible refine br_of_false (by assumption) ?_); conv => whnf
    | (with_reducible refine br_intro (fun _ => ?_) (fun _ => ?_)) <;> conv => whnf
    | (with_reducible refine and_rfl ?_); conv => whnf
    | (refine and_late (fun _ => ?_) (by first | omega | (show _ = _; rfl) | (simp only [List.length_map, List.length_append, pbytes, Nat.mul_one, List.length_cons, List.length_nil]; done) | (simp only [List.length_map, List.length_append, pbytes, Nat.mul_one, List.length_cons, List.length_nil]; omega))); conv => whnf
    | (with_reducible refine and_late (fun _ => ?_) ?_); conv => whnf
    | (refine call_pure rfl rfl (.inl rfl) ?_); conv => whnf
    | (with_reducible refine Both.mk ?_ ?_) <;> conv => whnf
    | (refine ⟨_, rfl, ?_⟩); conv => whnf
    | (refine ⟨_, unbytes_pbytes _, ?_⟩); conv => whnf
    | exact ⟨_, _, rfl, rfl⟩
    | fail
  subst hr
  simp [packRes, mkTup, unpus, cutP]
/-- the last place of a byte; -1: it is nowhere -/
def lastB (s : ByteArray) (c : Int) : Nat → Int
  | 0 => -1
  | n + 1 => if bt s n = c then n else lastB s c n
noncomputable def F104 : List PV → Option PV
  | [.val (.string s), .val (.int .u8 c)] => chk (s.size ≤ 9223372036854775807) (some (.val (.int .i64 (lastB s c s.size))))
  | _ => none
theorem F104_some {ps p} (h : F104 ps = some p) : ∃ s c, s.size ≤ 9223372036854775807 ∧ ps = [.val (.string s), .val (.int .u8 c)] ∧ p = .val (.int .i64 (lastB s c s.size)) := by
  unfold F104 at h
  split at h
  · rename_i s c
    obtain ⟨h1, h⟩ := chk_some h
    exact ⟨s, c, h1, rfl, by simpa using h.symm⟩
  · cases h
theorem F104_eq {s : ByteArray} {c : Int} (h : s.size ≤ 9223372036854775807) : F104 [.val (.string s), .val (.int .u8 c)] = some (.val (.int .i64 (lastB s c s.size))) := by
  unfold F104
  exact chk_pos h
theorem con104 : Contract Try.prog 104 (DetP F104) := by
  refine contract_pure Known.nil Try.func104 (by kernel_rfl) rfl comp104 rfl (by kernel_rfl) ?_
  intro ps p h
  obtain ⟨s, c, hs, rfl, rfl⟩ := F104_some h
  refine ⟨(by decide : 2 ≤ Try.f104.ntmps), ?_⟩
  clear h
  generalize hr : lastB s c s.size = r
  have e1 : IntKind.i64.wrap ((s.size : Int) - 1) = (s.size : Int) - 1 := i64_in _ (by omega)
  repeat' first
    | (with_reducible refine bo_run ?_); conv => whnf
    | (with_reducible refine bw_run ?_); conv => whnf
    | (with_reducible refine Br.tt ?_); conv => whnf
    | (with_reducible refine Br.ff ?_); conv => whnf
    | (with_reducible refine br_not ?_)
    | (with_reducible refine br_dec_tt (by assumption) ?_); conv => whnf
    | (with_reducible refine br_dec_ff (by assumption) ?_); conv => whnf
    | (with_reducible refine br_dec_intro (fun _ => ?_) (fun _ => ?_)) <;> conv => whnf
    | (with_reducible refine br_beq_tt (by assumption) ?_); conv => whnf
    | (with_reducible refine br_beq_ff (by assumption) ?_); conv => whnf
    | (with_reducible refine br_beq_intro (fun _ => ?_) (fun _ => ?_)) <;> conv => whnf
    | (with_reducible refine br_bne_tt (by assumption) ?_); conv => whnf
    | (with_reducible refine br_bne_ff (by assumption) ?_); conv => whnf
    | (with_reducible refine br_bne_intro (fun _ => ?_) (fun _ => ?_)) <;> conv => whnf
    | (with_reducible refine br_of_true (by assumption) ?_); conv => whnf
    | (with_reducible refine br_of_false (by assumption) ?_); conv => whnf
    | (with_reducible refine br_intro (fun _ => ?_) (fun _ => ?_)) <;> conv => whnf
    | (with_reducible refine and_rfl ?_); conv => whnf
    | (refine and_late (fun _ => ?_) (by first | omega | (show _ = _; rfl) | (simp only [List.length_map, List.length_append, pbytes, Nat.mul_one, List.length_cons, List.length_nil]; done) | (simp only [List.length_map, List.length_append, pbytes, Nat.mul_one, List.length_cons, List.length_nil]; omega))); conv => whnf
    | (with_reducible refine and_late (fun _ => ?_) ?_); conv => whnf
    | (refine call_pure rfl rfl (.inl rfl) ?_); conv => whnf
    | (with_reducible refine Both.mk ?_ ?_) <;> conv => whnf
    | (refine ⟨_, rfl, ?_⟩); conv => whnf
    | (refine ⟨_, unbytes_pbytes _, ?_⟩); conv => whnf
    | exact ⟨_, _, rfl, rfl⟩
    | fail
  rw [e1]
  refine bw_loop (α := Nat) (fun k => [(0, .pu (.val (.string s))), (1, .pu (.val (.int .u8 c))), (5, .pu (.val (.int .i64 ((k : Int) - 1))))]) (fun _ => []) (fun k => k ≤ s.size ∧ lastB s c k = r) (fun k => k) s.size rfl rfl ⟨Nat.le_refl _, hr⟩ ?_
  rintro k ⟨h1, h2⟩
  have e2 : IntKind.i64.wrap ((k : Int) - 1 - 1) = (k : Int) - 1 - 1 := i64_in _ (by omega)
  repeat' first
    | (with_reducible refine bo_run ?_); conv => whnf
    | (with_reducible refine bw_run ?_); conv => whnf
    | (with_reducible refine Br.tt ?_); conv => whnf
    | (with_reducible refine Br.ff ?_); conv => whnf
    | (with_reducible refine br_not ?_)
    | (with_reducible refine br_dec_tt (by assumption) ?_); conv => whnf
    | (with_reducible refine br_dec_ff (by assumption) ?_); conv => whnf
    | (with_reducible refine br_dec_intro (fun _ => ?_) (fun _ => ?_)) <;> conv => whnf
    | (with_reducible refine br_beq_tt (by assumption) ?_); conv => whnf
    | (with_reducible refine br_beq_ff (by assumption) ?_); conv => whnf
    | (with_reducible refine br_beq_intro (fun _ => ?_) (fun _ => ?_)) <;> conv => whnf
    | (with_reducible refine br_bne_tt (by assumption) ?_); conv => whnf
    | (with_reducible refine br_bne_ff (by assumption) ?_); conv => whnf
    | (with_reducible refine br_bne_intro (fun _ => ?_) (fun _ => ?_)) <;> conv => whnf
    | (with_reducible refine br_of_true (by assumption) ?_); conv => whnf
    | (with_reducible refine br_of_false (by assumption) ?_); conv => whnf
    | (with_reducible refine br_intro (fun _ => ?_) (fun _ => ?_)) <;> conv => whnf
    | (with_reducible refine and_rfl ?_); conv => whnf
    | (refine and_late (fun _ => ?_) (by first | omega | (show _ = _; rfl) | (simp only [List.length_map, List.length_append, pbytes, Nat.mul_one, List.length_cons, List.length_nil]; done) | (simp only [List.length_map, List.length_append, pbytes, Nat.mul_one, List.length_cons, List.length_nil]; omega))); conv => whnf
    | (with_reducible refine and_late (fun _ => ?_) ?_); conv => whnf
    | (refine call_pure rfl rfl (.inl rfl) ?_); conv => whnf
    | (with_reducible refine Both.mk ?_ ?_) <;> conv => whnf
    | (refine ⟨_, rfl, ?_⟩); conv => whnf
    | (refine ⟨_, unbytes_pbytes _, ?_⟩); conv => whnf
    | exact ⟨_, _, rfl, rfl⟩
    | fail
  · rename_i q1 q2 q3 q4
    obtain ⟨j, rfl⟩ : ∃ j, k = j + 1 := ⟨k - 1, by omega⟩
    have e3 : ((j + 1 : Nat) : Int) - 1 = (j : Int) := by omega
    rw [e3] at q4 ⊢
    rw [Int.toNat_natCast] at q4
    rw [← h2, lastB, if_pos q4]
    rfl
  · rename_i q1 q2 q3 q4
    obtain ⟨j, rfl⟩ : ∃ j, k = j + 1 := ⟨k - 1, by omega⟩
    have e3 : ((j + 1 : Nat) : Int) - 1 = (j : Int) := by omega
    rw [e3, Int.toNat_natCast] at q4
    refine ⟨_, ?_, j, ⟨by omega, ?_⟩, rfl, ?_, rfl⟩
    · omega
    · rw [← h2, lastB, if_neg q4]
    · rw [e2, show ((j + 1 : Nat) : Int) - 1 - 1 = (j : Int) - 1 from by omega]
      rfl
  · have : k = 0 := by omega
    subst this
    rw [← h2]
    rfl
theorem con88 : Contract Try.prog 88 (DetP F104) := by
  refine contract_pure (Known.cons con104 Known.nil) Try.func88 (by kernel_rfl) rfl comp88 rfl (by kernel_rfl) ?_
  intro ps p h
  obtain ⟨s, c, hs, rfl, rfl⟩ := F104_some h
  refine ⟨(by decide : 2 ≤ Try.f88.ntmps), ?_⟩
  clear h
  generalize hr : lastB s c s.size = r
  repeat' first
    | (with_reducible refine bo_run ?_); conv => whnf
    | (with_reducible refine bw_run ?_); conv => whnf
    | (with_reducible refine Br.tt ?_); conv => whnf
    | (with_reducible refine Br.ff ?_); conv => whnf
    | (with_reducible refine br_not ?_)
    | (with_reducible refine br_dec_tt (by assumption) ?_); conv => whnf
    | (with_reducible refine br_dec_ff (by assumption) ?_); conv => whnf
    | (with_reducible refine br_dec_intro (fun _ => ?_) (fun _ => ?_)) <;> conv => whnf
    | (with_reducible refine br_beq_tt (by assumption) ?_); conv => whnf
    | (with_reducible refine br_beq_ff (by assumption) ?_); conv => whnf
    | (with_reducible refine br_beq_intro (fun _ => ?_) (fun _ => ?_)) <;> conv => whnf
    | (with_reducible refine br_bne_tt (by assumption) ?_); conv => whnf
    | (with_reducible refine br_bne_ff (by assumption) ?_); conv => whnf
    | (with_reducible refine br_bne_intro (fun _ => ?_) (fun _ => ?_)) <;> conv => whnf
    | (with_reducible refine br_of_true (by assumption) ?_); conv => whnf
    | (with_reducible refine br_of_false (by assumption) ?_); conv => whnf
    | (with_reducible refine br_intro (fun _ => ?_) (fun _ => ?_)) <;> conv => whnf
    | (with_reducible refine and_rfl ?_); conv => whnf
    | (refine and_late (fun _ => ?_) (by first | omega | (show _ = _; rfl) | (simp only [List.length_map, List.length_append, pbytes, Nat.mul_one, List.length_cons, List.length_nil]; done) | (simp only [List.length_map, List.length_append, pbytes, Nat.mul_one, List.length_cons, List.length_nil]; omega))); conv => whnf
    | (with_reducible refine and_late (fun _ => ?_) ?_); conv => whnf
    | (refine call_pure rfl rfl (.inl rfl) ?_); conv => whnf
    | (with_reducible refine Both.mk ?_ ?_) <;> conv => whnf
    | (refine ⟨_, rfl, ?_⟩); conv => whnf
    | (refine ⟨_, unbytes_pbytes _, ?_⟩); conv => whnf
    | exact ⟨_, _, rfl, rfl⟩
    | fail
  refine call_pure rfl (F104_eq hs) (.inl rfl) ?_
  conv => whnf
  repeat' first
    | (with_reducible refine bo_run ?_); conv => whnf
    | (with_reducible refine bw_run ?_); conv => whnf
    | (with_reducible refine Br.tt ?_); conv => whnf
    | (with_reducible refine Br.ff ?_); conv => whnf
    | (with_reducible refine br_not ?_)
    | (with_reducible refine br_dec_tt (by assumption) ?_); conv => whnf
    | (with_reducible refine br_dec_ff (by assumption) ?_); conv => whnf
    | (with_reducible refine br_dec_intro (fun _ => ?_) (fun _ => ?_)) <;> conv => whnf
    | (with_reducible refine br_beq_tt (by assumption) ?_); conv => whnf
    | (with_reducible refine br_beq_ff (by assumption) ?_); conv => whnf
    | (with_reducible refine br_beq_intro (fun _ => ?_) (fun _ => ?_)) <;> conv => whnf
    | (with_reducible refine br_bne_tt (by assumption) ?_); conv => whnf
    | (with_reducible refine br_bne_ff (by assumption) ?_); conv => whnf
    | (with_reducible refine br_bne_intro (fun _ => ?_) (fun _ => ?_)) <;> conv => whnf
    | (with_reducible refine br_of_true (by assumption) ?_); conv => whnf
    | (with_reducible refine br_of_false (by assumption) ?_); conv => whnf
    | (with_reducible refine br_intro (fun _ => ?_) (fun _ => ?_)) <;> conv => whnf
    | (with_reducible refine and_rfl ?_); conv => whnf
    | (refine and_late (fun _ => ?_) (by first | omega | (show _ = _; rfl) | (simp only [List.length_map, List.length_append, pbytes, Nat.mul_one, List.length_cons, List.length_nil]; done) | (simp only [List.length_map, List.length_append, pbytes, Nat.mul_one, List.length_cons, List.length_nil]; omega))); conv => whnf
    | (with_reducible refine and_late (fun _ => ?_) ?_); conv => whnf
    | (refine call_pure rfl rfl (.inl rfl) ?_); conv => whnf
    | (with_reducible refine Both.mk ?_ ?_) <;> conv => whnf
    | (refine ⟨_, rfl, ?_⟩); conv => whnf
    | (refine ⟨_, unbytes_pbytes _, ?_⟩); conv => whnf
    | exact ⟨_, _, rfl, rfl⟩
    | fail
  subst hr
  rfl
/-! ### ParseRow -/
theorem size_w : (⟨#[119, 47]⟩ : ByteArray).size = 2 := rfl
def rowOf (s : ByteArray) : PV := if hasP s ⟨#[119, 47]⟩ && name (s.extract 2 s.size) then .tup [.val (.string (s.extract 2 s.size)), .val (.bool true)] else .tup [.val (.string ⟨#[]⟩), .val (.bool false)]
def F44 : List PV → Option PV
  | [.val (.string s)] => some (rowOf s)
  | _ => none
theorem F44_some {ps p} (h : F44 ps = some p) : ∃ s, ps = [.val (.string s)] ∧ p = rowOf s := by
  unfold F44 at h
  split at h
  · rename_i s; exact ⟨s, rfl, by simpa using h.symm⟩
  · cases h
theorem con44 : Contract Try.prog 44 (DetP F44) := by
  refine contract_pure (Known.cons con87 (Known.cons con15 Known.nil)) Try.func44 (by kernel_rfl) rfl comp44 rfl (by kernel_rfl) ?_
  intro ps p h
  obtain ⟨s, rfl, rfl⟩ := F44_some h
  refine ⟨(by decide : 1 ≤ Try.f44.ntmps), ?_⟩
  clear h
  generalize hr : rowOf s = r
  repeat' first
    | (with_reducible refine bo_run ?_); conv => whnf
    | (with_reducible refine bw_run ?_); conv => whnf
    | (with_reducible refine Br.tt ?_); conv => whnf
    | (with_reducible refine Br.ff ?_); conv => whnf
    | (with_reducible refine br_not ?_)
    | (with_reducible refine br_dec_tt (by assumption) ?_); conv => whnf
    | (with_reducible refine br_dec_ff (by assumption) ?_); conv => whnf
    | (with_reducible refine br_dec_intro (fun _ => ?_) (fun _ => ?_)) <;> conv => whnf
    | (with_reducible refine br_beq_tt (by assumption) ?_); conv => whnf
    | (with_reducible refine br_beq_ff (by assumption) ?_); conv => whnf
    | (with_reducible refine br_beq_intro (fun _ => ?_) (fun _ => ?_)) <;> conv => whnf
    | (with_reducible refine br_bne_tt (by assumption) ?_); conv => whnf
    | (with_reducible refine br_bne_ff (by assumption) ?_); conv => whnf
    | (with_reducible refine br_bne_intro (fun _ => ?_) (fun _ => ?_)) <;> conv => whnf
    | (with_reducible refine br_of_true (by assumption) ?_); conv => whnf
    | (with_reducible refine br_of_false (by assumption) ?_); conv => whnf
    | (with_reducible refine br_intro (fun _ => ?_) (fun _ => ?_)) <;> conv => whnf
    | (with_reducible refine and_rfl ?_); conv => whnf
    | (refine and_late (fun _ => ?_) (by first | omega | (show _ = _; rfl) | (simp only [List.length_map, List.length_append, pbytes, Nat.mul_one, List.length_cons, List.length_nil]; done) | (simp only [List.length_map, List.length_append, pbytes, Nat.mul_one, List.length_cons, List.length_nil]; omega))); conv => whnf
    | (with_reducible refine and_late (fun _ => ?_) ?_); conv => whnf
    | (refine call_pure rfl rfl (.inl rfl) ?_); conv => whnf
    | (with_reducible refine Both.mk ?_ ?_) <;> conv => whnf
    | (refine ⟨_, rfl, ?_⟩); conv => whnf
    | (refine ⟨_, unbytes_pbytes _, ?_⟩); conv => whnf
    | exact ⟨_, _, rfl, rfl⟩
    | fail
  all_goals subst hr
  · rename_i q1 q2
    rw [if_pos q1, size_w] at q2 ⊢
    simp [packRes, mkTup, unpus, rowOf, q1, q2]
  · rename_i q1 q2
    rw [if_pos q1, size_w] at q2
    simp [packRes, mkTup, unpus, rowOf, q1, q2]
  · rename_i q1
    simp [packRes, mkTup, unpus, rowOf, q1]
theorem con45 : Contract Try.prog 45 (DetP F44) := by
  refine contract_pure (Known.cons con16 Known.nil) Try.func45 (by kernel_rfl) rfl comp45 rfl (by kernel_rfl) ?_
  intro ps p h
  obtain ⟨s, rfl, rfl⟩ := F44_some h
  refine ⟨(by decide : 1 ≤ Try.f45.ntmps), ?_⟩
  clear h
  generalize hr : rowOf s = r
  repeat' first
    | (with_reducible refine bo_run ?_); conv => whnf
    | (with_reducible refine bw_run ?_); conv => whnf
    | (with_reducible refine Br.tt ?_); conv => whnf
    | (with_reducible refine Br.ff ?_); conv => whnf
    | (with_reducible refine br_not ?_)
    | (with_reducible refine br_dec_tt (by assumption) ?_); conv => whnf
    | (with_reducible refine br_dec_ff (by assumption) ?_); conv => whnf
    | (with_reducible refine br_dec_intro (fun _ => ?_) (fun _ => ?_)) <;> conv => whnf
    | (with_reducible refine br_beq_tt (by assumption) ?_); conv => whnf
    | (with_reducible refine br_beq_ff (by assumption) ?_); conv => whnf
    | (with_reducible refine br_beq_intro (fun _ => ?_) (fun _ => ?_)) <;> conv => whnf
    | (with_reducible refine br_bne_tt (by assumption) ?_); conv => whnf
    | (with_reducible refine br_bne_ff (by assumption) ?_); conv => whnf
    | (with_reducible refine br_bne_intro (fun _ => ?_) (fun _ => ?_)) <;> conv => whnf
    | (with_reducible refine br_of_true (by assumption) ?_); conv => whnf
    | (with_reducible refine br_of_false (by assumption) ?_); conv => whnf
    | (with_reducible refine br_intro (fun _ => ?_) (fun _ => ?_)) <;> conv => whnf
    | (with_reducible refine and_rfl ?_); conv => whnf
    | (refine and_late (fun _ => ?_) (by first | omega | (show _ = _; rfl) | (simp only [List.length_map, List.length_append, pbytes, Nat.mul_one, List.length_cons, List.length_nil]; done) | (simp only [List.length_map, List.length_append, pbytes, Nat.mul_one, List.length_cons, List.length_nil]; omega))); conv => whnf
    | (with_reducible refine and_late (fun _ => ?_) ?_); conv => whnf
    | (refine call_pure rfl rfl (.inl rfl) ?_); conv => whnf
    | (with_reducible refine Both.mk ?_ ?_) <;> conv => whnf
    | (refine ⟨_, rfl, ?_⟩); conv => whnf
    | (refine ⟨_, unbytes_pbytes _, ?_⟩); conv => whnf
    | exact ⟨_, _, rfl, rfl⟩
    | fail
  all_goals subst hr
  · rename_i q1
    have : hasP s ⟨#[119, 47]⟩ = false := by simp only [hasP, size_w]; simp; omega
    simp [packRes, mkTup, unpus, rowOf, this]
  · rename_i q1 _ _ q2 q3 _ _ _ q4 _ _ _
    have h1 : hasP s ⟨#[119, 47]⟩ = true := by
      simp only [hasP, size_w]
      simp only [Bool.and_eq_true, decide_eq_true_eq]
      exact ⟨by omega, q3⟩
    have h2 : name (s.extract 2 s.size) = true := by rw [name_eq]; exact q4
    simp [packRes, mkTup, unpus, rowOf, h1, h2]
  · rename_i q1 _ _ q2 q3 _ _ _ q4
    have h2 : name (s.extract 2 s.size) = false := by rw [name_eq]; exact q4
    simp [packRes, mkTup, unpus, rowOf, h2]
  · rename_i q1 _ _ q2 q3
    have h1 : hasP s ⟨#[119, 47]⟩ = false := by
      simp only [hasP, size_w]
      rw [show strEq (s.extract 0 2) ⟨#[119, 47]⟩ = false from q3]
      simp
    simp [packRes, mkTup, unpus, rowOf, h1]
end Go.Proofs.Ytdjgfjnnafddnaa
