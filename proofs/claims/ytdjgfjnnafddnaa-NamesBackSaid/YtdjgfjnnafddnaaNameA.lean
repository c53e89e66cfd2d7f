/- usher/names: names, digits, keys of rows and branches. -/
import Derived.Test.YtdjgfjnnafddnaaPackW
import Derived.Test.YtdjgfjnnafddnaaCNames
import Derived.Test.YtdjgfjnnafddnaaCLaw04
import Derived.IntWalk
set_option linter.unusedVariables false
set_option linter.unusedSimpArgs false
set_option maxRecDepth 20000
namespace Go.Proofs.Ytdjgfjnnafddnaa
open Go Go.Vm Go.IntWalk

def inner (c : Int) : Bool :=
  decide (c ≥ 48) && decide (c ≤ 57) || decide (bitsI .or .u8 c 32 ≥ 97) && decide (bitsI .or .u8 c 32 ≤ 122) || c == 95 || c == 45 || c == 46
def F65 : List PV → Option PV
  | [.val (.int .u8 c)] => some (.val (.bool (inner c)))
  | _ => none
theorem F65_some {ps p} (h : F65 ps = some p) : ∃ c, ps = [.val (.int .u8 c)] ∧ p = .val (.bool (inner c)) := by
  unfold F65 at h
  split at h
  · rename_i c; exact ⟨c, rfl, by simpa using h.symm⟩
  · cases h
theorem con_names_inner : Contract Try.prog id_names_inner (DetP F65) := by
  refine (code_names_inner).detP Known.nil ?_
  intro ps p h
  obtain ⟨c, rfl, rfl⟩ := F65_some h
  refine ⟨Nat.le_of_ble_eq_true rfl, ?_⟩
  clear h
  generalize hr : inner c = r
  repeat' first
    | (with_reducible refine bo_run ?_); conv => whnf
    | (with_reducible refine bw_run ?_); conv => whnf
    | (with_reducible refine bd_run ?_); conv => whnf
    | (with_reducible refine Br.tt ?_); conv => whnf
    | (with_reducible refine Br.ff ?_); conv => whnf
    | (with_reducible refine br_not ?_)
    | (with_reducible refine br_dec_tt (by assumption) ?_); conv => whnf
    | (with_reducible refine br_dec_ff (by assumption) ?_); conv => whnf
    | (with_reducible refine br_dec_tt (by decide) ?_); conv => whnf
    | (with_reducible refine br_dec_ff (by decide) ?_); conv => whnf
    | (with_reducible refine br_dec_intro (fun _ => ?_) (fun _ => ?_)) <;> conv => whnf
    | (with_reducible refine br_beq_tt (by assumption) ?_); conv => whnf
    | (with_reducible refine br_beq_ff (by assumption) ?_); conv => whnf
    | (with_reducible refine br_beq_tt (by decide) ?_); conv => whnf
    | (with_reducible refine br_beq_ff (by decide) ?_); conv => whnf
    | (with_reducible refine br_beq_intro (fun _ => ?_) (fun _ => ?_)) <;> conv => whnf
    | (with_reducible refine br_bne_tt (by assumption) ?_); conv => whnf
    | (with_reducible refine br_bne_ff (by assumption) ?_); conv => whnf
    | (with_reducible refine br_bne_tt (by decide) ?_); conv => whnf
    | (with_reducible refine br_bne_ff (by decide) ?_); conv => whnf
    | (with_reducible refine br_bne_intro (fun _ => ?_) (fun _ => ?_)) <;> conv => whnf
    | (with_reducible refine br_of_true (by assumption) ?_); conv => whnf
    | (with_reducible refine br_of_false (by assumption) ?_); conv => whnf
    | (with_reducible refine br_intro (fun _ => ?_) (fun _ => ?_)) <;> conv => whnf
    | (with_reducible refine and_rfl ?_); conv => whnf
    | (refine and_late (fun _ => ?_) (by first | omega | (show _ = _; rfl) | exact trivial | exact ⟨rfl, trivial⟩ | exact ⟨rfl, rfl, trivial⟩ | exact (fun h => by cases h) | exact (fun _ => ⟨rfl, rfl⟩) | exact Nat.le_of_ble_eq_true rfl | (simp only [List.length_map, List.length_append, pbytes, Nat.mul_one, List.length_cons, List.length_nil]; done) | (simp only [List.length_map, List.length_append, pbytes, Nat.mul_one, List.length_cons, List.length_nil]; omega))); conv => whnf
    | (with_reducible refine and_late (fun _ => ?_) ?_); conv => whnf
    | (with_reducible refine vcall_id ?_)
      first
      | (refine vcall_inl rfl rfl rfl rfl (Nat.le_of_ble_eq_true rfl) ?_)
    | (with_reducible refine Both.mk ?_ ?_) <;> conv => whnf
    | (refine ⟨[], _, _, rfl, ?_⟩); conv => whnf
    | (refine ⟨_, rfl, ?_⟩); conv => whnf
    | (refine ⟨_, unbytes_pbytes _, ?_⟩); conv => whnf
    | exact ⟨_, _, rfl, rfl⟩
    | exact rensG_pu _ _ _ _
    | rfl
    | (rw [snap_own rfl (show (pbytes _).length = _ * 1 from by rw [pbytes_length, Nat.mul_one])]); conv => whnf
    | fail
  all_goals subst hr
  all_goals simp_all [inner, packRes, renG]
  all_goals omega
def first (c : Int) : Bool := inner c && c != 45 && c != 46
def F64 : List PV → Option PV
  | [.val (.int .u8 c)] => some (.val (.bool (first c)))
  | _ => none
theorem F64_some {ps p} (h : F64 ps = some p) : ∃ c, ps = [.val (.int .u8 c)] ∧ p = .val (.bool (first c)) := by
  unfold F64 at h
  split at h
  · rename_i c; exact ⟨c, rfl, by simpa using h.symm⟩
  · cases h
theorem con_names_first : Contract Try.prog id_names_first (DetP F64) := by
  refine (code_names_first).detP (Known.cons con_names_inner Known.nil) ?_
  intro ps p h
  obtain ⟨c, rfl, rfl⟩ := F64_some h
  refine ⟨Nat.le_of_ble_eq_true rfl, ?_⟩
  clear h
  generalize hr : first c = r
  repeat' first
    | (with_reducible refine bo_run ?_); conv => whnf
    | (with_reducible refine bw_run ?_); conv => whnf
    | (with_reducible refine bd_run ?_); conv => whnf
    | (with_reducible refine Br.tt ?_); conv => whnf
    | (with_reducible refine Br.ff ?_); conv => whnf
    | (with_reducible refine br_not ?_)
    | (with_reducible refine br_dec_tt (by assumption) ?_); conv => whnf
    | (with_reducible refine br_dec_ff (by assumption) ?_); conv => whnf
    | (with_reducible refine br_dec_tt (by decide) ?_); conv => whnf
    | (with_reducible refine br_dec_ff (by decide) ?_); conv => whnf
    | (with_reducible refine br_dec_intro (fun _ => ?_) (fun _ => ?_)) <;> conv => whnf
    | (with_reducible refine br_beq_tt (by assumption) ?_); conv => whnf
    | (with_reducible refine br_beq_ff (by assumption) ?_); conv => whnf
    | (with_reducible refine br_beq_tt (by decide) ?_); conv => whnf
    | (with_reducible refine br_beq_ff (by decide) ?_); conv => whnf
    | (with_reducible refine br_beq_intro (fun _ => ?_) (fun _ => ?_)) <;> conv => whnf
    | (with_reducible refine br_bne_tt (by assumption) ?_); conv => whnf
    | (with_reducible refine br_bne_ff (by assumption) ?_); conv => whnf
    | (with_reducible refine br_bne_tt (by decide) ?_); conv => whnf
    | (with_reducible refine br_bne_ff (by decide) ?_); conv => whnf
    | (with_reducible refine br_bne_intro (fun _ => ?_) (fun _ => ?_)) <;> conv => whnf
    | (with_reducible refine br_of_true (by assumption) ?_); conv => whnf
    | (with_reducible refine br_of_false (by assumption) ?_); conv => whnf
    | (with_reducible refine br_intro (fun _ => ?_) (fun _ => ?_)) <;> conv => whnf
    | (with_reducible refine and_rfl ?_); conv => whnf
    | (refine and_late (fun _ => ?_) (by first | omega | (show _ = _; rfl) | exact trivial | exact ⟨rfl, trivial⟩ | exact ⟨rfl, rfl, trivial⟩ | exact (fun h => by cases h) | exact (fun _ => ⟨rfl, rfl⟩) | exact Nat.le_of_ble_eq_true rfl | (simp only [List.length_map, List.length_append, pbytes, Nat.mul_one, List.length_cons, List.length_nil]; done) | (simp only [List.length_map, List.length_append, pbytes, Nat.mul_one, List.length_cons, List.length_nil]; omega))); conv => whnf
    | (with_reducible refine and_late (fun _ => ?_) ?_); conv => whnf
    | (with_reducible refine vcall_id ?_)
      first
      | (refine call_pure rfl rfl (.inl rfl) ?_); conv => whnf
      | (refine vcall_inl rfl rfl rfl rfl (Nat.le_of_ble_eq_true rfl) ?_)
    | (with_reducible refine Both.mk ?_ ?_) <;> conv => whnf
    | (refine ⟨[], _, _, rfl, ?_⟩); conv => whnf
    | (refine ⟨_, rfl, ?_⟩); conv => whnf
    | (refine ⟨_, unbytes_pbytes _, ?_⟩); conv => whnf
    | exact ⟨_, _, rfl, rfl⟩
    | exact rensG_pu _ _ _ _
    | rfl
    | (rw [snap_own rfl (show (pbytes _).length = _ * 1 from by rw [pbytes_length, Nat.mul_one])]); conv => whnf
    | fail
  all_goals subst hr
  all_goals simp_all [first, packRes, renG]
def allB (f : Int → Bool) (s : ByteArray) : Bool := decide (∀ i, i < s.size → f (bt s i) = true)
def name (s : ByteArray) : Bool := decide (0 < s.size) && decide (s.size ≤ 24) && first (bt s 0) && allB inner s
def F15 : List PV → Option PV
  | [.val (.string s)] => some (.val (.bool (name s)))
  | _ => none
theorem F15_some {ps p} (h : F15 ps = some p) : ∃ s, ps = [.val (.string s)] ∧ p = .val (.bool (name s)) := by
  unfold F15 at h
  split at h
  · rename_i c; exact ⟨c, rfl, by simpa using h.symm⟩
  · cases h
theorem strEq_iff (s t : ByteArray) : strEq s t = true ↔ s = t := by
  unfold strEq
  simp only [beq_iff_eq]
  constructor
  · intro h
    have e : ∀ u : ByteArray, u.toList = u.data.toList := fun u => ByteArray.toList_eq u
    rw [e, e] at h
    cases s; cases t
    simp only [ByteArray.mk.injEq]
    exact Array.ext' h
  · rintro rfl; rfl
theorem strEq_nil (s : ByteArray) : strEq s ⟨#[]⟩ = decide (s.size = 0) := by
  rw [Bool.eq_iff_iff, strEq_iff, decide_eq_true_eq]
  constructor
  · rintro rfl; rfl
  · intro h
    cases s with
    | mk d => simp only [ByteArray.mk.injEq]; exact Array.eq_empty_of_size_eq_zero h
theorem con_names_Name : Contract Try.prog id_names_Name (DetP F15) := by
  refine (code_names_Name).detP (Known.cons con_names_first (Known.cons con_names_inner Known.nil)) ?_
  intro ps p h
  obtain ⟨s, rfl, rfl⟩ := F15_some h
  refine ⟨Nat.le_of_ble_eq_true rfl, ?_⟩
  clear h
  generalize hr : name s = r
  repeat' first
    | (with_reducible refine bo_run ?_); conv => whnf
    | (with_reducible refine bw_run ?_); conv => whnf
    | (with_reducible refine bd_run ?_); conv => whnf
    | (with_reducible refine Br.tt ?_); conv => whnf
    | (with_reducible refine Br.ff ?_); conv => whnf
    | (with_reducible refine br_not ?_)
    | (with_reducible refine br_dec_tt (by assumption) ?_); conv => whnf
    | (with_reducible refine br_dec_ff (by assumption) ?_); conv => whnf
    | (with_reducible refine br_dec_tt (by decide) ?_); conv => whnf
    | (with_reducible refine br_dec_ff (by decide) ?_); conv => whnf
    | (with_reducible refine br_dec_intro (fun _ => ?_) (fun _ => ?_)) <;> conv => whnf
    | (with_reducible refine br_beq_tt (by assumption) ?_); conv => whnf
    | (with_reducible refine br_beq_ff (by assumption) ?_); conv => whnf
    | (with_reducible refine br_beq_tt (by decide) ?_); conv => whnf
    | (with_reducible refine br_beq_ff (by decide) ?_); conv => whnf
    | (with_reducible refine br_beq_intro (fun _ => ?_) (fun _ => ?_)) <;> conv => whnf
    | (with_reducible refine br_bne_tt (by assumption) ?_); conv => whnf
    | (with_reducible refine br_bne_ff (by assumption) ?_); conv => whnf
    | (with_reducible refine br_bne_tt (by decide) ?_); conv => whnf
    | (with_reducible refine br_bne_ff (by decide) ?_); conv => whnf
    | (with_reducible refine br_bne_intro (fun _ => ?_) (fun _ => ?_)) <;> conv => whnf
    | (with_reducible refine br_of_true (by assumption) ?_); conv => whnf
    | (with_reducible refine br_of_false (by assumption) ?_); conv => whnf
    | (with_reducible refine br_intro (fun _ => ?_) (fun _ => ?_)) <;> conv => whnf
    | (with_reducible refine and_rfl ?_); conv => whnf
    | (refine and_late (fun _ => ?_) (by first | omega | (show _ = _; rfl) | exact trivial | exact ⟨rfl, trivial⟩ | exact ⟨rfl, rfl, trivial⟩ | exact (fun h => by cases h) | exact (fun _ => ⟨rfl, rfl⟩) | exact Nat.le_of_ble_eq_true rfl | (simp only [List.length_map, List.length_append, pbytes, Nat.mul_one, List.length_cons, List.length_nil]; done) | (simp only [List.length_map, List.length_append, pbytes, Nat.mul_one, List.length_cons, List.length_nil]; omega))); conv => whnf
    | (with_reducible refine and_late (fun _ => ?_) ?_); conv => whnf
    | (with_reducible refine vcall_id ?_)
      first
      | (refine call_pure rfl rfl (.inl rfl) ?_); conv => whnf
      | (refine vcall_inl rfl rfl rfl rfl (Nat.le_of_ble_eq_true rfl) ?_)
    | (with_reducible refine Both.mk ?_ ?_) <;> conv => whnf
    | (refine ⟨[], _, _, rfl, ?_⟩); conv => whnf
    | (refine ⟨_, rfl, ?_⟩); conv => whnf
    | (refine ⟨_, unbytes_pbytes _, ?_⟩); conv => whnf
    | exact ⟨_, _, rfl, rfl⟩
    | exact rensG_pu _ _ _ _
    | rfl
    | (rw [snap_own rfl (show (pbytes _).length = _ * 1 from by rw [pbytes_length, Nat.mul_one])]); conv => whnf
    | fail
  · subst hr; rename_i h1; rw [strEq_nil] at h1; simp_all [name, packRes, renG]
  · subst hr; rename_i h1 h2; simp [name, packRes, renG]; omega
  · rename_i h1 h2 h3 h4
    rw [strEq_nil] at h1
    refine bw_loop (α := Nat) (fun i => [(0, .pu (.val (.string s))), (3, .pu (.val (.bool (first (bt s 0))))), (16, .pu (.val (.int .i64 s.size))), (17, .pu (.val (.int .i64 i)))]) (fun _ => [])
      (fun i => i ≤ s.size ∧ ∀ j, j < i → inner (bt s j) = true) (fun i => s.size - i) 0 rfl rfl ⟨Nat.zero_le _, fun j hj => absurd hj (Nat.not_lt_zero _)⟩ ?_
    rintro i ⟨hi, hall⟩
    repeat' first
      | (with_reducible refine bo_run ?_); conv => whnf
      | (with_reducible refine bw_run ?_); conv => whnf
      | (with_reducible refine bd_run ?_); conv => whnf
      | (with_reducible refine Br.tt ?_); conv => whnf
      | (with_reducible refine Br.ff ?_); conv => whnf
      | (with_reducible refine br_not ?_)
      | (with_reducible refine br_dec_tt (by assumption) ?_); conv => whnf
      | (with_reducible refine br_dec_ff (by assumption) ?_); conv => whnf
      | (with_reducible refine br_dec_tt (by decide) ?_); conv => whnf
      | (with_reducible refine br_dec_ff (by decide) ?_); conv => whnf
      | (with_reducible refine br_dec_intro (fun _ => ?_) (fun _ => ?_)) <;> conv => whnf
      | (with_reducible refine br_beq_tt (by assumption) ?_); conv => whnf
      | (with_reducible refine br_beq_ff (by assumption) ?_); conv => whnf
      | (with_reducible refine br_beq_tt (by decide) ?_); conv => whnf
      | (with_reducible refine br_beq_ff (by decide) ?_); conv => whnf
      | (with_reducible refine br_beq_intro (fun _ => ?_) (fun _ => ?_)) <;> conv => whnf
      | (with_reducible refine br_bne_tt (by assumption) ?_); conv => whnf
      | (with_reducible refine br_bne_ff (by assumption) ?_); conv => whnf
      | (with_reducible refine br_bne_tt (by decide) ?_); conv => whnf
      | (with_reducible refine br_bne_ff (by decide) ?_); conv => whnf
      | (with_reducible refine br_bne_intro (fun _ => ?_) (fun _ => ?_)) <;> conv => whnf
      | (with_reducible refine br_of_true (by assumption) ?_); conv => whnf
      | (with_reducible refine br_of_false (by assumption) ?_); conv => whnf
      | (with_reducible refine br_intro (fun _ => ?_) (fun _ => ?_)) <;> conv => whnf
      | (with_reducible refine and_rfl ?_); conv => whnf
      | (refine and_late (fun _ => ?_) (by first | omega | (show _ = _; rfl) | exact trivial | exact ⟨rfl, trivial⟩ | exact ⟨rfl, rfl, trivial⟩ | exact (fun h => by cases h) | exact (fun _ => ⟨rfl, rfl⟩) | exact Nat.le_of_ble_eq_true rfl | (simp only [List.length_map, List.length_append, pbytes, Nat.mul_one, List.length_cons, List.length_nil]; done) | (simp only [List.length_map, List.length_append, pbytes, Nat.mul_one, List.length_cons, List.length_nil]; omega))); conv => whnf
      | (with_reducible refine and_late (fun _ => ?_) ?_); conv => whnf
      | (with_reducible refine vcall_id ?_)
        first
        | (refine call_pure rfl rfl (.inl rfl) ?_); conv => whnf
        | (refine vcall_inl rfl rfl rfl rfl (Nat.le_of_ble_eq_true rfl) ?_)
      | (with_reducible refine Both.mk ?_ ?_) <;> conv => whnf
      | (refine ⟨[], _, _, rfl, ?_⟩); conv => whnf
      | (refine ⟨_, rfl, ?_⟩); conv => whnf
      | (refine ⟨_, unbytes_pbytes _, ?_⟩); conv => whnf
      | exact ⟨_, _, rfl, rfl⟩
      | exact rensG_pu _ _ _ _
      | rfl
      | (rw [snap_own rfl (show (pbytes _).length = _ * 1 from by rw [pbytes_length, Nat.mul_one])]); conv => whnf
      | fail
    · rename_i q4
      refine ⟨_, ?_, i + 1, ⟨by omega, fun j hj => ?_⟩, rfl, ?_, rfl⟩
      · omega
      · rcases Nat.lt_succ_iff_lt_or_eq.1 hj with hj | rfl
        · exact hall j hj
        · simpa using q4
      · rw [i64_in _ (by omega)]; rfl
    · rename_i q4
      subst hr
      simp at q4
      simp only [packRes, renG, name, AV.pu.injEq, PV.val.injEq, Value.bool.injEq]
      have : allB inner s = false := by
        unfold allB
        rw [decide_eq_false_iff_not]
        intro hh
        have := hh i (by omega)
        rw [q4] at this
        cases this
      simp [this]
    · subst hr
      have : allB inner s = true := by
        unfold allB
        rw [decide_eq_true_eq]
        exact fun j hj => hall j (by omega)
      simp [packRes, renG, name, this]
      omega
  · rename_i h1 h2 h3
    rw [strEq_nil] at h1
    have h0 : s.size ≠ 0 := by simpa using h1
    omega
theorem bt_range (s : ByteArray) (i : Nat) : ∃ n : Nat, n < 256 ∧ bt s i = (n : Int) := by
  unfold bt
  split
  · rename_i h
    exact ⟨(s[i]'h).toNat, UInt8.toNat_lt _, rfl⟩
  · exact ⟨0, by omega, rfl⟩
def dec (n : Nat) : List Int := if h : n < 10 then [48 + (n : Int)] else dec (n / 10) ++ [48 + ((n % 10 : Nat) : Int)]
termination_by n
decreasing_by omega
def F67 : List PV → Option PV
  | [.val (.int .i64 n)] => if 0 ≤ n ∧ n ≤ 9223372036854775807 then some (.val (.string (strOf (dec n.toNat)))) else none
  | _ => none
theorem F67_some {ps p} (h : F67 ps = some p) : ∃ n : Nat, n ≤ 9223372036854775807 ∧ ps = [.val (.int .i64 n)] ∧ p = .val (.string (strOf (dec n))) := by
  unfold F67 at h
  split at h
  · rename_i n
    split at h
    · rename_i hn
      exact ⟨n.toNat, by omega, by rw [Int.toNat_of_nonneg hn.1], by simpa using h.symm⟩
    · cases h
  · cases h
def u8s (l : List Int) : List AV := l.map fun x => .pu (.val (.int .u8 x))
theorem u8s_pb (l : List Int) : u8s l = (pbytes l).map AV.pu := by simp [u8s, pbytes]
theorem splice_mid (A B : List AV) (y z : AV) : Vm.splice (A ++ y :: B) A.length [z] = A ++ z :: B := by
  unfold Vm.splice
  rw [List.take_left, show A.length + [z].length = A.length + 1 from rfl, ← List.drop_drop, List.drop_left]
  simp
theorem splice_dig (d : List Int) (x : Int) (h : d.length ≤ 19) : Vm.splice (u8s (List.replicate (20 - d.length) 0) ++ u8s d) (19 - d.length) [AV.pu (.val (.int .u8 x))] = u8s (List.replicate (19 - d.length) 0) ++ u8s (x :: d) := by
  have e : 20 - d.length = (19 - d.length) + 1 := by omega
  have e2 : u8s (List.replicate (20 - d.length) 0) ++ u8s d = u8s (List.replicate (19 - d.length) 0) ++ AV.pu (.val (.int .u8 0)) :: u8s d := by
    rw [e, List.replicate_succ']
    simp [u8s]
  have hl : (u8s (List.replicate (19 - d.length) 0)).length = 19 - d.length := by simp [u8s]
  have := splice_mid (u8s (List.replicate (19 - d.length) 0)) (u8s d) (AV.pu (.val (.int .u8 0))) (AV.pu (.val (.int .u8 x)))
  rw [hl] at this
  rw [e2, this]
  rfl
theorem con_names_digits : Contract Try.prog id_names_digits (DetP F67) := by
  refine (code_names_digits).detP Known.nil ?_
  intro ps p h
  obtain ⟨n, hn, rfl, rfl⟩ := F67_some h
  refine ⟨Nat.le_of_ble_eq_true rfl, ?_⟩
  clear h
  generalize hr : strOf (dec n) = r
  repeat' first
    | (with_reducible refine bo_run ?_); conv => whnf
    | (with_reducible refine bw_run ?_); conv => whnf
    | (with_reducible refine bd_run ?_); conv => whnf
    | (with_reducible refine Br.tt ?_); conv => whnf
    | (with_reducible refine Br.ff ?_); conv => whnf
    | (with_reducible refine br_not ?_)
    | (with_reducible refine br_dec_tt (by assumption) ?_); conv => whnf
    | (with_reducible refine br_dec_ff (by assumption) ?_); conv => whnf
    | (with_reducible refine br_dec_tt (by decide) ?_); conv => whnf
    | (with_reducible refine br_dec_ff (by decide) ?_); conv => whnf
    | (with_reducible refine br_dec_intro (fun _ => ?_) (fun _ => ?_)) <;> conv => whnf
    | (with_reducible refine br_beq_tt (by assumption) ?_); conv => whnf
    | (with_reducible refine br_beq_ff (by assumption) ?_); conv => whnf
    | (with_reducible refine br_beq_tt (by decide) ?_); conv => whnf
    | (with_reducible refine br_beq_ff (by decide) ?_); conv => whnf
    | (with_reducible refine br_beq_intro (fun _ => ?_) (fun _ => ?_)) <;> conv => whnf
    | (with_reducible refine br_bne_tt (by assumption) ?_); conv => whnf
    | (with_reducible refine br_bne_ff (by assumption) ?_); conv => whnf
    | (with_reducible refine br_bne_tt (by decide) ?_); conv => whnf
    | (with_reducible refine br_bne_ff (by decide) ?_); conv => whnf
    | (with_reducible refine br_bne_intro (fun _ => ?_) (fun _ => ?_)) <;> conv => whnf
    | (with_reducible refine br_of_true (by assumption) ?_); conv => whnf
    | (with_reducible refine br_of_false (by assumption) ?_); conv => whnf
    | (with_reducible refine br_intro (fun _ => ?_) (fun _ => ?_)) <;> conv => whnf
    | (with_reducible refine and_rfl ?_); conv => whnf
    | (refine and_late (fun _ => ?_) (by first | omega | (show _ = _; rfl) | exact trivial | exact ⟨rfl, trivial⟩ | exact ⟨rfl, rfl, trivial⟩ | exact (fun h => by cases h) | exact (fun _ => ⟨rfl, rfl⟩) | exact Nat.le_of_ble_eq_true rfl | (simp only [List.length_map, List.length_append, pbytes, Nat.mul_one, List.length_cons, List.length_nil]; done) | (simp only [List.length_map, List.length_append, pbytes, Nat.mul_one, List.length_cons, List.length_nil]; omega))); conv => whnf
    | (with_reducible refine and_late (fun _ => ?_) ?_); conv => whnf
    | (with_reducible refine vcall_id ?_)
      first
      | (refine vcall_inl rfl rfl rfl rfl (Nat.le_of_ble_eq_true rfl) ?_)
    | (with_reducible refine Both.mk ?_ ?_) <;> conv => whnf
    | (refine ⟨[], _, _, rfl, ?_⟩); conv => whnf
    | (refine ⟨_, rfl, ?_⟩); conv => whnf
    | (refine ⟨_, unbytes_pbytes _, ?_⟩); conv => whnf
    | exact ⟨_, _, rfl, rfl⟩
    | exact rensG_pu _ _ _ _
    | rfl
    | (rw [snap_own rfl (show (pbytes _).length = _ * 1 from by rw [pbytes_length, Nat.mul_one])]); conv => whnf
    | fail
  refine bw_loop (α := Nat × List Int) (fun x => [(0, .pu (.val (.int .i64 x.1))), (3, .ptr 0 0 0), (4, .pu (.val (.int .i64 (20 - x.2.length : Int))))]) (fun x => [some ⟨89, 0, u8s (List.replicate (20 - x.2.length) 0) ++ u8s x.2⟩])
    (fun x => x.2.length ≤ 19 ∧ dec n = dec x.1 ++ x.2 ∧ x.1 * 10 ^ x.2.length ≤ n ∧ (x.2 = [] ∨ 0 < x.1)) (fun x => x.1) (n, []) rfl rfl ⟨by simp, by simp, by simp, .inl rfl⟩ ?_
  rintro ⟨m, d⟩ ⟨h1, h2, h3, h4⟩
  simp only at h1 h2 h3 h4
  dsimp only
  have hm : m ≤ n := Nat.le_trans (Nat.le_mul_of_pos_right m (Nat.pow_pos (by omega))) h3
  have h5 : d.length ≤ 18 := by
    rcases Nat.lt_or_ge d.length 19 with h | h
    · omega
    · exfalso
      have e : d.length = 19 := by omega
      rcases h4 with rfl | h4
      · simp at e
      · rw [e] at h3
        have : 1 * 10 ^ 19 ≤ m * 10 ^ 19 := Nat.mul_le_mul_right _ h4
        omega
  have e1 : IntKind.i64.wrap (20 - (d.length : Int) - 1) = 19 - (d.length : Int) := by rw [i64_in _ (by omega)]; omega
  have e2 : IntKind.i64.wrap ((m : Int).tdiv 10) = ((m / 10 : Nat) : Int) := by
    rw [show (m : Int).tdiv 10 = ((m / 10 : Nat) : Int) from rfl, i64_in _ (by omega)]
  have e3 : IntKind.u8.wrap (IntKind.i64.wrap (48 + (m : Int).tmod 10)) = 48 + ((m % 10 : Nat) : Int) := by
    rw [show (m : Int).tmod 10 = ((m % 10 : Nat) : Int) from rfl, i64_in _ (by omega), u8_in _ (by omega)]
  repeat' first
    | (with_reducible refine bo_run ?_); conv => whnf
    | (with_reducible refine bw_run ?_); conv => whnf
    | (with_reducible refine bd_run ?_); conv => whnf
    | (with_reducible refine Br.tt ?_); conv => whnf
    | (with_reducible refine Br.ff ?_); conv => whnf
    | (with_reducible refine br_not ?_)
    | (with_reducible refine br_dec_tt (by assumption) ?_); conv => whnf
    | (with_reducible refine br_dec_ff (by assumption) ?_); conv => whnf
    | (with_reducible refine br_dec_tt (by decide) ?_); conv => whnf
    | (with_reducible refine br_dec_ff (by decide) ?_); conv => whnf
    | (with_reducible refine br_dec_intro (fun _ => ?_) (fun _ => ?_)) <;> conv => whnf
    | (with_reducible refine br_beq_tt (by assumption) ?_); conv => whnf
    | (with_reducible refine br_beq_ff (by assumption) ?_); conv => whnf
    | (with_reducible refine br_beq_tt (by decide) ?_); conv => whnf
    | (with_reducible refine br_beq_ff (by decide) ?_); conv => whnf
    | (with_reducible refine br_beq_intro (fun _ => ?_) (fun _ => ?_)) <;> conv => whnf
    | (with_reducible refine br_bne_tt (by assumption) ?_); conv => whnf
    | (with_reducible refine br_bne_ff (by assumption) ?_); conv => whnf
    | (with_reducible refine br_bne_tt (by decide) ?_); conv => whnf
    | (with_reducible refine br_bne_ff (by decide) ?_); conv => whnf
    | (with_reducible refine br_bne_intro (fun _ => ?_) (fun _ => ?_)) <;> conv => whnf
    | (with_reducible refine br_of_true (by assumption) ?_); conv => whnf
    | (with_reducible refine br_of_false (by assumption) ?_); conv => whnf
    | (with_reducible refine br_intro (fun _ => ?_) (fun _ => ?_)) <;> conv => whnf
    | (with_reducible refine and_rfl ?_); conv => whnf
    | (refine and_late (fun _ => ?_) (by first | omega | (show _ = _; rfl) | exact trivial | exact ⟨rfl, trivial⟩ | exact ⟨rfl, rfl, trivial⟩ | exact (fun h => by cases h) | exact (fun _ => ⟨rfl, rfl⟩) | exact Nat.le_of_ble_eq_true rfl | (simp only [List.length_map, List.length_append, pbytes, Nat.mul_one, List.length_cons, List.length_nil]; done) | (simp only [List.length_map, List.length_append, pbytes, Nat.mul_one, List.length_cons, List.length_nil]; omega))); conv => whnf
    | (with_reducible refine and_late (fun _ => ?_) ?_); conv => whnf
    | (with_reducible refine vcall_id ?_)
      first
      | (refine vcall_inl rfl rfl rfl rfl (Nat.le_of_ble_eq_true rfl) ?_)
    | (with_reducible refine Both.mk ?_ ?_) <;> conv => whnf
    | (refine ⟨[], _, _, rfl, ?_⟩); conv => whnf
    | (refine ⟨_, rfl, ?_⟩); conv => whnf
    | (refine ⟨_, unbytes_pbytes _, ?_⟩); conv => whnf
    | exact ⟨_, _, rfl, rfl⟩
    | exact rensG_pu _ _ _ _
    | rfl
    | (rw [snap_own rfl (show (pbytes _).length = _ * 1 from by rw [pbytes_length, Nat.mul_one])]); conv => whnf
    | fail
  all_goals simp only [e1, e2, e3]
  · have hd : m / 10 = 0 := by
      have q : IntKind.i64.wrap ((m : Int).tdiv 10) = 0 := by assumption
      rw [e2] at q
      omega
    have e4 : (19 - (d.length : Int)).toNat = 19 - d.length := by omega
    have hsp := splice_dig d (48 + ((m % 10 : Nat) : Int)) (by omega)
    simp only [e4, Nat.mul_one, Nat.zero_add, hsp]
    have hl : (u8s (List.replicate (19 - d.length) 0)).length = 19 - d.length := by simp [u8s]
    refine ⟨pbytes ((48 + ((m % 10 : Nat) : Int)) :: d), ?_, ?_, _, unbytes_pbytes _, ?_⟩
    · rw [show List.drop (19 - d.length) (u8s (List.replicate (19 - d.length) 0) ++ u8s ((48 + ((m % 10 : Nat) : Int)) :: d)) = u8s ((48 + ((m % 10 : Nat) : Int)) :: d) from by
        conv => lhs; arg 1; rw [← hl]
        rw [List.drop_left]]
      rw [List.take_of_length_le (by simp [u8s]; omega), u8s_pb, unpus_map]
    · simp [pbytes]; omega
    · conv => whnf
      repeat' first
        | (with_reducible refine bo_run ?_); conv => whnf
        | (with_reducible refine bw_run ?_); conv => whnf
        | (with_reducible refine bd_run ?_); conv => whnf
        | (with_reducible refine Br.tt ?_); conv => whnf
        | (with_reducible refine Br.ff ?_); conv => whnf
        | (with_reducible refine br_not ?_)
        | (with_reducible refine br_dec_tt (by assumption) ?_); conv => whnf
        | (with_reducible refine br_dec_ff (by assumption) ?_); conv => whnf
        | (with_reducible refine br_dec_tt (by decide) ?_); conv => whnf
        | (with_reducible refine br_dec_ff (by decide) ?_); conv => whnf
        | (with_reducible refine br_dec_intro (fun _ => ?_) (fun _ => ?_)) <;> conv => whnf
        | (with_reducible refine br_beq_tt (by assumption) ?_); conv => whnf
        | (with_reducible refine br_beq_ff (by assumption) ?_); conv => whnf
        | (with_reducible refine br_beq_tt (by decide) ?_); conv => whnf
        | (with_reducible refine br_beq_ff (by decide) ?_); conv => whnf
        | (with_reducible refine br_beq_intro (fun _ => ?_) (fun _ => ?_)) <;> conv => whnf
        | (with_reducible refine br_bne_tt (by assumption) ?_); conv => whnf
        | (with_reducible refine br_bne_ff (by assumption) ?_); conv => whnf
        | (with_reducible refine br_bne_tt (by decide) ?_); conv => whnf
        | (with_reducible refine br_bne_ff (by decide) ?_); conv => whnf
        | (with_reducible refine br_bne_intro (fun _ => ?_) (fun _ => ?_)) <;> conv => whnf
        | (with_reducible refine br_of_true (by assumption) ?_); conv => whnf
        | (with_reducible refine br_of_false (by assumption) ?_); conv => whnf
        | (with_reducible refine br_intro (fun _ => ?_) (fun _ => ?_)) <;> conv => whnf
        | (with_reducible refine and_rfl ?_); conv => whnf
        | (refine and_late (fun _ => ?_) (by first | omega | (show _ = _; rfl) | exact trivial | exact ⟨rfl, trivial⟩ | exact ⟨rfl, rfl, trivial⟩ | exact (fun h => by cases h) | exact (fun _ => ⟨rfl, rfl⟩) | exact Nat.le_of_ble_eq_true rfl | (simp only [List.length_map, List.length_append, pbytes, Nat.mul_one, List.length_cons, List.length_nil]; done) | (simp only [List.length_map, List.length_append, pbytes, Nat.mul_one, List.length_cons, List.length_nil]; omega))); conv => whnf
        | (with_reducible refine and_late (fun _ => ?_) ?_); conv => whnf
        | (with_reducible refine vcall_id ?_)
          first
          | (refine vcall_inl rfl rfl rfl rfl (Nat.le_of_ble_eq_true rfl) ?_)
        | (with_reducible refine Both.mk ?_ ?_) <;> conv => whnf
        | (refine ⟨[], _, _, rfl, ?_⟩); conv => whnf
        | (refine ⟨_, rfl, ?_⟩); conv => whnf
        | (refine ⟨_, unbytes_pbytes _, ?_⟩); conv => whnf
        | exact ⟨_, _, rfl, rfl⟩
        | exact rensG_pu _ _ _ _
        | rfl
        | (rw [snap_own rfl (show (pbytes _).length = _ * 1 from by rw [pbytes_length, Nat.mul_one])]); conv => whnf
        | fail
      subst hr
      simp only [packRes, renG, h2]
      have : dec m = [48 + ((m % 10 : Nat) : Int)] := by
        rw [dec, dif_pos (by omega), Nat.mod_eq_of_lt (by omega)]
      rw [this]
      rfl
  · have e4 : (19 - (d.length : Int)).toNat = 19 - d.length := by omega
    have hsp := splice_dig d (48 + ((m % 10 : Nat) : Int)) (by omega)
    simp only [e4, Nat.mul_one, Nat.zero_add, hsp]
    simp [u8s]; omega
  · have hq : ¬ IntKind.i64.wrap ((m : Int).tdiv 10) = 0 := by assumption
    rw [e2] at hq
    have hd : m / 10 ≠ 0 := by omega
    have e4 : (19 - (d.length : Int)).toNat = 19 - d.length := by omega
    have hsp := splice_dig d (48 + ((m % 10 : Nat) : Int)) (by omega)
    refine ⟨_, ?_, (m / 10, (48 + ((m % 10 : Nat) : Int)) :: d), ⟨by simp; omega, ?_, ?_, .inr (by omega)⟩, rfl, ?_, ?_⟩
    · show m / 10 < m
      omega
    · simp only
      rw [h2, dec, dif_neg (by omega)]
      simp
    · simp only [List.length_cons, Nat.pow_succ]
      refine Nat.le_trans ?_ h3
      rw [Nat.mul_comm (10 ^ d.length), ← Nat.mul_assoc]
      exact Nat.mul_le_mul_right _ (by omega)
    · simp only [List.length_cons]
      rw [show (20 - ((d.length + 1 : Nat) : Int)) = 19 - (d.length : Int) from by omega]
      rfl
    · simp only [e4, Nat.mul_one, Nat.zero_add, hsp, List.length_cons]
      rw [show 20 - (d.length + 1) = 19 - d.length from by omega]
  · simp [u8s]; omega
theorem strOf_append (a b : List Int) : strOf (a ++ b) = strOf a ++ strOf b := by
  unfold strOf
  apply ByteArray.ext
  simp
theorem strOf_size (l : List Int) : (strOf l).size = l.length := by simp [strOf, ByteArray.size]
theorem dec_len : ∀ (k n : Nat), n < 10 ^ (k + 1) → (dec n).length ≤ k + 1
  | 0, n, h => by rw [dec, dif_pos (by simpa using h)]; simp
  | k + 1, n, h => by
    rw [dec]
    split
    · simp
    · have := dec_len k (n / 10) (by rw [Nat.div_lt_iff_lt_mul (by omega), ← Nat.pow_succ]; exact h)
      simp
      omega
theorem dec_size (n : Nat) (h : n ≤ 9223372036854775807) : (strOf (dec n)).size ≤ 19 := by
  rw [strOf_size]
  exact dec_len 18 n (by omega)
def row (s : ByteArray) : ByteArray := ⟨#[119, 47]⟩ ++ s
def F20 : List PV → Option PV
  | [.val (.string s)] => if s.size ≤ 140737488355328 then some (.val (.string (row s))) else none
  | _ => none
theorem F20_some {ps p} (h : F20 ps = some p) : ∃ s, s.size ≤ 140737488355328 ∧ ps = [.val (.string s)] ∧ p = .val (.string (row s)) := by
  unfold F20 at h
  split at h
  · rename_i s
    split at h
    · rename_i hs
      exact ⟨s, hs, rfl, by simpa using h.symm⟩
    · cases h
  · cases h
theorem con_names_Row : Contract Try.prog id_names_Row (DetP F20) := by
  refine (code_names_Row).detP Known.nil ?_
  intro ps p h
  obtain ⟨s, hs, rfl, rfl⟩ := F20_some h
  refine ⟨Nat.le_of_ble_eq_true rfl, ?_⟩
  clear h
  generalize hr : row s = r
  repeat' first
    | (with_reducible refine bo_run ?_); conv => whnf
    | (with_reducible refine bw_run ?_); conv => whnf
    | (with_reducible refine bd_run ?_); conv => whnf
    | (with_reducible refine Br.tt ?_); conv => whnf
    | (with_reducible refine Br.ff ?_); conv => whnf
    | (with_reducible refine br_not ?_)
    | (with_reducible refine br_dec_tt (by assumption) ?_); conv => whnf
    | (with_reducible refine br_dec_ff (by assumption) ?_); conv => whnf
    | (with_reducible refine br_dec_tt (by decide) ?_); conv => whnf
    | (with_reducible refine br_dec_ff (by decide) ?_); conv => whnf
    | (with_reducible refine br_dec_intro (fun _ => ?_) (fun _ => ?_)) <;> conv => whnf
    | (with_reducible refine br_beq_tt (by assumption) ?_); conv => whnf
    | (with_reducible refine br_beq_ff (by assumption) ?_); conv => whnf
    | (with_reducible refine br_beq_tt (by decide) ?_); conv => whnf
    | (with_reducible refine br_beq_ff (by decide) ?_); conv => whnf
    | (with_reducible refine br_beq_intro (fun _ => ?_) (fun _ => ?_)) <;> conv => whnf
    | (with_reducible refine br_bne_tt (by assumption) ?_); conv => whnf
    | (with_reducible refine br_bne_ff (by assumption) ?_); conv => whnf
    | (with_reducible refine br_bne_tt (by decide) ?_); conv => whnf
    | (with_reducible refine br_bne_ff (by decide) ?_); conv => whnf
    | (with_reducible refine br_bne_intro (fun _ => ?_) (fun _ => ?_)) <;> conv => whnf
    | (with_reducible refine br_of_true (by assumption) ?_); conv => whnf
    | (with_reducible refine br_of_false (by assumption) ?_); conv => whnf
    | (with_reducible refine br_intro (fun _ => ?_) (fun _ => ?_)) <;> conv => whnf
    | (with_reducible refine and_rfl ?_); conv => whnf
    | (refine and_late (fun _ => ?_) (by first | omega | (show _ = _; rfl) | exact trivial | exact ⟨rfl, trivial⟩ | exact ⟨rfl, rfl, trivial⟩ | exact (fun h => by cases h) | exact (fun _ => ⟨rfl, rfl⟩) | exact Nat.le_of_ble_eq_true rfl | (simp only [List.length_map, List.length_append, pbytes, Nat.mul_one, List.length_cons, List.length_nil]; done) | (simp only [List.length_map, List.length_append, pbytes, Nat.mul_one, List.length_cons, List.length_nil]; omega))); conv => whnf
    | (with_reducible refine and_late (fun _ => ?_) ?_); conv => whnf
    | (with_reducible refine vcall_id ?_)
      first
      | (refine vcall_inl rfl rfl rfl rfl (Nat.le_of_ble_eq_true rfl) ?_)
    | (with_reducible refine Both.mk ?_ ?_) <;> conv => whnf
    | (refine ⟨[], _, _, rfl, ?_⟩); conv => whnf
    | (refine ⟨_, rfl, ?_⟩); conv => whnf
    | (refine ⟨_, unbytes_pbytes _, ?_⟩); conv => whnf
    | exact ⟨_, _, rfl, rfl⟩
    | exact rensG_pu _ _ _ _
    | rfl
    | (rw [snap_own rfl (show (pbytes _).length = _ * 1 from by rw [pbytes_length, Nat.mul_one])]); conv => whnf
    | fail
  · subst hr; rfl
  · have : (⟨#[119, 47]⟩ : ByteArray).size = 2 := rfl
    omega
def branch (s : ByteArray) (n : Nat) : ByteArray := ((⟨#[104, 47]⟩ : ByteArray) ++ s ++ ⟨#[47]⟩) ++ strOf (dec n)
def F22 : List PV → Option PV
  | [.val (.string s), .val (.int .i64 n)] => if s.size ≤ 140737488355328 ∧ n ≤ 9223372036854775807 then some (.val (.string (branch s n.toNat))) else none
  | _ => none
theorem F22_some {ps p} (h : F22 ps = some p) : ∃ s n, s.size ≤ 140737488355328 ∧ n ≤ 9223372036854775807 ∧ ps = [.val (.string s), .val (.int .i64 n)] ∧ p = .val (.string (branch s n.toNat)) := by
  unfold F22 at h
  split at h
  · rename_i s n
    split at h
    · rename_i hs
      exact ⟨s, n, hs.1, hs.2, rfl, by simpa using h.symm⟩
    · cases h
  · cases h
theorem con_names_Branch : Contract Try.prog id_names_Branch (DetP F22) := by
  refine (code_names_Branch).detP (Known.cons con_names_digits Known.nil) ?_
  intro ps p h
  obtain ⟨s, n, hs, hn, rfl, rfl⟩ := F22_some h
  refine ⟨Nat.le_of_ble_eq_true rfl, ?_⟩
  clear h
  generalize hr : branch s n.toNat = r
  have z1 : (⟨#[104, 47]⟩ : ByteArray).size = 2 := rfl
  have z2 : (⟨#[47]⟩ : ByteArray).size = 1 := rfl
  have e1 : (if (0 : Int) > n then 0 else n) = (n.toNat : Int) := by split <;> omega
  repeat' first
    | (with_reducible refine bo_run ?_); conv => whnf
    | (with_reducible refine bw_run ?_); conv => whnf
    | (with_reducible refine bd_run ?_); conv => whnf
    | (with_reducible refine Br.tt ?_); conv => whnf
    | (with_reducible refine Br.ff ?_); conv => whnf
    | (with_reducible refine br_not ?_)
    | (with_reducible refine br_dec_tt (by assumption) ?_); conv => whnf
    | (with_reducible refine br_dec_ff (by assumption) ?_); conv => whnf
    | (with_reducible refine br_dec_tt (by decide) ?_); conv => whnf
    | (with_reducible refine br_dec_ff (by decide) ?_); conv => whnf
    | (with_reducible refine br_dec_intro (fun _ => ?_) (fun _ => ?_)) <;> conv => whnf
    | (with_reducible refine br_beq_tt (by assumption) ?_); conv => whnf
    | (with_reducible refine br_beq_ff (by assumption) ?_); conv => whnf
    | (with_reducible refine br_beq_tt (by decide) ?_); conv => whnf
    | (with_reducible refine br_beq_ff (by decide) ?_); conv => whnf
    | (with_reducible refine br_beq_intro (fun _ => ?_) (fun _ => ?_)) <;> conv => whnf
    | (with_reducible refine br_bne_tt (by assumption) ?_); conv => whnf
    | (with_reducible refine br_bne_ff (by assumption) ?_); conv => whnf
    | (with_reducible refine br_bne_tt (by decide) ?_); conv => whnf
    | (with_reducible refine br_bne_ff (by decide) ?_); conv => whnf
    | (with_reducible refine br_bne_intro (fun _ => ?_) (fun _ => ?_)) <;> conv => whnf
    | (with_reducible refine br_of_true (by assumption) ?_); conv => whnf
    | (with_reducible refine br_of_false (by assumption) ?_); conv => whnf
    | (with_reducible refine br_intro (fun _ => ?_) (fun _ => ?_)) <;> conv => whnf
    | (with_reducible refine and_rfl ?_); conv => whnf
    | (refine and_late (fun _ => ?_) (by first | omega | (show _ = _; rfl) | exact trivial | exact ⟨rfl, trivial⟩ | exact ⟨rfl, rfl, trivial⟩ | exact (fun h => by cases h) | exact (fun _ => ⟨rfl, rfl⟩) | exact Nat.le_of_ble_eq_true rfl | (simp only [List.length_map, List.length_append, pbytes, Nat.mul_one, List.length_cons, List.length_nil]; done) | (simp only [List.length_map, List.length_append, pbytes, Nat.mul_one, List.length_cons, List.length_nil]; omega))); conv => whnf
    | (with_reducible refine and_late (fun _ => ?_) ?_); conv => whnf
    | (with_reducible refine vcall_id ?_)
      first
      | (refine call_pure rfl rfl (.inl rfl) ?_); conv => whnf
      | (refine vcall_inl rfl rfl rfl rfl (Nat.le_of_ble_eq_true rfl) ?_)
    | (with_reducible refine Both.mk ?_ ?_) <;> conv => whnf
    | (refine ⟨[], _, _, rfl, ?_⟩); conv => whnf
    | (refine ⟨_, rfl, ?_⟩); conv => whnf
    | (refine ⟨_, unbytes_pbytes _, ?_⟩); conv => whnf
    | exact ⟨_, _, rfl, rfl⟩
    | exact rensG_pu _ _ _ _
    | rfl
    | (rw [snap_own rfl (show (pbytes _).length = _ * 1 from by rw [pbytes_length, Nat.mul_one])]); conv => whnf
    | fail
  · simp only [e1]
    refine call_pure (p := .val (.string (strOf (dec n.toNat)))) rfl ?_ (.inl rfl) ?_
    · unfold F67
      simp only
      rw [if_pos (by omega)]
      rfl
    · conv => whnf
      have := dec_size n.toNat (by omega)
      repeat' first
        | (with_reducible refine bo_run ?_); conv => whnf
        | (with_reducible refine bw_run ?_); conv => whnf
        | (with_reducible refine bd_run ?_); conv => whnf
        | (with_reducible refine Br.tt ?_); conv => whnf
        | (with_reducible refine Br.ff ?_); conv => whnf
        | (with_reducible refine br_not ?_)
        | (with_reducible refine br_dec_tt (by assumption) ?_); conv => whnf
        | (with_reducible refine br_dec_ff (by assumption) ?_); conv => whnf
        | (with_reducible refine br_dec_tt (by decide) ?_); conv => whnf
        | (with_reducible refine br_dec_ff (by decide) ?_); conv => whnf
        | (with_reducible refine br_dec_intro (fun _ => ?_) (fun _ => ?_)) <;> conv => whnf
        | (with_reducible refine br_beq_tt (by assumption) ?_); conv => whnf
        | (with_reducible refine br_beq_ff (by assumption) ?_); conv => whnf
        | (with_reducible refine br_beq_tt (by decide) ?_); conv => whnf
        | (with_reducible refine br_beq_ff (by decide) ?_); conv => whnf
        | (with_reducible refine br_beq_intro (fun _ => ?_) (fun _ => ?_)) <;> conv => whnf
        | (with_reducible refine br_bne_tt (by assumption) ?_); conv => whnf
        | (with_reducible refine br_bne_ff (by assumption) ?_); conv => whnf
        | (with_reducible refine br_bne_tt (by decide) ?_); conv => whnf
        | (with_reducible refine br_bne_ff (by decide) ?_); conv => whnf
        | (with_reducible refine br_bne_intro (fun _ => ?_) (fun _ => ?_)) <;> conv => whnf
        | (with_reducible refine br_of_true (by assumption) ?_); conv => whnf
        | (with_reducible refine br_of_false (by assumption) ?_); conv => whnf
        | (with_reducible refine br_intro (fun _ => ?_) (fun _ => ?_)) <;> conv => whnf
        | (with_reducible refine and_rfl ?_); conv => whnf
        | (refine and_late (fun _ => ?_) (by first | omega | (show _ = _; rfl) | exact trivial | exact ⟨rfl, trivial⟩ | exact ⟨rfl, rfl, trivial⟩ | exact (fun h => by cases h) | exact (fun _ => ⟨rfl, rfl⟩) | exact Nat.le_of_ble_eq_true rfl | (simp only [List.length_map, List.length_append, pbytes, Nat.mul_one, List.length_cons, List.length_nil]; done) | (simp only [List.length_map, List.length_append, pbytes, Nat.mul_one, List.length_cons, List.length_nil]; omega))); conv => whnf
        | (with_reducible refine and_late (fun _ => ?_) ?_); conv => whnf
        | (with_reducible refine vcall_id ?_)
          first
          | (refine call_pure rfl rfl (.inl rfl) ?_); conv => whnf
          | (refine vcall_inl rfl rfl rfl rfl (Nat.le_of_ble_eq_true rfl) ?_)
        | (with_reducible refine Both.mk ?_ ?_) <;> conv => whnf
        | (refine ⟨[], _, _, rfl, ?_⟩); conv => whnf
        | (refine ⟨_, rfl, ?_⟩); conv => whnf
        | (refine ⟨_, unbytes_pbytes _, ?_⟩); conv => whnf
        | exact ⟨_, _, rfl, rfl⟩
        | exact rensG_pu _ _ _ _
        | rfl
        | (rw [snap_own rfl (show (pbytes _).length = _ * 1 from by rw [pbytes_length, Nat.mul_one])]); conv => whnf
        | fail
      · subst hr; rfl
      · simp only [ByteArray.size_append]; omega
  · simp only [ByteArray.size_append]; omega
def F19 : List PV → Option PV
  | [] => some (.val (.bool true))
  | _ => none
theorem con_law04_awake : Contract Try.prog id_law04_awake (DetP F19) := by
  refine (code_law04_awake).detP (Known.cons con_names_Branch (Known.cons con_names_Name Known.nil)) ?_
  intro ps p h
  have : ps = [] ∧ p = .val (.bool true) := by
    unfold F19 at h
    split at h
    · exact ⟨rfl, by simpa using h.symm⟩
    · cases h
  obtain ⟨rfl, rfl⟩ := this
  refine ⟨Nat.zero_le _, ?_⟩
  clear h
  have b10 : branch ⟨#[97, 46, 98]⟩ (Int.toNat 10) = ⟨#[104, 47, 97, 46, 98, 47, 49, 48]⟩ := by
    have e : dec (Int.toNat 10) = [49, 48] := by
      rw [show Int.toNat 10 = 10 from rfl, dec, dif_neg (by omega), show 10 / 10 = 1 from rfl, dec, dif_pos (by omega)]
      rfl
    unfold branch
    rw [e]
    rfl
  have n0 : name ⟨#[]⟩ = false := by decide +kernel
  have n1 : name ⟨#[97]⟩ = true := by decide +kernel
  repeat' first
    | (with_reducible refine bo_run ?_); conv => whnf
    | (with_reducible refine bw_run ?_); conv => whnf
    | (with_reducible refine bd_run ?_); conv => whnf
    | (with_reducible refine Br.tt ?_); conv => whnf
    | (with_reducible refine Br.ff ?_); conv => whnf
    | (with_reducible refine br_not ?_)
    | (with_reducible refine br_dec_tt (by assumption) ?_); conv => whnf
    | (with_reducible refine br_dec_ff (by assumption) ?_); conv => whnf
    | (with_reducible refine br_dec_tt (by decide) ?_); conv => whnf
    | (with_reducible refine br_dec_ff (by decide) ?_); conv => whnf
    | (with_reducible refine br_dec_intro (fun _ => ?_) (fun _ => ?_)) <;> conv => whnf
    | (with_reducible refine br_beq_tt (by assumption) ?_); conv => whnf
    | (with_reducible refine br_beq_ff (by assumption) ?_); conv => whnf
    | (with_reducible refine br_beq_tt (by decide) ?_); conv => whnf
    | (with_reducible refine br_beq_ff (by decide) ?_); conv => whnf
    | (with_reducible refine br_beq_intro (fun _ => ?_) (fun _ => ?_)) <;> conv => whnf
    | (with_reducible refine br_bne_tt (by assumption) ?_); conv => whnf
    | (with_reducible refine br_bne_ff (by assumption) ?_); conv => whnf
    | (with_reducible refine br_bne_tt (by decide) ?_); conv => whnf
    | (with_reducible refine br_bne_ff (by decide) ?_); conv => whnf
    | (with_reducible refine br_bne_intro (fun _ => ?_) (fun _ => ?_)) <;> conv => whnf
    | (with_reducible refine br_of_true (by assumption) ?_); conv => whnf
    | (with_reducible refine br_of_false (by assumption) ?_); conv => whnf
    | (with_reducible refine br_intro (fun _ => ?_) (fun _ => ?_)) <;> conv => whnf
    | (with_reducible refine and_rfl ?_); conv => whnf
    | (refine and_late (fun _ => ?_) (by first | omega | (show _ = _; rfl) | exact trivial | exact ⟨rfl, trivial⟩ | exact ⟨rfl, rfl, trivial⟩ | exact (fun h => by cases h) | exact (fun _ => ⟨rfl, rfl⟩) | exact Nat.le_of_ble_eq_true rfl | (simp only [List.length_map, List.length_append, pbytes, Nat.mul_one, List.length_cons, List.length_nil]; done) | (simp only [List.length_map, List.length_append, pbytes, Nat.mul_one, List.length_cons, List.length_nil]; omega))); conv => whnf
    | (with_reducible refine and_late (fun _ => ?_) ?_); conv => whnf
    | (with_reducible refine vcall_id ?_)
      first
      | (refine call_pure rfl rfl (.inl rfl) ?_); conv => whnf
      | (refine vcall_inl rfl rfl rfl rfl (Nat.le_of_ble_eq_true rfl) ?_)
    | (with_reducible refine Both.mk ?_ ?_) <;> conv => whnf
    | (refine ⟨[], _, _, rfl, ?_⟩); conv => whnf
    | (refine ⟨_, rfl, ?_⟩); conv => whnf
    | (refine ⟨_, unbytes_pbytes _, ?_⟩); conv => whnf
    | exact ⟨_, _, rfl, rfl⟩
    | exact rensG_pu _ _ _ _
    | rfl
    | (rw [snap_own rfl (show (pbytes _).length = _ * 1 from by rw [pbytes_length, Nat.mul_one])]); conv => whnf
    | fail
  · rename_i h1; rw [b10, (strEq_iff _ _).2 rfl] at h1; cases h1
end Go.Proofs.Ytdjgfjnnafddnaa
