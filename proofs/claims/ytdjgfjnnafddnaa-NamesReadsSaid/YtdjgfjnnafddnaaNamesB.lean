/- usher/usherref04.Name; the short texts. -/
import Derived.Test.YtdjgfjnnafddnaaNamesA
set_option linter.unusedVariables false
set_option linter.unusedSimpArgs false
set_option maxRecDepth 20000
namespace Go.Proofs.Ytdjgfjnnafddnaa
open Go Go.Vm Go.IntWalk

def nameR (s : ByteArray) : Bool := decide (0 < s.size) && decide (s.size ≤ 24) && bt s 0 != 46 && bt s 0 != 45 && allB letter s
def F16 : List PV → Option PV
  | [.val (.string s)] => some (.val (.bool (nameR s)))
  | _ => none
theorem F16_some {ps p} (h : F16 ps = some p) : ∃ s, ps = [.val (.string s)] ∧ p = .val (.bool (nameR s)) := by
  unfold F16 at h
  split at h
  · rename_i c; exact ⟨c, rfl, by simpa using h.symm⟩
  · cases h
theorem con16 : Contract Try.prog 16 (DetP F16) := by
  refine contract_pure (Known.cons con66 Known.nil) Try.func16 (by kernel_rfl) rfl comp16 rfl (by kernel_rfl) ?_
  intro ps p h
  obtain ⟨s, rfl, rfl⟩ := F16_some h
  refine ⟨(by decide : 1 ≤ Try.f16.ntmps), ?_⟩
  clear h
  generalize hr : nameR s = r
  repeat' first
    | (with_reducible refine bo_run ?_); conv => whnf
    | (with_reducible refine bw_run ?_); conv => whnf
    | (with_reducible refine Br.tt ?_); conv => whnf
    | (with_reducible refine Br.ff ?_); conv => whnf
    | (with_reducible refine br_not ?_)
    | (with_reducible refine br_dec_tt (by assumption) ?_); conv => whnf
    | (with_reducible refine br_dec_ff (by assumption) ?_); conv => whnf
    | (with_reducible refine br_dec_intro (fun _ => ?_) (fun _ => ?_)) <;> conv => whnf
    | (with_reducible refine br_beq_tt (by assumption) ?_); conv => whnf
    | (with_reducible refine br_beq_ff (by assumption) ?_); conv => whnf
    | (with_reducible refine br_beq_intro (fun _ => ?_) (fun _ => ?_)) <;> conv => whnf
    | (with_reducible refine br_bne_tt (by assumption) ?_); conv => whnf
    | (with_reducible refine br_bne_ff (by assumption) ?_); conv => whnf
    | (with_reducible refine br_bne_intro (fun _ => ?_) (fun _ => ?_)) <;> conv => whnf
    | (with_reducible refine br_of_true (by assumption) ?_); conv => whnf
    | (with_reducible refine br_of_false (by assumption) ?_); conv => whnf
    | (with_reducible refine br_intro (fun _ => ?_) (fun _ => ?_)) <;> conv => whnf
    | (with_reducible refine and_rfl ?_); conv => whnf
    | (with_reducible refine and_late (fun _ => ?_) (by first | omega | (show _ = _; rfl))); conv => whnf
    | (with_reducible refine and_late (fun _ => ?_) ?_); conv => whnf
    | (refine call_pure rfl rfl (.inl rfl) ?_); conv => whnf
    | (refine ⟨_, rfl, ?_⟩); conv => whnf
  · subst hr; simp [nameR, packRes]; omega
  · subst hr; simp [nameR, packRes]; omega
  · subst hr; rename_i h3; simp [nameR, packRes]; intros; simp_all
  · subst hr; rename_i h3; simp [nameR, packRes]; intros; simp_all
  · rename_i h1 h2 h3 h4 h5 h6 h7 h8
    refine bw_loop (α := Nat) (fun i => [(0, .pu (.val (.string s))), (3, .pu (.val (.int .i64 i)))]) (fun _ => [])
      (fun i => i ≤ s.size ∧ ∀ j, j < i → letter (bt s j) = true) (fun i => s.size - i) 0 rfl rfl ⟨Nat.zero_le _, fun j hj => absurd hj (Nat.not_lt_zero _)⟩ ?_
    rintro i ⟨hi, hall⟩
    repeat' first
      | (with_reducible refine bo_run ?_); conv => whnf
      | (with_reducible refine bw_run ?_); conv => whnf
      | (with_reducible refine Br.tt ?_); conv => whnf
      | (with_reducible refine Br.ff ?_); conv => whnf
      | (with_reducible refine br_not ?_)
      | (with_reducible refine br_dec_tt (by assumption) ?_); conv => whnf
      | (with_reducible refine br_dec_ff (by assumption) ?_); conv => whnf
      | (with_reducible refine br_dec_intro (fun _ => ?_) (fun _ => ?_)) <;> conv => whnf
      | (with_reducible refine br_beq_tt (by assumption) ?_); conv => whnf
      | (with_reducible refine br_beq_ff (by assumption) ?_); conv => whnf
      | (with_reducible refine br_beq_intro (fun _ => ?_) (fun _ => ?_)) <;> conv => whnf
      | (with_reducible refine br_bne_tt (by assumption) ?_); conv => whnf
      | (with_reducible refine br_bne_ff (by assumption) ?_); conv => whnf
      | (with_reducible refine br_bne_intro (fun _ => ?_) (fun _ => ?_)) <;> conv => whnf
      | (with_reducible refine br_of_true (by assumption) ?_); conv => whnf
      | (with_reducible refine br_of_false (by assumption) ?_); conv => whnf
      | (with_reducible refine br_intro (fun _ => ?_) (fun _ => ?_)) <;> conv => whnf
      | (with_reducible refine and_rfl ?_); conv => whnf
      | (with_reducible refine and_late (fun _ => ?_) (by first | omega | (show _ = _; rfl))); conv => whnf
      | (with_reducible refine and_late (fun _ => ?_) ?_); conv => whnf
      | (refine call_pure rfl rfl (.inl rfl) ?_); conv => whnf
      | (refine ⟨_, rfl, ?_⟩); conv => whnf
    · rename_i q4
      refine ⟨_, ?_, i + 1, ⟨by omega, fun j hj => ?_⟩, rfl, ?_, rfl⟩
      · omega
      · rcases Nat.lt_succ_iff_lt_or_eq.1 hj with hj | rfl
        · exact hall j hj
        · simpa using q4
      · rw [i64_in _ (by omega)]; rfl
    · rename_i q4
      subst hr
      simp at q4
      simp only [packRes, nameR, AV.pu.injEq, PV.val.injEq, Value.bool.injEq]
      have : allB letter s = false := by
        unfold allB
        rw [decide_eq_false_iff_not]
        intro hh
        have := hh i (by omega)
        rw [q4] at this
        cases this
      simp [this]
    · subst hr
      have : allB letter s = true := by
        unfold allB
        rw [decide_eq_true_eq]
        exact fun j hj => hall j (by omega)
      simp at h5 h8
      simp [packRes, nameR, this, h5, h8]
      omega
def F17 : List PV → Option PV
  | [.val (.string s)] => some (.val (.bool (decide (s.size ≤ 200))))
  | _ => none
theorem F17_some {ps p} (h : F17 ps = some p) : ∃ s, ps = [.val (.string s)] ∧ p = .val (.bool (decide (s.size ≤ 200))) := by
  unfold F17 at h
  split at h
  · rename_i c; exact ⟨c, rfl, by simpa using h.symm⟩
  · cases h
theorem con17 : Contract Try.prog 17 (DetP F17) := by
  refine contract_pure Known.nil Try.func17 (by kernel_rfl) rfl comp17 rfl (by kernel_rfl) ?_
  intro ps p h
  obtain ⟨s, rfl, rfl⟩ := F17_some h
  refine ⟨(by decide : 1 ≤ Try.f17.ntmps), ?_⟩
  clear h
  repeat' first
    | (with_reducible refine bo_run ?_); conv => whnf
    | (with_reducible refine bw_run ?_); conv => whnf
    | (with_reducible refine Br.tt ?_); conv => whnf
    | (with_reducible refine Br.ff ?_); conv => whnf
    | (with_reducible refine br_not ?_)
    | (with_reducible refine br_dec_tt (by assumption) ?_); conv => whnf
    | (with_reducible refine br_dec_ff (by assumption) ?_); conv => whnf
    | (with_reducible refine br_dec_intro (fun _ => ?_) (fun _ => ?_)) <;> conv => whnf
    | (with_reducible refine br_beq_tt (by assumption) ?_); conv => whnf
    | (with_reducible refine br_beq_ff (by assumption) ?_); conv => whnf
    | (with_reducible refine br_beq_intro (fun _ => ?_) (fun _ => ?_)) <;> conv => whnf
    | (with_reducible refine br_bne_tt (by assumption) ?_); conv => whnf
    | (with_reducible refine br_bne_ff (by assumption) ?_); conv => whnf
    | (with_reducible refine br_bne_intro (fun _ => ?_) (fun _ => ?_)) <;> conv => whnf
    | (with_reducible refine br_of_true (by assumption) ?_); conv => whnf
    | (with_reducible refine br_of_false (by assumption) ?_); conv => whnf
    | (with_reducible refine br_intro (fun _ => ?_) (fun _ => ?_)) <;> conv => whnf
    | (with_reducible refine and_rfl ?_); conv => whnf
    | (with_reducible refine and_late (fun _ => ?_) (by first | omega | (show _ = _; rfl))); conv => whnf
    | (with_reducible refine and_late (fun _ => ?_) ?_); conv => whnf
    | (refine call_pure rfl rfl (.inl rfl) ?_); conv => whnf
    | (refine ⟨_, rfl, ?_⟩); conv => whnf
  all_goals (simp [packRes]; try omega)
theorem con18 : Contract Try.prog 18 (DetP F17) := by
  refine contract_pure Known.nil Try.func18 (by kernel_rfl) rfl comp18 rfl (by kernel_rfl) ?_
  intro ps p h
  obtain ⟨s, rfl, rfl⟩ := F17_some h
  refine ⟨(by decide : 1 ≤ Try.f18.ntmps), ?_⟩
  clear h
  repeat' first
    | (with_reducible refine bo_run ?_); conv => whnf
    | (with_reducible refine bw_run ?_); conv => whnf
    | (with_reducible refine Br.tt ?_); conv => whnf
    | (with_reducible refine Br.ff ?_); conv => whnf
    | (with_reducible refine br_not ?_)
    | (with_reducible refine br_dec_tt (by assumption) ?_); conv => whnf
    | (with_reducible refine br_dec_ff (by assumption) ?_); conv => whnf
    | (with_reducible refine br_dec_intro (fun _ => ?_) (fun _ => ?_)) <;> conv => whnf
    | (with_reducible refine br_beq_tt (by assumption) ?_); conv => whnf
    | (with_reducible refine br_beq_ff (by assumption) ?_); conv => whnf
    | (with_reducible refine br_beq_intro (fun _ => ?_) (fun _ => ?_)) <;> conv => whnf
    | (with_reducible refine br_bne_tt (by assumption) ?_); conv => whnf
    | (with_reducible refine br_bne_ff (by assumption) ?_); conv => whnf
    | (with_reducible refine br_bne_intro (fun _ => ?_) (fun _ => ?_)) <;> conv => whnf
    | (with_reducible refine br_of_true (by assumption) ?_); conv => whnf
    | (with_reducible refine br_of_false (by assumption) ?_); conv => whnf
    | (with_reducible refine br_intro (fun _ => ?_) (fun _ => ?_)) <;> conv => whnf
    | (with_reducible refine and_rfl ?_); conv => whnf
    | (with_reducible refine and_late (fun _ => ?_) (by first | omega | (show _ = _; rfl))); conv => whnf
    | (with_reducible refine and_late (fun _ => ?_) ?_); conv => whnf
    | (refine call_pure rfl rfl (.inl rfl) ?_); conv => whnf
    | (refine ⟨_, rfl, ?_⟩); conv => whnf
  all_goals (simp [packRes]; try omega)
theorem bt_range (s : ByteArray) (i : Nat) : ∃ n : Nat, n < 256 ∧ bt s i = (n : Int) := by
  unfold bt
  split
  · rename_i h
    exact ⟨(s[i]'h).toNat, UInt8.toNat_lt _, rfl⟩
  · exact ⟨0, by omega, rfl⟩
theorem allB_eq (s : ByteArray) : allB inner s = allB letter s := by
  unfold allB
  congr 1
  apply propext
  constructor <;> intro h i hi <;> have := h i hi <;> obtain ⟨n, hn, e⟩ := bt_range s i <;> rw [e] at this ⊢ <;> rw [inner_letter n hn] at * <;> exact this
theorem name_eq (s : ByteArray) : name s = nameR s := by
  unfold name nameR
  rw [allB_eq]
  obtain ⟨n, hn, e⟩ := bt_range s 0
  unfold first
  rw [e, inner_letter n hn, ← e]
  by_cases h : 0 < s.size
  · cases h1 : allB letter s with
    | false => simp
    | true =>
      have : letter (bt s 0) = true := by
        unfold allB at h1
        exact of_decide_eq_true h1 0 h
      rw [this]
      cases (bt s 0 != 45) <;> cases (bt s 0 != 46) <;> simp
  · simp [h]

/-! ### digits -/
def dec (n : Nat) : List Int := if h : n < 10 then [48 + (n : Int)] else dec (n / 10) ++ [48 + ((n % 10 : Nat) : Int)]
termination_by n
decreasing_by omega
def F67 : List PV → Option PV
  | [.val (.int .i64 n)] => if 0 ≤ n ∧ n ≤ 9223372036854775807 then some (.val (.string (strOf (dec n.toNat)))) else none
  | _ => none
theorem F67_some {ps p} (h : F67 ps = some p) : ∃ n : Nat, n ≤ 9223372036854775807 ∧ ps = [.val (.int .i64 n)] ∧ p = .val (.string (strOf (dec n))) := by
  unfold F67 at h
  split at h
  · rename_i n
    split at h
    · rename_i hn
      exact ⟨n.toNat, by omega, by rw [Int.toNat_of_nonneg hn.1], by simpa using h.symm⟩
    · cases h
  · cases h
def u8s (l : List Int) : List AV := l.map fun x => .pu (.val (.int .u8 x))
theorem u8s_pb (l : List Int) : u8s l = (pbytes l).map AV.pu := by simp [u8s, pbytes]
theorem splice_mid (A B : List AV) (y z : AV) : Vm.splice (A ++ y :: B) A.length [z] = A ++ z :: B := by
  unfold Vm.splice
  rw [List.take_left, show A.length + [z].length = A.length + 1 from rfl, ← List.drop_drop, List.drop_left]
  simp
theorem splice_dig (d : List Int) (x : Int) (h : d.length ≤ 19) : Vm.splice (u8s (List.replicate (20 - d.length) 0) ++ u8s d) (19 - d.length) [AV.pu (.val (.int .u8 x))] = u8s (List.replicate (19 - d.length) 0) ++ u8s (x :: d) := by
  have e : 20 - d.length = (19 - d.length) + 1 := by omega
  have e2 : u8s (List.replicate (20 - d.length) 0) ++ u8s d = u8s (List.replicate (19 - d.length) 0) ++ AV.pu (.val (.int .u8 0)) :: u8s d := by
    rw [e, List.replicate_succ']
    simp [u8s]
  have hl : (u8s (List.replicate (19 - d.length) 0)).length = 19 - d.length := by simp [u8s]
  have := splice_mid (u8s (List.replicate (19 - d.length) 0)) (u8s d) (AV.pu (.val (.int .u8 0))) (AV.pu (.val (.int .u8 x)))
  rw [hl] at this
  rw [e2, this]
  rfl
theorem con67 : Contract Try.prog 67 (DetP F67) := by
  refine contract_pure Known.nil Try.func67 (by kernel_rfl) rfl comp67 rfl (by kernel_rfl) ?_
  intro ps p h
  obtain ⟨n, hn, rfl, rfl⟩ := F67_some h
  refine ⟨(by decide : 1 ≤ Try.f67.ntmps), ?_⟩
  clear h
  generalize hr : strOf (dec n) = r
  repeat' first
    | (with_reducible refine bo_run ?_); conv => whnf
    | (with_reducible refine bw_run ?_); conv => whnf
    | (with_reducible refine Br.tt ?_); conv => whnf
    | (with_reducible refine Br.ff ?_); conv => whnf
    | (with_reducible refine br_not ?_)
    | (with_reducible refine br_dec_tt (by assumption) ?_); conv => whnf
    | (with_reducible refine br_dec_ff (by assumption) ?_); conv => whnf
    | (with_reducible refine br_dec_intro (fun _ => ?_) (fun _ => ?_)) <;> conv => whnf
    | (with_reducible refine br_beq_tt (by assumption) ?_); conv => whnf
    | (with_reducible refine br_beq_ff (by assumption) ?_); conv => whnf
    | (with_reducible refine br_beq_intro (fun _ => ?_) (fun _ => ?_)) <;> conv => whnf
    | (with_reducible refine br_bne_tt (by assumption) ?_); conv => whnf
    | (with_reducible refine br_bne_ff (by assumption) ?_); conv => whnf
    | (with_reducible refine br_bne_intro (fun _ => ?_) (fun _ => ?_)) <;> conv => whnf
    | (with_reducible refine br_of_true (by assumption) ?_); conv => whnf
    | (with_reducible refine br_of_false (by assumption) ?_); conv => whnf
    | (with_reducible refine br_intro (fun _ => ?_) (fun _ => ?_)) <;> conv => whnf
    | (with_reducible refine and_rfl ?_); conv => whnf
    | (with_reducible refine and_late (fun _ => ?_) (by first | omega | (show _ = _; rfl))); conv => whnf
    | (with_reducible refine and_late (fun _ => ?_) ?_); conv => whnf
    | (refine call_pure rfl rfl (.inl rfl) ?_); conv => whnf
    | (refine ⟨_, rfl, ?_⟩); conv => whnf
  refine bw_loop (α := Nat × List Int) (fun x => [(0, .pu (.val (.int .i64 x.1))), (3, .ptr 0 0 0), (4, .pu (.val (.int .i64 (20 - x.2.length : Int))))]) (fun x => [some ⟨89, 0, u8s (List.replicate (20 - x.2.length) 0) ++ u8s x.2⟩])
    (fun x => x.2.length ≤ 19 ∧ dec n = dec x.1 ++ x.2 ∧ x.1 * 10 ^ x.2.length ≤ n ∧ (x.2 = [] ∨ 0 < x.1)) (fun x => x.1) (n, []) rfl rfl ⟨by simp, by simp, by simp, .inl rfl⟩ ?_
  rintro ⟨m, d⟩ ⟨h1, h2, h3, h4⟩
  simp only at h1 h2 h3 h4
  have hm : m ≤ n := Nat.le_trans (Nat.le_mul_of_pos_right m (Nat.pow_pos (by omega))) h3
  have h5 : d.length ≤ 18 := by
    rcases Nat.lt_or_ge d.length 19 with h | h
    · omega
    · exfalso
      have e : d.length = 19 := by omega
      rcases h4 with rfl | h4
      · simp at e
      · rw [e] at h3
        have : 1 * 10 ^ 19 ≤ m * 10 ^ 19 := Nat.mul_le_mul_right _ h4
        omega
  have e1 : IntKind.i64.wrap (20 - (d.length : Int) - 1) = 19 - (d.length : Int) := by rw [i64_in _ (by omega)]; omega
  have e2 : IntKind.i64.wrap ((m : Int).tdiv 10) = ((m / 10 : Nat) : Int) := by
    rw [show (m : Int).tdiv 10 = ((m / 10 : Nat) : Int) from rfl, i64_in _ (by omega)]
  have e3 : IntKind.u8.wrap (IntKind.i64.wrap (48 + (m : Int).tmod 10)) = 48 + ((m % 10 : Nat) : Int) := by
    rw [show (m : Int).tmod 10 = ((m % 10 : Nat) : Int) from rfl, i64_in _ (by omega), u8_in _ (by omega)]
  repeat' first
    | (with_reducible refine bo_run ?_); conv => whnf
    | (with_reducible refine bw_run ?_); conv => whnf
    | (with_reducible refine Br.tt ?_); conv => whnf
    | (with_reducible refine Br.ff ?_); conv => whnf
    | (with_reducible refine br_not ?_)
    | (with_reducible refine br_dec_tt (by assumption) ?_); conv => whnf
    | (with_reducible refine br_dec_ff (by assumption) ?_); conv => whnf
    | (with_reducible refine br_dec_intro (fun _ => ?_) (fun _ => ?_)) <;> conv => whnf
    | (with_reducible refine br_beq_tt (by assumption) ?_); conv => whnf
    | (with_reducible refine br_beq_ff (by assumption) ?_); conv => whnf
    | (with_reducible refine br_beq_intro (fun _ => ?_) (fun _ => ?_)) <;> conv => whnf
    | (with_reducible refine br_bne_tt (by assumption) ?_); conv => whnf
    | (with_reducible refine br_bne_ff (by assumption) ?_); conv => whnf
    | (with_reducible refine br_bne_intro (fun _ => ?_) (fun _ => ?_)) <;> conv => whnf
    | (with_reducible refine br_of_true (by assumption) ?_); conv => whnf
    | (with_reducible refine br_of_false (by assumption) ?_); conv => whnf
    | (with_reducible refine br_intro (fun _ => ?_) (fun _ => ?_)) <;> conv => whnf
    | (with_reducible refine and_rfl ?_); conv => whnf
    | (with_reducible refine and_late (fun _ => ?_) (by first | omega | (show _ = _; rfl))); conv => whnf
    | (with_reducible refine and_late (fun _ => ?_) ?_); conv => whnf
    | (refine call_pure rfl rfl (.inl rfl) ?_); conv => whnf
    | (refine ⟨_, rfl, ?_⟩); conv => whnf
  all_goals simp only [e1, e2, e3]
  · have hd : m / 10 = 0 := by
      rename_i q _ _ _ _ _ _ 
      rw [e2] at *
      omega
    have e4 : (19 - (d.length : Int)).toNat = 19 - d.length := by omega
    have hsp := splice_dig d (48 + ((m % 10 : Nat) : Int)) (by omega)
    simp only [e4, Nat.mul_one, Nat.zero_add, hsp]
    have hl : (u8s (List.replicate (19 - d.length) 0)).length = 19 - d.length := by simp [u8s]
    refine ⟨pbytes ((48 + ((m % 10 : Nat) : Int)) :: d), ?_, ?_, _, unbytes_pbytes _, ?_⟩
    · rw [show List.drop (19 - d.length) (u8s (List.replicate (19 - d.length) 0) ++ u8s ((48 + ((m % 10 : Nat) : Int)) :: d)) = u8s ((48 + ((m % 10 : Nat) : Int)) :: d) from by
        conv => lhs; arg 1; rw [← hl]
        rw [List.drop_left]]
      rw [List.take_of_length_le (by simp [u8s]; omega), u8s_pb, unpus_map]
    · simp [pbytes]; omega
    · conv => whnf
      repeat' first
        | (with_reducible refine bo_run ?_); conv => whnf
        | (with_reducible refine bw_run ?_); conv => whnf
        | (with_reducible refine Br.tt ?_); conv => whnf
        | (with_reducible refine Br.ff ?_); conv => whnf
        | (with_reducible refine br_not ?_)
        | (with_reducible refine br_dec_tt (by assumption) ?_); conv => whnf
        | (with_reducible refine br_dec_ff (by assumption) ?_); conv => whnf
        | (with_reducible refine br_dec_intro (fun _ => ?_) (fun _ => ?_)) <;> conv => whnf
        | (with_reducible refine br_beq_tt (by assumption) ?_); conv => whnf
        | (with_reducible refine br_beq_ff (by assumption) ?_); conv => whnf
        | (with_reducible refine br_beq_intro (fun _ => ?_) (fun _ => ?_)) <;> conv => whnf
        | (with_reducible refine br_bne_tt (by assumption) ?_); conv => whnf
        | (with_reducible refine br_bne_ff (by assumption) ?_); conv => whnf
        | (with_reducible refine br_bne_intro (fun _ => ?_) (fun _ => ?_)) <;> conv => whnf
        | (with_reducible refine br_of_true (by assumption) ?_); conv => whnf
        | (with_reducible refine br_of_false (by assumption) ?_); conv => whnf
        | (with_reducible refine br_intro (fun _ => ?_) (fun _ => ?_)) <;> conv => whnf
        | (with_reducible refine and_rfl ?_); conv => whnf
        | (with_reducible refine and_late (fun _ => ?_) (by first | omega | (show _ = _; rfl))); conv => whnf
        | (with_reducible refine and_late (fun _ => ?_) ?_); conv => whnf
        | (refine call_pure rfl rfl (.inl rfl) ?_); conv => whnf
        | (refine ⟨_, rfl, ?_⟩); conv => whnf
      subst hr
      simp only [packRes, h2]
      have : dec m = [48 + ((m % 10 : Nat) : Int)] := by
        rw [dec, dif_pos (by omega), Nat.mod_eq_of_lt (by omega)]
      rw [this]
      rfl
  · have e4 : (19 - (d.length : Int)).toNat = 19 - d.length := by omega
    have hsp := splice_dig d (48 + ((m % 10 : Nat) : Int)) (by omega)
    simp only [e4, Nat.mul_one, Nat.zero_add, hsp]
    simp [u8s]; omega
  · omega
  · rename_i hq
    rw [e2] at hq
    have hd : m / 10 ≠ 0 := by omega
    have e4 : (19 - (d.length : Int)).toNat = 19 - d.length := by omega
    have hsp := splice_dig d (48 + ((m % 10 : Nat) : Int)) (by omega)
    refine ⟨_, ?_, (m / 10, (48 + ((m % 10 : Nat) : Int)) :: d), ⟨by simp; omega, ?_, ?_, .inr (by omega)⟩, rfl, ?_, ?_⟩
    · show m / 10 < m
      omega
    · simp only
      rw [h2, dec, dif_neg (by omega)]
      simp
    · simp only [List.length_cons, Nat.pow_succ]
      refine Nat.le_trans ?_ h3
      rw [Nat.mul_comm (10 ^ d.length), ← Nat.mul_assoc]
      exact Nat.mul_le_mul_right _ (by omega)
    · simp only [List.length_cons]
      rw [show (20 - ((d.length + 1 : Nat) : Int)) = 19 - (d.length : Int) from by omega]
      rfl
    · simp only [e4, Nat.mul_one, Nat.zero_add, hsp, List.length_cons]
      rw [show 20 - (d.length + 1) = 19 - d.length from by omega]
  · simp [u8s]; omega
  · rfl
  · omega
  · omega
end Go.Proofs.Ytdjgfjnnafddnaa
