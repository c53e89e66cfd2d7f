/- usher/pack and its reference: numbers behind bytes. -/
import Derived.Test.YtdjgfjnnafddnaaPackA
set_option linter.unusedVariables false
set_option linter.unusedSimpArgs false
set_option maxRecDepth 20000
namespace Go.Proofs.Ytdjgfjnnafddnaa
open Go Go.Vm Go.IntWalk

/-- how many bytes a number needs -/
def byt (n : Nat) : Nat := if h : n = 0 then 0 else byt (n / 256) + 1
termination_by n
decreasing_by omega
theorem byt_zero : byt 0 = 0 := by rw [byt]; simp
theorem byt_pos {n : Nat} (h : n ≠ 0) : byt n = byt (n / 256) + 1 := by rw [byt, dif_neg h]
theorem byt_le : ∀ (k n : Nat), n < 256 ^ k → byt n ≤ k
  | 0, n, h => by
    have : n = 0 := by simpa using h
    subst this
    rw [byt_zero]
    omega
  | k + 1, n, h => by
    by_cases h0 : n = 0
    · subst h0; rw [byt_zero]; omega
    · rw [byt_pos h0]
      have := byt_le k (n / 256) (by rw [Nat.div_lt_iff_lt_mul (by omega), ← Nat.pow_succ]; exact h)
      omega
/-- a number's lowest k bytes, the highest first -/
def be : Nat → Nat → List Int
  | 0, _ => []
  | k + 1, x => ((x / 256 ^ k % 256 : Nat) : Int) :: be k x
theorem be_length : ∀ (k x : Nat), (be k x).length = k
  | 0, _ => rfl
  | k + 1, x => by simp [be, be_length k x]

noncomputable def F70 : List PV → Option PV
  | [.val (.int .u64 x)] => chk (0 ≤ x ∧ x < 18446744073709551616) (some (.val (.int .i64 (byt (x.toNat / 256) + 1 : Nat))))
  | _ => none
theorem F70_some {ps p} (h : F70 ps = some p) : ∃ x : Nat, x < 18446744073709551616 ∧ ps = [.val (.int .u64 x)] ∧ p = .val (.int .i64 (byt (x / 256) + 1 : Nat)) := by
  unfold F70 at h
  split at h
  · rename_i x
    obtain ⟨hx, h⟩ := chk_some h
    exact ⟨x.toNat, by omega, by rw [Int.toNat_of_nonneg hx.1], by simpa using h.symm⟩
  · cases h
theorem shr8 (x : Nat) : (x : Int).fdiv (2 ^ min (Int.toNat 8) IntKind.u64.bits) = ((x / 256 : Nat) : Int) := by
  rw [show (2 : Int) ^ min (Int.toNat 8) IntKind.u64.bits = ((256 : Nat) : Int) from rfl, Int.fdiv_eq_ediv_of_nonneg _ (by omega)]
  exact (Int.natCast_ediv x 256).symm
theorem con70 : Contract Try.prog 70 (DetP F70) := by
  refine contract_pure Known.nil Try.func70 (by kernel_rfl) rfl comp70 rfl (by kernel_rfl) ?_
  intro ps p h
  obtain ⟨x, hx, rfl, rfl⟩ := F70_some h
  refine ⟨(by decide : 1 ≤ Try.f70.ntmps), ?_⟩
  clear h
  generalize hr : (byt (x / 256) + 1 : Nat) = r
  repeat' first
    | (with_reducible refine bo_run ?_); conv => whnf
    | (with_reducible refine bw_run ?_); conv => whnf
    | (with_reducible refine Br.tt ?_); conv => whnf
    | (with_reducible refine Br.ff ?_); conv => whnf
    | (with_reducible refine br_not ?_)
    | (with_reducible refine br_dec_tt (by assumption) ?_); conv => whnf
    | (with_reducible refine br_dec_ff (by assumption) ?_); conv => whnf
    | (with_reducible refine br_dec_intro (fun _ => ?_) (fun _ => ?_)) <;> conv => whnf
    | (with_reducible refine br_beq_tt (by assumption) ?_); conv => whnf
    | (with_reducible refine br_beq_ff (by assumption) ?_); conv => whnf
    | (with_reducible refine br_beq_intro (fun _ => ?_) (fun _ => ?_)) <;> conv => whnf
    | (with_reducible refine br_bne_tt (by assumption) ?_); conv => whnf
    | (with_reducible refine br_bne_ff (by assumption) ?_); conv => whnf
    | (with_reducible refine br_bne_intro (fun _ => ?_) (fun _ => ?_)) <;> conv => whnf
    | (with_reducible refine br_of_true (by assumption) ?_); conv => whnf
    | (with_reducible refine br_of_false (by assumption) ?_); conv => whnf
    | (with_reducible refine br_intro (fun _ => ?_) (fun _ => ?_)) <;> conv => whnf
    | (with_reducible refine and_rfl ?_); conv => whnf
    | (refine and_late (fun _ => ?_) (by first | omega | (show _ = _; rfl) | (simp only [List.length_map, List.length_append, pbytes, Nat.mul_one, List.length_cons, List.length_nil]; done) | (simp only [List.length_map, List.length_append, pbytes, Nat.mul_one, List.length_cons, List.length_nil]; omega))); conv => whnf
    | (with_reducible refine and_late (fun _ => ?_) ?_); conv => whnf
    | (refine call_pure rfl rfl (.inl rfl) ?_); conv => whnf
    | (with_reducible refine Both.mk ?_ ?_) <;> conv => whnf
    | (refine ⟨_, rfl, ?_⟩); conv => whnf
    | (refine ⟨_, unbytes_pbytes _, ?_⟩); conv => whnf
    | exact ⟨_, _, rfl, rfl⟩
    | fail
  refine bw_loop (α := Nat × Nat) (fun y => [(0, .pu (.val (.int .u64 y.1))), (3, .pu (.val (.int .i64 y.2)))]) (fun _ => [])
    (fun y => y.1 < 256 ^ 8 ∧ byt y.1 + y.2 = r ∧ y.2 ≤ 9 ∧ byt y.1 + y.2 ≤ 9) (fun y => y.1) (x / 256, 1) (by rw [shr8]; rfl) rfl ⟨by omega, hr, by omega, ?_⟩ ?_
  · have := byt_le 8 (x / 256) (by omega)
    simp only
    omega
  rintro ⟨y, k⟩ ⟨h1, h2, h3, h4⟩
  simp only at h1 h2 h3 h4
  repeat' first
    | (with_reducible refine bo_run ?_); conv => whnf
    | (with_reducible refine bw_run ?_); conv => whnf
    | (with_reducible refine Br.tt ?_); conv => whnf
    | (with_reducible refine Br.ff ?_); conv => whnf
    | (with_reducible refine br_not ?_)
    | (with_reducible refine br_dec_tt (by assumption) ?_); conv => whnf
    | (with_reducible refine br_dec_ff (by assumption) ?_); conv => whnf
    | (with_reducible refine br_dec_intro (fun _ => ?_) (fun _ => ?_)) <;> conv => whnf
    | (with_reducible refine br_beq_tt (by assumption) ?_); conv => whnf
    | (with_reducible refine br_beq_ff (by assumption) ?_); conv => whnf
    | (with_reducible refine br_beq_intro (fun _ => ?_) (fun _ => ?_)) <;> conv => whnf
    | (with_reducible refine br_bne_tt (by assumption) ?_); conv => whnf
    | (with_reducible refine br_bne_ff (by assumption) ?_); conv => whnf
    | (with_reducible refine br_bne_intro (fun _ => ?_) (fun _ => ?_)) <;> conv => whnf
    | (with_reducible refine br_of_true (by assumption) ?_); conv => whnf
    | (with_reducible refine br_of_false (by assumption) ?_); conv => whnf
    | (with_reducible refine br_intro (fun _ => ?_) (fun _ => ?_)) <;> conv => whnf
    | (with_reducible refine and_rfl ?_); conv => whnf
    | (refine and_late (fun _ => ?_) (by first | omega | (show _ = _; rfl) | (simp only [List.length_map, List.length_append, pbytes, Nat.mul_one, List.length_cons, List.length_nil]; done) | (simp only [List.length_map, List.length_append, pbytes, Nat.mul_one, List.length_cons, List.length_nil]; omega))); conv => whnf
    | (with_reducible refine and_late (fun _ => ?_) ?_); conv => whnf
    | (refine call_pure rfl rfl (.inl rfl) ?_); conv => whnf
    | (with_reducible refine Both.mk ?_ ?_) <;> conv => whnf
    | (refine ⟨_, rfl, ?_⟩); conv => whnf
    | (refine ⟨_, unbytes_pbytes _, ?_⟩); conv => whnf
    | exact ⟨_, _, rfl, rfl⟩
    | fail
  · rename_i q
    refine ⟨_, ?_, (y / 256, k + 1), ⟨by omega, ?_, ?_, ?_⟩, rfl, ?_, rfl⟩
    · show y / 256 < y
      omega
    · rw [← h2, byt_pos (n := y) (by omega)]; simp only; omega
    · rw [byt_pos (n := y) (by omega)] at h4; simp only; omega
    · rw [byt_pos (n := y) (by omega)] at h4; simp only; omega
    · rw [shr8, i64_in _ (by omega)]; rfl
  · rename_i q
    have : y = 0 := by omega
    subst this
    rw [byt_zero] at h2
    simp [packRes, ← h2]
noncomputable def F73 : List PV → Option PV
  | [.val (.int .i64 n)] => chk (n < 9223372036854775808) (some (.val (.int .i64 (byt n.toNat : Nat))))
  | _ => none
theorem F73_some {ps p} (h : F73 ps = some p) : ∃ n : Int, n < 9223372036854775808 ∧ ps = [.val (.int .i64 n)] ∧ p = .val (.int .i64 (byt n.toNat : Nat)) := by
  unfold F73 at h
  split at h
  · rename_i x
    obtain ⟨hx, h⟩ := chk_some h
    exact ⟨x, by omega, rfl, by simpa using h.symm⟩
  · cases h
theorem con73 : Contract Try.prog 73 (DetP F73) := by
  refine contract_pure Known.nil Try.func73 (by kernel_rfl) rfl comp73 rfl (by kernel_rfl) ?_
  intro ps p h
  obtain ⟨n, hn, rfl, rfl⟩ := F73_some h
  refine ⟨(by decide : 1 ≤ Try.f73.ntmps), ?_⟩
  clear h
  generalize hr : byt n.toNat = r
  repeat' first
    | (with_reducible refine bo_run ?_); conv => whnf
    | (with_reducible refine bw_run ?_); conv => whnf
    | (with_reducible refine Br.tt ?_); conv => whnf
    | (with_reducible refine Br.ff ?_); conv => whnf
    | (with_reducible refine br_not ?_)
    | (with_reducible refine br_dec_tt (by assumption) ?_); conv => whnf
    | (with_reducible refine br_dec_ff (by assumption) ?_); conv => whnf
    | (with_reducible refine br_dec_intro (fun _ => ?_) (fun _ => ?_)) <;> conv => whnf
    | (with_reducible refine br_beq_tt (by assumption) ?_); conv => whnf
    | (with_reducible refine br_beq_ff (by assumption) ?_); conv => whnf
    | (with_reducible refine br_beq_intro (fun _ => ?_) (fun _ => ?_)) <;> conv => whnf
    | (with_reducible refine br_bne_tt (by assumption) ?_); conv => whnf
    | (with_reducible refine br_bne_ff (by assumption) ?_); conv => whnf
    | (with_reducible refine br_bne_intro (fun _ => ?_) (fun _ => ?_)) <;> conv => whnf
    | (with_reducible refine br_of_true (by assumption) ?_); conv => whnf
    | (with_reducible refine br_of_false (by assumption) ?_); conv => whnf
    | (with_reducible refine br_intro (fun _ => ?_) (fun _ => ?_)) <;> conv => whnf
    | (with_reducible refine and_rfl ?_); conv => whnf
    | (refine and_late (fun _ => ?_) (by first | omega | (show _ = _; rfl) | (simp only [List.length_map, List.length_append, pbytes, Nat.mul_one, List.length_cons, List.length_nil]; done) | (simp only [List.length_map, List.length_append, pbytes, Nat.mul_one, List.length_cons, List.length_nil]; omega))); conv => whnf
    | (with_reducible refine and_late (fun _ => ?_) ?_); conv => whnf
    | (refine call_pure rfl rfl (.inl rfl) ?_); conv => whnf
    | (with_reducible refine Both.mk ?_ ?_) <;> conv => whnf
    | (refine ⟨_, rfl, ?_⟩); conv => whnf
    | (refine ⟨_, unbytes_pbytes _, ?_⟩); conv => whnf
    | exact ⟨_, _, rfl, rfl⟩
    | fail
  refine bw_loop (α := Int × Nat) (fun y => [(0, .pu (.val (.int .i64 y.1))), (3, .pu (.val (.int .i64 y.2)))]) (fun _ => [])
    (fun y => y.1 < 9223372036854775808 ∧ byt y.1.toNat + y.2 = r ∧ byt y.1.toNat + y.2 ≤ 8) (fun y => y.1.toNat) (n, 0) rfl rfl ⟨hn, by simpa using hr, ?_⟩ ?_
  · have := byt_le 8 n.toNat (by omega)
    simp only
    omega
  rintro ⟨y, k⟩ ⟨h1, h2, h3⟩
  simp only at h1 h2 h3
  repeat' first
    | (with_reducible refine bo_run ?_); conv => whnf
    | (with_reducible refine bw_run ?_); conv => whnf
    | (with_reducible refine Br.tt ?_); conv => whnf
    | (with_reducible refine Br.ff ?_); conv => whnf
    | (with_reducible refine br_not ?_)
    | (with_reducible refine br_dec_tt (by assumption) ?_); conv => whnf
    | (with_reducible refine br_dec_ff (by assumption) ?_); conv => whnf
    | (with_reducible refine br_dec_intro (fun _ => ?_) (fun _ => ?_)) <;> conv => whnf
    | (with_reducible refine br_beq_tt (by assumption) ?_); conv => whnf
    | (with_reducible refine br_beq_ff (by assumption) ?_); conv => whnf
    | (with_reducible refine br_beq_intro (fun _ => ?_) (fun _ => ?_)) <;> conv => whnf
    | (with_reducible refine br_bne_tt (by assumption) ?_); conv => whnf
    | (with_reducible refine br_bne_ff (by assumption) ?_); conv => whnf
    | (with_reducible refine br_bne_intro (fun _ => ?_) (fun _ => ?_)) <;> conv => whnf
    | (with_reducible refine br_of_true (by assumption) ?_); conv => whnf
    | (with_reducible refine br_of_false (by assumption) ?_); conv => whnf
    | (with_reducible refine br_intro (fun _ => ?_) (fun _ => ?_)) <;> conv => whnf
    | (with_reducible refine and_rfl ?_); conv => whnf
    | (refine and_late (fun _ => ?_) (by first | omega | (show _ = _; rfl) | (simp only [List.length_map, List.length_append, pbytes, Nat.mul_one, List.length_cons, List.length_nil]; done) | (simp only [List.length_map, List.length_append, pbytes, Nat.mul_one, List.length_cons, List.length_nil]; omega))); conv => whnf
    | (with_reducible refine and_late (fun _ => ?_) ?_); conv => whnf
    | (refine call_pure rfl rfl (.inl rfl) ?_); conv => whnf
    | (with_reducible refine Both.mk ?_ ?_) <;> conv => whnf
    | (refine ⟨_, rfl, ?_⟩); conv => whnf
    | (refine ⟨_, unbytes_pbytes _, ?_⟩); conv => whnf
    | exact ⟨_, _, rfl, rfl⟩
    | fail
  · rename_i q _
    obtain ⟨z, rfl⟩ : ∃ z : Nat, y = (z : Int) := ⟨y.toNat, by omega⟩
    simp only [Int.toNat_natCast] at h2 h3
    have e : (z : Int).tdiv 256 = ((z / 256 : Nat) : Int) := rfl
    rw [byt_pos (n := z) (by omega)] at h2 h3
    refine ⟨_, ?_, (((z / 256 : Nat) : Int), k + 1), ⟨by simp only; omega, ?_, ?_⟩, rfl, ?_, rfl⟩
    · simp only [Int.toNat_natCast]; omega
    · simp only [Int.toNat_natCast]; omega
    · simp only [Int.toNat_natCast]; omega
    · rw [e, i64_in ((z / 256 : Nat) : Int) (by omega), i64_in _ (by omega)]; rfl
  · rename_i q
    have : y.toNat = 0 := by omega
    rw [this, byt_zero] at h2
    simp [packRes, ← h2]
theorem shrbyte (x i : Nat) (hi : i ≤ 7) : IntKind.u8.wrap ((x : Int).fdiv (2 ^ min (8 * (i : Int)).toNat IntKind.u64.bits)) = ((x / 256 ^ i % 256 : Nat) : Int) := by
  have e1 : (8 * (i : Int)).toNat = 8 * i := by omega
  have e2 : min (8 * i) IntKind.u64.bits = 8 * i := Nat.min_eq_left (by show 8 * i ≤ 64; omega)
  have e3 : (2 : Int) ^ (8 * i) = ((256 ^ i : Nat) : Int) := by rw [Int.pow_mul]; simp
  rw [e1, e2, e3, Int.fdiv_eq_ediv_of_nonneg _ (Int.natCast_nonneg _), ← Int.natCast_ediv, IntKind.wrap_u8]
  omega
theorem u64_nat (n : Nat) (h : n < 18446744073709551616) : IntKind.u64.wrap (n : Int) = n := u64_in _ ⟨Int.natCast_nonneg _, by omega⟩
theorem be_cons (k x : Nat) : be (k + 1) x = ((x / 256 ^ k % 256 : Nat) : Int) :: be k x := rfl
noncomputable def F71 : List PV → List PV → Option (Nat × Nat × List PV)
  | cs, [.val (.int .u64 x), .val (.int .i64 k)] => chk (0 ≤ x ∧ x < 18446744073709551616 ∧ 0 ≤ k ∧ k ≤ 8 ∧ cs.length ≤ 1073741824) (some (k.toNat, cs.length + k.toNat, cs ++ pbytes (be k.toNat x.toNat)))
  | _, _ => none
theorem F71_some {cs ps k n' cs'} (h : F71 cs ps = some (k, n', cs')) : ∃ x : Nat, x < 18446744073709551616 ∧ k ≤ 8 ∧ cs.length ≤ 1073741824 ∧ ps = [.val (.int .u64 x), .val (.int .i64 k)] ∧ n' = cs.length + k ∧ cs' = cs ++ pbytes (be k x) := by
  unfold F71 at h
  split at h
  · rename_i x k1
    obtain ⟨hx, h⟩ := chk_some h
    simp only [Option.some.injEq, Prod.mk.injEq] at h
    obtain ⟨rfl, rfl, rfl⟩ := h
    exact ⟨x.toNat, by omega, by omega, hx.2.2.2.2, by rw [Int.toNat_of_nonneg hx.1, Int.toNat_of_nonneg hx.2.2.1], rfl, rfl⟩
  · cases h
theorem con71 : Contract Try.prog 71 (DetA 5 1 F71) := by
  refine contract_append Known.nil Try.func71 (by kernel_rfl) rfl comp71 rfl (by kernel_rfl) ?_
  intro g n cs ps k n' cs' hl h
  obtain ⟨x, hx, hk, hc, rfl, rfl, rfl⟩ := F71_some h
  refine ⟨(by decide : 3 ≤ Try.f71.ntmps), ?_⟩
  clear h
  rw [Nat.mul_one] at hl
  have e1 : IntKind.i64.wrap (8 * IntKind.i64.wrap ((k : Int) - 1)) = 8 * (k : Int) - 8 := by rw [i64_in ((k : Int) - 1) (by omega), i64_in _ (by omega)]; omega
  repeat' first
    | (with_reducible refine bo_run ?_); conv => whnf
    | (with_reducible refine bw_run ?_); conv => whnf
    | (with_reducible refine Br.tt ?_); conv => whnf
    | (with_reducible refine Br.ff ?_); conv => whnf
    | (with_reducible refine br_not ?_)
    | (with_reducible refine br_dec_tt (by assumption) ?_); conv => whnf
    | (with_reducible refine br_dec_ff (by assumption) ?_); conv => whnf
    | (with_reducible refine br_dec_intro (fun _ => ?_) (fun _ => ?_)) <;> conv => whnf
    | (with_reducible refine br_beq_tt (by assumption) ?_); conv => whnf
    | (with_reducible refine br_beq_ff (by assumption) ?_); conv => whnf
    | (with_reducible refine br_beq_intro (fun _ => ?_) (fun _ => ?_)) <;> conv => whnf
    | (with_reducible refine br_bne_tt (by assumption) ?_); conv => whnf
    | (with_reducible refine br_bne_ff (by assumption) ?_); conv => whnf
    | (with_reducible refine br_bne_intro (fun _ => ?_) (fun _ => ?_)) <;> conv => whnf
    | (with_reducible refine br_of_true (by assumption) ?_); conv => whnf
    | (with_reducible refine br_of_false (by assumption) ?_); conv => whnf
    | (with_reducible refine br_intro (fun _ => ?_) (fun _ => ?_)) <;> conv => whnf
    | (with_reducible refine and_rfl ?_); conv => whnf
    | (refine and_late (fun _ => ?_) (by first | omega | (show _ = _; rfl) | (simp only [List.length_map, List.length_append, pbytes, Nat.mul_one, List.length_cons, List.length_nil]; done) | (simp only [List.length_map, List.length_append, pbytes, Nat.mul_one, List.length_cons, List.length_nil]; omega))); conv => whnf
    | (with_reducible refine and_late (fun _ => ?_) ?_); conv => whnf
    | (refine call_pure rfl rfl (.inl rfl) ?_); conv => whnf
    | (with_reducible refine Both.mk ?_ ?_) <;> conv => whnf
    | (refine ⟨_, rfl, ?_⟩); conv => whnf
    | (refine ⟨_, unbytes_pbytes _, ?_⟩); conv => whnf
    | exact ⟨_, _, rfl, rfl⟩
    | fail
  rw [e1]
  refine bw_loop (α := Nat × List Int) (fun y => [(0, .own 0 (g + y.2.length) 0 (n + y.2.length) 1), (1, .pu (.val (.int .u64 x))), (7, .pu (.val (.int .i64 (8 * (y.1 : Int) - 8))))])
    (fun y => [some ⟨5, g + y.2.length, (cs ++ pbytes y.2).map .pu⟩]) (fun y => y.2 ++ be y.1 x = be k x ∧ y.2.length + y.1 = k) (fun y => y.1) (k, []) rfl (by simp [pbytes]) ⟨rfl, by simp⟩ ?_
  rintro ⟨j, wr⟩ ⟨h1, h2⟩
  simp only at h1 h2
  have e2 : IntKind.i64.wrap (8 * (j : Int) - 8 - 8) = 8 * (j : Int) - 16 := by rw [i64_in _ (by omega)]; omega
  repeat' first
    | (with_reducible refine bo_run ?_); conv => whnf
    | (with_reducible refine bw_run ?_); conv => whnf
    | (with_reducible refine Br.tt ?_); conv => whnf
    | (with_reducible refine Br.ff ?_); conv => whnf
    | (with_reducible refine br_not ?_)
    | (with_reducible refine br_dec_tt (by assumption) ?_); conv => whnf
    | (with_reducible refine br_dec_ff (by assumption) ?_); conv => whnf
    | (with_reducible refine br_dec_intro (fun _ => ?_) (fun _ => ?_)) <;> conv => whnf
    | (with_reducible refine br_beq_tt (by assumption) ?_); conv => whnf
    | (with_reducible refine br_beq_ff (by assumption) ?_); conv => whnf
    | (with_reducible refine br_beq_intro (fun _ => ?_) (fun _ => ?_)) <;> conv => whnf
    | (with_reducible refine br_bne_tt (by assumption) ?_); conv => whnf
    | (with_reducible refine br_bne_ff (by assumption) ?_); conv => whnf
    | (with_reducible refine br_bne_intro (fun _ => ?_) (fun _ => ?_)) <;> conv => whnf
    | (with_reducible refine br_of_true (by assumption) ?_); conv => whnf
    | (with_reducible refine br_of_false (by assumption) ?_); conv => whnf
    | (with_reducible refine br_intro (fun _ => ?_) (fun _ => ?_)) <;> conv => whnf
    | (with_reducible refine and_rfl ?_); conv => whnf
    | (refine and_late (fun _ => ?_) (by first | omega | (show _ = _; rfl) | (simp only [List.length_map, List.length_append, pbytes, Nat.mul_one, List.length_cons, List.length_nil]; done) | (simp only [List.length_map, List.length_append, pbytes, Nat.mul_one, List.length_cons, List.length_nil]; omega))); conv => whnf
    | (with_reducible refine and_late (fun _ => ?_) ?_); conv => whnf
    | (refine call_pure rfl rfl (.inl rfl) ?_); conv => whnf
    | (with_reducible refine Both.mk ?_ ?_) <;> conv => whnf
    | (refine ⟨_, rfl, ?_⟩); conv => whnf
    | (refine ⟨_, unbytes_pbytes _, ?_⟩); conv => whnf
    | exact ⟨_, _, rfl, rfl⟩
    | fail
  all_goals try simp only at *
  · rename_i q _ _ _ _ _ _ _ _
    obtain ⟨i, rfl⟩ : ∃ i, j = i + 1 := ⟨j - 1, by omega⟩
    have e3 : 8 * ((i + 1 : Nat) : Int) - 8 = 8 * (i : Int) := by omega
    refine ⟨_, ?_, (i, wr ++ [((x / 256 ^ i % 256 : Nat) : Int)]), ⟨?_, ?_⟩, rfl, ?_, ?_⟩
    · show i < i + 1
      omega
    · rw [← h1, be_cons]
      simp
    · simp; omega
    · rw [e2, show 8 * ((i + 1 : Nat) : Int) - 16 = 8 * (i : Int) - 8 from by omega]
      simp only [List.length_append, List.length_cons, List.length_nil]
      rfl
    · rw [e3, shrbyte x i (by omega)]
      simp [pbytes, Nat.add_assoc]
  · have h0 : j = 0 := by omega
    subst h0
    simp only [be, List.append_nil] at h1
    simp only [List.getElem?_cons_zero, Option.some.injEq, VObj.mk.injEq, true_and]
    rw [← h1]
    exact ⟨by omega, rfl⟩
  · have h0 : j = 0 := by omega
    show AV.own 0 (g + wr.length) 0 (n + wr.length) 1 = AV.own 0 (g + k) 0 (cs.length + k) 1
    rw [hl, show wr.length = k from by omega]
noncomputable def F74 : List PV → List PV → Option (Nat × Nat × List PV) := F71
theorem con74 : Contract Try.prog 74 (DetA 5 1 F71) := by
  refine contract_append Known.nil Try.func74 (by kernel_rfl) rfl comp74 rfl (by kernel_rfl) ?_
  intro g n cs ps k n' cs' hl h
  obtain ⟨x, hx, hk, hc, rfl, rfl, rfl⟩ := F71_some h
  refine ⟨(by decide : 3 ≤ Try.f74.ntmps), ?_⟩
  clear h
  rw [Nat.mul_one] at hl
  repeat' first
    | (with_reducible refine bo_run ?_); conv => whnf
    | (with_reducible refine bw_run ?_); conv => whnf
    | (with_reducible refine Br.tt ?_); conv => whnf
    | (with_reducible refine Br.ff ?_); conv => whnf
    | (with_reducible refine br_not ?_)
    | (with_reducible refine br_dec_tt (by assumption) ?_); conv => whnf
    | (with_reducible refine br_dec_ff (by assumption) ?_); conv => whnf
    | (with_reducible refine br_dec_intro (fun _ => ?_) (fun _ => ?_)) <;> conv => whnf
    | (with_reducible refine br_beq_tt (by assumption) ?_); conv => whnf
    | (with_reducible refine br_beq_ff (by assumption) ?_); conv => whnf
    | (with_reducible refine br_beq_intro (fun _ => ?_) (fun _ => ?_)) <;> conv => whnf
    | (with_reducible refine br_bne_tt (by assumption) ?_); conv => whnf
    | (with_reducible refine br_bne_ff (by assumption) ?_); conv => whnf
    | (with_reducible refine br_bne_intro (fun _ => ?_) (fun _ => ?_)) <;> conv => whnf
    | (with_reducible refine br_of_true (by assumption) ?_); conv => whnf
    | (with_reducible refine br_of_false (by assumption) ?_); conv => whnf
    | (with_reducible refine br_intro (fun _ => ?_) (fun _ => ?_)) <;> conv => whnf
    | (with_reducible refine and_rfl ?_); conv => whnf
    | (refine and_late (fun _ => ?_) (by first | omega | (show _ = _; rfl) | (simp only [List.length_map, List.length_append, pbytes, Nat.mul_one, List.length_cons, List.length_nil]; done) | (simp only [List.length_map, List.length_append, pbytes, Nat.mul_one, List.length_cons, List.length_nil]; omega))); conv => whnf
    | (with_reducible refine and_late (fun _ => ?_) ?_); conv => whnf
    | (refine call_pure rfl rfl (.inl rfl) ?_); conv => whnf
    | (with_reducible refine Both.mk ?_ ?_) <;> conv => whnf
    | (refine ⟨_, rfl, ?_⟩); conv => whnf
    | (refine ⟨_, unbytes_pbytes _, ?_⟩); conv => whnf
    | exact ⟨_, _, rfl, rfl⟩
    | fail
  refine bw_loop (α := Nat × List Int) (fun y => [(0, .own 0 (g + y.2.length) 0 (n + y.2.length) 1), (1, .pu (.val (.int .u64 x))), (2, .pu (.val (.int .i64 (y.1 : Int))))])
    (fun y => [some ⟨5, g + y.2.length, (cs ++ pbytes y.2).map .pu⟩]) (fun y => y.2 ++ be y.1 x = be k x ∧ y.2.length + y.1 = k) (fun y => y.1) (k, []) rfl (by simp [pbytes]) ⟨rfl, by simp⟩ ?_
  rintro ⟨j, wr⟩ ⟨h1, h2⟩
  simp only at h1 h2
  repeat' first
    | (with_reducible refine bo_run ?_); conv => whnf
    | (with_reducible refine bw_run ?_); conv => whnf
    | (with_reducible refine Br.tt ?_); conv => whnf
    | (with_reducible refine Br.ff ?_); conv => whnf
    | (with_reducible refine br_not ?_)
    | (with_reducible refine br_dec_tt (by assumption) ?_); conv => whnf
    | (with_reducible refine br_dec_ff (by assumption) ?_); conv => whnf
    | (with_reducible refine br_dec_intro (fun _ => ?_) (fun _ => ?_)) <;> conv => whnf
    | (with_reducible refine br_beq_tt (by assumption) ?_); conv => whnf
    | (with_reducible refine br_beq_ff (by assumption) ?_); conv => whnf
    | (with_reducible refine br_beq_intro (fun _ => ?_) (fun _ => ?_)) <;> conv => whnf
    | (with_reducible refine br_bne_tt (by assumption) ?_); conv => whnf
    | (with_reducible refine br_bne_ff (by assumption) ?_); conv => whnf
    | (with_reducible refine br_bne_intro (fun _ => ?_) (fun _ => ?_)) <;> conv => whnf
    | (with_reducible refine br_of_true (by assumption) ?_); conv => whnf
    | (with_reducible refine br_of_false (by assumption) ?_); conv => whnf
    | (with_reducible refine br_intro (fun _ => ?_) (fun _ => ?_)) <;> conv => whnf
    | (with_reducible refine and_rfl ?_); conv => whnf
    | (refine and_late (fun _ => ?_) (by first | omega | (show _ = _; rfl) | (simp only [List.length_map, List.length_append, pbytes, Nat.mul_one, List.length_cons, List.length_nil]; done) | (simp only [List.length_map, List.length_append, pbytes, Nat.mul_one, List.length_cons, List.length_nil]; omega))); conv => whnf
    | (with_reducible refine and_late (fun _ => ?_) ?_); conv => whnf
    | (refine call_pure rfl rfl (.inl rfl) ?_); conv => whnf
    | (with_reducible refine Both.mk ?_ ?_) <;> conv => whnf
    | (refine ⟨_, rfl, ?_⟩); conv => whnf
    | (refine ⟨_, unbytes_pbytes _, ?_⟩); conv => whnf
    | exact ⟨_, _, rfl, rfl⟩
    | fail
  all_goals try simp only at *
  · rename_i q
    obtain ⟨i, rfl⟩ : ∃ i, j = i + 1 := ⟨j - 1, by omega⟩
    have e1 : IntKind.i64.wrap (((i + 1 : Nat) : Int) - 1) = (i : Int) := by rw [i64_in _ (by omega)]; omega
    refine bw_loop (α := Nat) (fun m => [(0, .own 0 (g + wr.length) 0 (n + wr.length) 1), (1, .pu (.val (.int .u64 x))), (2, .pu (.val (.int .i64 (i : Int)))), (7, .pu (.val (.int .u64 ((x / 256 ^ m : Nat) : Int)))), (8, .pu (.val (.int .i64 (m : Int))))])
      (fun _ => [some ⟨5, g + wr.length, (cs ++ pbytes wr).map .pu⟩]) (fun m => m ≤ i) (fun m => i - m) 0 (by rw [e1]; simp [restrict, get_cons]) rfl (Nat.zero_le _) ?_
    intro m hm
    have e2 : ((x / 256 ^ m : Nat) : Int).tdiv 256 = ((x / 256 ^ (m + 1) : Nat) : Int) := by
      rw [show ((x / 256 ^ m : Nat) : Int).tdiv 256 = ((x / 256 ^ m / 256 : Nat) : Int) from rfl, Nat.div_div_eq_div_mul, ← Nat.pow_succ]
    have e3 : ∀ m, x / 256 ^ m < 18446744073709551616 := fun m => Nat.lt_of_le_of_lt (Nat.div_le_self _ _) hx
    repeat' first
      | (with_reducible refine bo_run ?_); conv => whnf
      | (with_reducible refine bw_run ?_); conv => whnf
      | (with_reducible refine Br.tt ?_); conv => whnf
      | (with_reducible refine Br.ff ?_); conv => whnf
      | (with_reducible refine br_not ?_)
      | (with_reducible refine br_dec_tt (by assumption) ?_); conv => whnf
      | (with_reducible refine br_dec_ff (by assumption) ?_); conv => whnf
      | (with_reducible refine br_dec_intro (fun _ => ?_) (fun _ => ?_)) <;> conv => whnf
      | (with_reducible refine br_beq_tt (by assumption) ?_); conv => whnf
      | (with_reducible refine br_beq_ff (by assumption) ?_); conv => whnf
      | (with_reducible refine br_beq_intro (fun _ => ?_) (fun _ => ?_)) <;> conv => whnf
      | (with_reducible refine br_bne_tt (by assumption) ?_); conv => whnf
      | (with_reducible refine br_bne_ff (by assumption) ?_); conv => whnf
      | (with_reducible refine br_bne_intro (fun _ => ?_) (fun _ => ?_)) <;> conv => whnf
      | (with_reducible refine br_of_true (by assumption) ?_); conv => whnf
      | (with_reducible refine br_of_false (by assumption) ?_); conv => whnf
      | (with_reducible refine br_intro (fun _ => ?_) (fun _ => ?_)) <;> conv => whnf
      | (with_reducible refine and_rfl ?_); conv => whnf
      | (refine and_late (fun _ => ?_) (by first | omega | (show _ = _; rfl) | (simp only [List.length_map, List.length_append, pbytes, Nat.mul_one, List.length_cons, List.length_nil]; done) | (simp only [List.length_map, List.length_append, pbytes, Nat.mul_one, List.length_cons, List.length_nil]; omega))); conv => whnf
      | (with_reducible refine and_late (fun _ => ?_) ?_); conv => whnf
      | (refine call_pure rfl rfl (.inl rfl) ?_); conv => whnf
      | (with_reducible refine Both.mk ?_ ?_) <;> conv => whnf
      | (refine ⟨_, rfl, ?_⟩); conv => whnf
      | (refine ⟨_, unbytes_pbytes _, ?_⟩); conv => whnf
      | exact ⟨_, _, rfl, rfl⟩
      | fail
    · rename_i q1 _
      have := e3 (m + 1)
      refine ⟨_, ?_, m + 1, by omega, rfl, ?_, rfl⟩
      · omega
      · rw [e2, u64_nat _ this, i64_in _ (by omega)]
        rfl
    · rename_i q1 _ _ _ _ _ _ _ _
      have hmi : m = i := by omega
      subst hmi
      have e4 : IntKind.u8.wrap (((x / 256 ^ m : Nat) : Int).tmod 256) = ((x / 256 ^ m % 256 : Nat) : Int) := by
        rw [show ((x / 256 ^ m : Nat) : Int).tmod 256 = ((x / 256 ^ m % 256 : Nat) : Int) from rfl, u8_in _ (by omega)]
      refine ⟨_, ?_, (m, wr ++ [((x / 256 ^ m % 256 : Nat) : Int)]), ⟨?_, ?_⟩, rfl, ?_, ?_⟩
      · show m < m + 1
        omega
      · rw [← h1, be_cons]
        simp
      · simp; omega
      · simp only [List.length_append, List.length_cons, List.length_nil]
        rfl
      · rw [e4]
        simp [pbytes, Nat.add_assoc]
  · have h0 : j = 0 := by omega
    subst h0
    simp only [be, List.append_nil] at h1
    simp only [List.getElem?_cons_zero, Option.some.injEq, VObj.mk.injEq, true_and]
    rw [← h1]
    exact ⟨by omega, rfl⟩
  · have h0 : j = 0 := by omega
    show AV.own 0 (g + wr.length) 0 (n + wr.length) 1 = AV.own 0 (g + k) 0 (cs.length + k) 1
    rw [hl, show wr.length = k from by omega]
end Go.Proofs.Ytdjgfjnnafddnaa
