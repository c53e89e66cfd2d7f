/- names.number: the number that decimal digits are. -/
import Derived.Test.YtdjgfjnnafddnaaNamesD
set_option linter.unusedVariables false
set_option linter.unusedSimpArgs false
set_option maxRecDepth 20000
namespace Go.Proofs.Ytdjgfjnnafddnaa
open Go Go.Vm Go.IntWalk

def goN : List Int → Nat → Nat → Nat
  | [], _, n => n
  | c :: r, i, n => if c < 48 ∨ c > 57 ∨ (i = 0 ∧ c = 48) ∨ i > 8 then 0 else goN r (i + 1) (10 * n + (c - 48).toNat)
def numS (s : ByteArray) : Nat := goN (bytesOf s) 0 0
noncomputable def F89 : List PV → Option PV
  | [.val (.string s)] => chk (s.size ≤ 9223372036854775806) (some (.val (.int .i64 (numS s))))
  | _ => none
theorem F89_some {ps p} (h : F89 ps = some p) : ∃ s, s.size ≤ 9223372036854775806 ∧ ps = [.val (.string s)] ∧ p = .val (.int .i64 (numS s)) := by
  unfold F89 at h
  split at h
  · rename_i s
    obtain ⟨h1, h⟩ := chk_some h
    exact ⟨s, h1, rfl, by simpa using h.symm⟩
  · cases h
theorem F89_eq {s : ByteArray} (h : s.size ≤ 9223372036854775806) : F89 [.val (.string s)] = some (.val (.int .i64 (numS s))) := by
  unfold F89
  exact chk_pos h
theorem drop_bt (s : ByteArray) (i : Nat) (h : i < s.size) : (bytesOf s).drop i = bt s i :: (bytesOf s).drop (i + 1) := by
  have hl : i < (bytesOf s).length := by rw [bytesOf_length]; exact h
  rw [List.drop_eq_getElem_cons hl]
  congr 1
  simp [bytesOf, bt, h]
  rfl
theorem con89 : Contract Try.prog 89 (DetP F89) := by
  refine contract_pure Known.nil Try.func89 (by kernel_rfl) rfl comp89 rfl (by kernel_rfl) ?_
  intro ps p h
  obtain ⟨s, hs, rfl, rfl⟩ := F89_some h
  refine ⟨(by decide : 1 ≤ Try.f89.ntmps), ?_⟩
  clear h
  generalize hr : numS s = r
  repeat' first
    | (with_reducible refine bo_run ?_); conv => whnf
    | (with_reducible refine bw_run ?_); conv => whnf
    | (with_reducible refine Br.tt ?_); conv => whnf
    | (with_reducible refine Br.ff ?_); conv => whnf
    | (with_reducible refine br_not ?_)
    | (with_reducible refine br_dec_tt (by assumption) ?_); conv => whnf
    | (with_reducible refine br_dec_ff (by assumption) ?_); conv => whnf
    | (with_reducible refine br_dec_intro (fun _ => ?_) (fun _ => ?_)) <;> conv => whnf
    | (with_reducible refine br_beq_tt (by assumption) ?_); conv => whnf
    | (with_reducible refine br_beq_ff (by assumption) ?_); conv => whnf
    | (with_reducible refine br_beq_intro (fun _ => ?_) (fun _ => ?_)) <;> conv => whnf
    | (with_reducible refine br_bne_tt (by assumption) ?_); conv => whnf
    | (with_reducible refine br_bne_ff (by assumption) ?_); conv => whnf
    | (with_reducible refine br_bne_intro (fun _ => ?_) (fun _ => ?_)) <;> conv => whnf
    | (with_reducible refine br_of_true (by assumption) ?_); conv => whnf
    | (with_reducible refine br_of_false (by assumption) ?_); conv => whnf
    | (with_reducible refine br_intro (fun _ => ?_) (fun _ => ?_)) <;> conv => whnf
    | (with_reducible refine and_rfl ?_); conv => whnf
    | (refine and_late (fun _ => ?_) (by first | omega | (show _ = _; rfl) | (simp only [List.length_map, List.length_append, pbytes, Nat.mul_one, List.length_cons, List.length_nil]; done) | (simp only [List.length_map, List.length_append, pbytes, Nat.mul_one, List.length_cons, List.length_nil]; omega))); conv => whnf
    | (with_reducible refine and_late (fun _ => ?_) ?_); conv => whnf
    | (refine call_pure rfl rfl (.inl rfl) ?_); conv => whnf
    | (with_reducible refine Both.mk ?_ ?_) <;> conv => whnf
    | (refine ⟨_, rfl, ?_⟩); conv => whnf
    | (refine ⟨_, unbytes_pbytes _, ?_⟩); conv => whnf
    | exact ⟨_, _, rfl, rfl⟩
    | fail
  refine bw_loop (α := Nat × Nat) (fun y => [(0, .pu (.val (.string s))), (3, .pu (.val (.int .i64 (y.2 : Int)))), (7, .pu (.val (.int .i64 s.size))), (8, .pu (.val (.int .i64 (y.1 : Int))))]) (fun _ => [])
    (fun y => y.1 ≤ s.size ∧ goN ((bytesOf s).drop y.1) y.1 y.2 = r ∧ y.1 ≤ 9 ∧ y.2 < 10 ^ y.1) (fun y => s.size - y.1) (0, 0) rfl rfl ⟨Nat.zero_le _, by simpa [numS] using hr, by omega, by simp⟩ ?_
  rintro ⟨i, n⟩ ⟨h1, h2, h3, h4⟩
  simp only at h1 h2 h3 h4
  have bad : i < s.size → (bt s i < 48 ∨ bt s i > 57 ∨ (i = 0 ∧ bt s i = 48) ∨ i > 8) → r = 0 := fun q1 q2 => by
    rw [← h2, drop_bt s i q1, goN, if_pos q2]
  have good : i < s.size → ¬ (bt s i < 48 ∨ bt s i > 57 ∨ (i = 0 ∧ bt s i = 48) ∨ i > 8) → goN ((bytesOf s).drop (i + 1)) (i + 1) (10 * n + (bt s i - 48).toNat) = r ∧ i + 1 ≤ 9 ∧ 10 * n + (bt s i - 48).toNat < 10 ^ (i + 1) ∧
      IntKind.i64.wrap (IntKind.i64.wrap (10 * (n : Int)) + IntKind.i64.wrap (IntKind.u8.wrap (bt s i - 48))) = ((10 * n + (bt s i - 48).toNat : Nat) : Int) := fun q1 q2 => by
    have hn : n < 10 ^ 9 := Nat.lt_of_lt_of_le h4 (Nat.pow_le_pow_right (by omega) h3)
    have hp : 10 * n + 10 ≤ 10 ^ (i + 1) := by rw [Nat.pow_succ]; omega
    refine ⟨by rw [← h2, drop_bt s i q1, goN, if_neg q2], by omega, by omega, ?_⟩
    rw [u8_in _ (by omega), i64_in (10 * (n : Int)) (by omega), i64_in (bt s i - 48) (by omega), i64_in _ (by omega)]
    omega
  repeat' first
    | (with_reducible refine bo_run ?_); conv => whnf
    | (with_reducible refine bw_run ?_); conv => whnf
    | (with_reducible refine Br.tt ?_); conv => whnf
    | (with_reducible refine Br.ff ?_); conv => whnf
    | (with_reducible refine br_not ?_)
    | (with_reducible refine br_dec_tt (by assumption) ?_); conv => whnf
    | (with_reducible refine br_dec_ff (by assumption) ?_); conv => whnf
    | (with_reducible refine br_dec_intro (fun _ => ?_) (fun _ => ?_)) <;> conv => whnf
    | (with_reducible refine br_beq_tt (by assumption) ?_); conv => whnf
    | (with_reducible refine br_beq_ff (by assumption) ?_); conv => whnf
    | (with_reducible refine br_beq_intro (fun _ => ?_) (fun _ => ?_)) <;> conv => whnf
    | (with_reducible refine br_bne_tt (by assumption) ?_); conv => whnf
    | (with_reducible refine br_bne_ff (by assumption) ?_); conv => whnf
    | (with_reducible refine br_bne_intro (fun _ => ?_) (fun _ => ?_)) <;> conv => whnf
    | (with_reducible refine br_of_true (by assumption) ?_); conv => whnf
    | (with_reducible refine br_of_false (by assumption) ?_); conv => whnf
    | (with_reducible refine br_intro (fun _ => ?_) (fun _ => ?_)) <;> conv => whnf
    | (with_reducible refine and_rfl ?_); conv => whnf
    | (refine and_late (fun _ => ?_) (by first | omega | (show _ = _; rfl) | (simp only [List.length_map, List.length_append, pbytes, Nat.mul_one, List.length_cons, List.length_nil]; done) | (simp only [List.length_map, List.length_append, pbytes, Nat.mul_one, List.length_cons, List.length_nil]; omega))); conv => whnf
    | (with_reducible refine and_late (fun _ => ?_) ?_); conv => whnf
    | (refine call_pure rfl rfl (.inl rfl) ?_); conv => whnf
    | (with_reducible refine Both.mk ?_ ?_) <;> conv => whnf
    | (refine ⟨_, rfl, ?_⟩); conv => whnf
    | (refine ⟨_, unbytes_pbytes _, ?_⟩); conv => whnf
    | exact ⟨_, _, rfl, rfl⟩
    | fail
  all_goals simp only [Int.toNat_natCast] at *
  · rw [bad (by omega) (by omega)]; rfl
  · rw [bad (by omega) (by omega)]; rfl
  · rw [bad (by omega) (by omega)]; rfl
  · rw [bad (by omega) (by omega)]; rfl
  · obtain ⟨g1, g2, g3, g4⟩ := good (by omega) (by omega)
    refine ⟨_, ?_, (i + 1, _), ⟨by simp only; omega, g1, g2, g3⟩, rfl, ?_, trivial⟩
    · simp only; omega
    · rw [g4, i64_in _ (by omega)]
      rfl
  · rw [bad (by omega) (by omega)]; rfl
  · obtain ⟨g1, g2, g3, g4⟩ := good (by omega) (by omega)
    refine ⟨_, ?_, (i + 1, _), ⟨by simp only; omega, g1, g2, g3⟩, rfl, ?_, trivial⟩
    · simp only; omega
    · rw [g4, i64_in _ (by omega)]
      rfl
  · rename_i q
    have : i = s.size := by omega
    rw [this, List.drop_of_length_le (by rw [bytesOf_length]; omega)] at h2
    simp only [goN] at h2
    rw [h2]
    rfl
end Go.Proofs.Ytdjgfjnnafddnaa
