/- Keys of names: rows, branches; NamesSays, NamesKeys. -/
import Derived.Test.YtdjgfjnnafddnaaNamesB
set_option linter.unusedVariables false
set_option linter.unusedSimpArgs false
set_option maxRecDepth 20000
namespace Go.Proofs.Ytdjgfjnnafddnaa
open Go Go.Vm Go.IntWalk

theorem strOf_append (a b : List Int) : strOf (a ++ b) = strOf a ++ strOf b := by
  unfold strOf
  apply ByteArray.ext
  simp
theorem strOf_size (l : List Int) : (strOf l).size = l.length := by simp [strOf, ByteArray.size]
theorem dec_len : ∀ (k n : Nat), n < 10 ^ (k + 1) → (dec n).length ≤ k + 1
  | 0, n, h => by rw [dec, dif_pos (by simpa using h)]; simp
  | k + 1, n, h => by
    rw [dec]
    split
    · simp
    · have := dec_len k (n / 10) (by rw [Nat.div_lt_iff_lt_mul (by omega), ← Nat.pow_succ]; exact h)
      simp
      omega
theorem dec_size (n : Nat) (h : n ≤ 9223372036854775807) : (strOf (dec n)).size ≤ 19 := by
  rw [strOf_size]
  exact dec_len 18 n (by omega)
def F68 (k : Nat) : List PV → Option PV
  | [.val (.int .i64 n)] => if 0 ≤ n ∧ n ≤ 9223372036854775807 ∧ n < k then some (.val (.string (strOf (dec n.toNat)))) else none
  | _ => none
theorem F68_some {k ps p} (h : F68 k ps = some p) : ∃ n : Nat, n ≤ 9223372036854775807 ∧ n < k ∧ ps = [.val (.int .i64 n)] ∧ p = .val (.string (strOf (dec n))) := by
  unfold F68 at h
  split at h
  · rename_i n
    split at h
    · rename_i hn
      exact ⟨n.toNat, by omega, by omega, by rw [Int.toNat_of_nonneg hn.1], by simpa using h.symm⟩
    · cases h
  · cases h
theorem con68 : ∀ k, Contract Try.prog 68 (DetP (F68 k))
  | 0 => by
    refine contract_pure Known.nil Try.func68 (by kernel_rfl) rfl comp68 rfl (by kernel_rfl) ?_
    intro ps p h
    obtain ⟨n, hn, hk, rfl, rfl⟩ := F68_some h
    omega
  | k + 1 => by
    refine contract_pure (Known.cons (con68 k) Known.nil) Try.func68 (by kernel_rfl) rfl comp68 rfl (by kernel_rfl) ?_
    intro ps p h
    obtain ⟨n, hn, hk, rfl, rfl⟩ := F68_some h
    refine ⟨(by decide : 1 ≤ Try.f68.ntmps), ?_⟩
    clear h
    have e2 : IntKind.i64.wrap ((n : Int).tdiv 10) = ((n / 10 : Nat) : Int) := by
      rw [show (n : Int).tdiv 10 = ((n / 10 : Nat) : Int) from rfl, i64_in _ (by omega)]
    have e3 : IntKind.u8.wrap (IntKind.i64.wrap (48 + (n : Int).tmod 10)) = 48 + ((n % 10 : Nat) : Int) := by
      rw [show (n : Int).tmod 10 = ((n % 10 : Nat) : Int) from rfl, i64_in _ (by omega), u8_in _ (by omega)]
    generalize hr : strOf (dec n) = r
    repeat' first
      | (with_reducible refine bo_run ?_); conv => whnf
      | (with_reducible refine bw_run ?_); conv => whnf
      | (with_reducible refine Br.tt ?_); conv => whnf
      | (with_reducible refine Br.ff ?_); conv => whnf
      | (with_reducible refine br_not ?_)
      | (with_reducible refine br_dec_tt (by assumption) ?_); conv => whnf
      | (with_reducible refine br_dec_ff (by assumption) ?_); conv => whnf
      | (with_reducible refine br_dec_intro (fun _ => ?_) (fun _ => ?_)) <;> conv => whnf
      | (with_reducible refine br_beq_tt (by assumption) ?_); conv => whnf
      | (with_reducible refine br_beq_ff (by assumption) ?_); conv => whnf
      | (with_reducible refine br_beq_intro (fun _ => ?_) (fun _ => ?_)) <;> conv => whnf
      | (with_reducible refine br_bne_tt (by assumption) ?_); conv => whnf
      | (with_reducible refine br_bne_ff (by assumption) ?_); conv => whnf
      | (with_reducible refine br_bne_intro (fun _ => ?_) (fun _ => ?_)) <;> conv => whnf
      | (with_reducible refine br_of_true (by assumption) ?_); conv => whnf
      | (with_reducible refine br_of_false (by assumption) ?_); conv => whnf
      | (with_reducible refine br_intro (fun _ => ?_) (fun _ => ?_)) <;> conv => whnf
      | (with_reducible refine and_rfl ?_); conv => whnf
      | (with_reducible refine and_late (fun _ => ?_) (by first | omega | (show _ = _; rfl))); conv => whnf
      | (with_reducible refine and_late (fun _ => ?_) ?_); conv => whnf
      | (refine call_pure rfl rfl (.inl rfl) ?_); conv => whnf
      | (refine ⟨_, rfl, ?_⟩); conv => whnf
    · subst hr
      rw [e3, dec, dif_pos (by omega), Nat.mod_eq_of_lt (by omega)]
      rfl
    · rw [e2, e3]
      refine call_pure (p := .val (.string (strOf (dec (n / 10))))) rfl ?_ (.inl rfl) ?_
      · unfold F68
        simp only
        rw [if_pos (by omega)]
        rfl
      · conv => whnf
        repeat' first
          | (with_reducible refine bo_run ?_); conv => whnf
          | (with_reducible refine bw_run ?_); conv => whnf
          | (with_reducible refine Br.tt ?_); conv => whnf
          | (with_reducible refine Br.ff ?_); conv => whnf
          | (with_reducible refine br_not ?_)
          | (with_reducible refine br_dec_tt (by assumption) ?_); conv => whnf
          | (with_reducible refine br_dec_ff (by assumption) ?_); conv => whnf
          | (with_reducible refine br_dec_intro (fun _ => ?_) (fun _ => ?_)) <;> conv => whnf
          | (with_reducible refine br_beq_tt (by assumption) ?_); conv => whnf
          | (with_reducible refine br_beq_ff (by assumption) ?_); conv => whnf
          | (with_reducible refine br_beq_intro (fun _ => ?_) (fun _ => ?_)) <;> conv => whnf
          | (with_reducible refine br_bne_tt (by assumption) ?_); conv => whnf
          | (with_reducible refine br_bne_ff (by assumption) ?_); conv => whnf
          | (with_reducible refine br_bne_intro (fun _ => ?_) (fun _ => ?_)) <;> conv => whnf
          | (with_reducible refine br_of_true (by assumption) ?_); conv => whnf
          | (with_reducible refine br_of_false (by assumption) ?_); conv => whnf
          | (with_reducible refine br_intro (fun _ => ?_) (fun _ => ?_)) <;> conv => whnf
          | (with_reducible refine and_rfl ?_); conv => whnf
          | (with_reducible refine and_late (fun _ => ?_) (by first | omega | (show _ = _; rfl))); conv => whnf
          | (with_reducible refine and_late (fun _ => ?_) ?_); conv => whnf
          | (refine call_pure rfl rfl (.inl rfl) ?_); conv => whnf
          | (refine ⟨_, rfl, ?_⟩); conv => whnf
        · subst hr
          simp only [packRes]
          rw [show dec n = dec (n / 10) ++ [48 + ((n % 10 : Nat) : Int)] from by rw [dec, dif_neg (by omega)], strOf_append]
        · have := dec_size (n / 10) (by omega)
          have e : (strOf ((fun x => (48 + ((n % 10 : Nat) : Int)) :: x) [])).size = 1 := strOf_size _
          omega
    · rfl
theorem con68' : Contract Try.prog 68 (DetP F67) := by
  obtain ⟨h1, h2⟩ := con68 9223372036854775808
  refine ⟨h1, ?_⟩
  rintro w objs β Z vs ls r τ hS hr ⟨e1, e2, ps, p, e3, e4, e5⟩
  obtain ⟨n, hn, rfl, rfl⟩ := F67_some e4
  refine h2 w objs β Z vs ls r τ hS hr ⟨e1, e2, _, _, e3, ?_, e5⟩
  unfold F68
  simp only
  rw [if_pos (by omega)]
  rfl
/-! ### keys -/
def row (s : ByteArray) : ByteArray := ⟨#[119, 47]⟩ ++ s
def F20 : List PV → Option PV
  | [.val (.string s)] => if s.size ≤ 140737488355328 then some (.val (.string (row s))) else none
  | _ => none
theorem F20_some {ps p} (h : F20 ps = some p) : ∃ s, s.size ≤ 140737488355328 ∧ ps = [.val (.string s)] ∧ p = .val (.string (row s)) := by
  unfold F20 at h
  split at h
  · rename_i s
    split at h
    · rename_i hs
      exact ⟨s, hs, rfl, by simpa using h.symm⟩
    · cases h
  · cases h
theorem con20 : Contract Try.prog 20 (DetP F20) := by
  refine contract_pure Known.nil Try.func20 (by kernel_rfl) rfl comp20 rfl (by kernel_rfl) ?_
  intro ps p h
  obtain ⟨s, hs, rfl, rfl⟩ := F20_some h
  refine ⟨(by decide : 1 ≤ Try.f20.ntmps), ?_⟩
  clear h
  generalize hr : row s = r
  repeat' first
    | (with_reducible refine bo_run ?_); conv => whnf
    | (with_reducible refine bw_run ?_); conv => whnf
    | (with_reducible refine Br.tt ?_); conv => whnf
    | (with_reducible refine Br.ff ?_); conv => whnf
    | (with_reducible refine br_not ?_)
    | (with_reducible refine br_dec_tt (by assumption) ?_); conv => whnf
    | (with_reducible refine br_dec_ff (by assumption) ?_); conv => whnf
    | (with_reducible refine br_dec_intro (fun _ => ?_) (fun _ => ?_)) <;> conv => whnf
    | (with_reducible refine br_beq_tt (by assumption) ?_); conv => whnf
    | (with_reducible refine br_beq_ff (by assumption) ?_); conv => whnf
    | (with_reducible refine br_beq_intro (fun _ => ?_) (fun _ => ?_)) <;> conv => whnf
    | (with_reducible refine br_bne_tt (by assumption) ?_); conv => whnf
    | (with_reducible refine br_bne_ff (by assumption) ?_); conv => whnf
    | (with_reducible refine br_bne_intro (fun _ => ?_) (fun _ => ?_)) <;> conv => whnf
    | (with_reducible refine br_of_true (by assumption) ?_); conv => whnf
    | (with_reducible refine br_of_false (by assumption) ?_); conv => whnf
    | (with_reducible refine br_intro (fun _ => ?_) (fun _ => ?_)) <;> conv => whnf
    | (with_reducible refine and_rfl ?_); conv => whnf
    | (with_reducible refine and_late (fun _ => ?_) (by first | omega | (show _ = _; rfl))); conv => whnf
    | (with_reducible refine and_late (fun _ => ?_) ?_); conv => whnf
    | (refine call_pure rfl rfl (.inl rfl) ?_); conv => whnf
    | (refine ⟨_, rfl, ?_⟩); conv => whnf
  · subst hr; rfl
  · have : (⟨#[119, 47]⟩ : ByteArray).size = 2 := rfl
    omega
theorem con21 : Contract Try.prog 21 (DetP F20) := by
  refine contract_pure Known.nil Try.func21 (by kernel_rfl) rfl comp21 rfl (by kernel_rfl) ?_
  intro ps p h
  obtain ⟨s, hs, rfl, rfl⟩ := F20_some h
  refine ⟨(by decide : 1 ≤ Try.f21.ntmps), ?_⟩
  clear h
  generalize hr : row s = r
  repeat' first
    | (with_reducible refine bo_run ?_); conv => whnf
    | (with_reducible refine bw_run ?_); conv => whnf
    | (with_reducible refine Br.tt ?_); conv => whnf
    | (with_reducible refine Br.ff ?_); conv => whnf
    | (with_reducible refine br_not ?_)
    | (with_reducible refine br_dec_tt (by assumption) ?_); conv => whnf
    | (with_reducible refine br_dec_ff (by assumption) ?_); conv => whnf
    | (with_reducible refine br_dec_intro (fun _ => ?_) (fun _ => ?_)) <;> conv => whnf
    | (with_reducible refine br_beq_tt (by assumption) ?_); conv => whnf
    | (with_reducible refine br_beq_ff (by assumption) ?_); conv => whnf
    | (with_reducible refine br_beq_intro (fun _ => ?_) (fun _ => ?_)) <;> conv => whnf
    | (with_reducible refine br_bne_tt (by assumption) ?_); conv => whnf
    | (with_reducible refine br_bne_ff (by assumption) ?_); conv => whnf
    | (with_reducible refine br_bne_intro (fun _ => ?_) (fun _ => ?_)) <;> conv => whnf
    | (with_reducible refine br_of_true (by assumption) ?_); conv => whnf
    | (with_reducible refine br_of_false (by assumption) ?_); conv => whnf
    | (with_reducible refine br_intro (fun _ => ?_) (fun _ => ?_)) <;> conv => whnf
    | (with_reducible refine and_rfl ?_); conv => whnf
    | (with_reducible refine and_late (fun _ => ?_) (by first | omega | (show _ = _; rfl))); conv => whnf
    | (with_reducible refine and_late (fun _ => ?_) ?_); conv => whnf
    | (refine call_pure rfl rfl (.inl rfl) ?_); conv => whnf
    | (refine ⟨_, rfl, ?_⟩); conv => whnf
  · subst hr; rfl
  · have : (⟨#[119, 47]⟩ : ByteArray).size = 2 := rfl
    omega
def branch (s : ByteArray) (n : Nat) : ByteArray := ((⟨#[104, 47]⟩ : ByteArray) ++ s ++ ⟨#[47]⟩) ++ strOf (dec n)
def F22 : List PV → Option PV
  | [.val (.string s), .val (.int .i64 n)] => if s.size ≤ 140737488355328 ∧ n ≤ 9223372036854775807 then some (.val (.string (branch s n.toNat))) else none
  | _ => none
theorem F22_some {ps p} (h : F22 ps = some p) : ∃ s n, s.size ≤ 140737488355328 ∧ n ≤ 9223372036854775807 ∧ ps = [.val (.string s), .val (.int .i64 n)] ∧ p = .val (.string (branch s n.toNat)) := by
  unfold F22 at h
  split at h
  · rename_i s n
    split at h
    · rename_i hs
      exact ⟨s, n, hs.1, hs.2, rfl, by simpa using h.symm⟩
    · cases h
  · cases h
theorem con22 : Contract Try.prog 22 (DetP F22) := by
  refine contract_pure (Known.cons con67 Known.nil) Try.func22 (by kernel_rfl) rfl comp22 rfl (by kernel_rfl) ?_
  intro ps p h
  obtain ⟨s, n, hs, hn, rfl, rfl⟩ := F22_some h
  refine ⟨(by decide : 2 ≤ Try.f22.ntmps), ?_⟩
  clear h
  generalize hr : branch s n.toNat = r
  have z1 : (⟨#[104, 47]⟩ : ByteArray).size = 2 := rfl
  have z2 : (⟨#[47]⟩ : ByteArray).size = 1 := rfl
  have e1 : (if (0 : Int) > n then 0 else n) = (n.toNat : Int) := by split <;> omega
  repeat' first
    | (with_reducible refine bo_run ?_); conv => whnf
    | (with_reducible refine bw_run ?_); conv => whnf
    | (with_reducible refine Br.tt ?_); conv => whnf
    | (with_reducible refine Br.ff ?_); conv => whnf
    | (with_reducible refine br_not ?_)
    | (with_reducible refine br_dec_tt (by assumption) ?_); conv => whnf
    | (with_reducible refine br_dec_ff (by assumption) ?_); conv => whnf
    | (with_reducible refine br_dec_intro (fun _ => ?_) (fun _ => ?_)) <;> conv => whnf
    | (with_reducible refine br_beq_tt (by assumption) ?_); conv => whnf
    | (with_reducible refine br_beq_ff (by assumption) ?_); conv => whnf
    | (with_reducible refine br_beq_intro (fun _ => ?_) (fun _ => ?_)) <;> conv => whnf
    | (with_reducible refine br_bne_tt (by assumption) ?_); conv => whnf
    | (with_reducible refine br_bne_ff (by assumption) ?_); conv => whnf
    | (with_reducible refine br_bne_intro (fun _ => ?_) (fun _ => ?_)) <;> conv => whnf
    | (with_reducible refine br_of_true (by assumption) ?_); conv => whnf
    | (with_reducible refine br_of_false (by assumption) ?_); conv => whnf
    | (with_reducible refine br_intro (fun _ => ?_) (fun _ => ?_)) <;> conv => whnf
    | (with_reducible refine and_rfl ?_); conv => whnf
    | (with_reducible refine and_late (fun _ => ?_) (by first | omega | (show _ = _; rfl))); conv => whnf
    | (with_reducible refine and_late (fun _ => ?_) ?_); conv => whnf
    | (refine call_pure rfl rfl (.inl rfl) ?_); conv => whnf
    | (refine ⟨_, rfl, ?_⟩); conv => whnf
  · simp only [e1]
    refine call_pure (p := .val (.string (strOf (dec n.toNat)))) rfl ?_ (.inl rfl) ?_
    · unfold F67
      simp only
      rw [if_pos (by omega)]
      rfl
    · conv => whnf
      have := dec_size n.toNat (by omega)
      repeat' first
        | (with_reducible refine bo_run ?_); conv => whnf
        | (with_reducible refine bw_run ?_); conv => whnf
        | (with_reducible refine Br.tt ?_); conv => whnf
        | (with_reducible refine Br.ff ?_); conv => whnf
        | (with_reducible refine br_not ?_)
        | (with_reducible refine br_dec_tt (by assumption) ?_); conv => whnf
        | (with_reducible refine br_dec_ff (by assumption) ?_); conv => whnf
        | (with_reducible refine br_dec_intro (fun _ => ?_) (fun _ => ?_)) <;> conv => whnf
        | (with_reducible refine br_beq_tt (by assumption) ?_); conv => whnf
        | (with_reducible refine br_beq_ff (by assumption) ?_); conv => whnf
        | (with_reducible refine br_beq_intro (fun _ => ?_) (fun _ => ?_)) <;> conv => whnf
        | (with_reducible refine br_bne_tt (by assumption) ?_); conv => whnf
        | (with_reducible refine br_bne_ff (by assumption) ?_); conv => whnf
        | (with_reducible refine br_bne_intro (fun _ => ?_) (fun _ => ?_)) <;> conv => whnf
        | (with_reducible refine br_of_true (by assumption) ?_); conv => whnf
        | (with_reducible refine br_of_false (by assumption) ?_); conv => whnf
        | (with_reducible refine br_intro (fun _ => ?_) (fun _ => ?_)) <;> conv => whnf
        | (with_reducible refine and_rfl ?_); conv => whnf
        | (with_reducible refine and_late (fun _ => ?_) (by first | omega | (show _ = _; rfl))); conv => whnf
        | (with_reducible refine and_late (fun _ => ?_) ?_); conv => whnf
        | (refine call_pure rfl rfl (.inl rfl) ?_); conv => whnf
        | (refine ⟨_, rfl, ?_⟩); conv => whnf
      · subst hr; rfl
      · simp only [ByteArray.size_append]; omega
  · simp only [ByteArray.size_append]; omega
theorem con23 : Contract Try.prog 23 (DetP F22) := by
  refine contract_pure (Known.cons con68' Known.nil) Try.func23 (by kernel_rfl) rfl comp23 rfl (by kernel_rfl) ?_
  intro ps p h
  obtain ⟨s, n, hs, hn, rfl, rfl⟩ := F22_some h
  refine ⟨(by decide : 2 ≤ Try.f23.ntmps), ?_⟩
  clear h
  generalize hr : branch s n.toNat = r
  have z1 : (⟨#[104, 47]⟩ : ByteArray).size = 2 := rfl
  have z2 : (⟨#[47]⟩ : ByteArray).size = 1 := rfl
  have z3 := dec_size (Int.toNat 0) (by decide)
  repeat' first
    | (with_reducible refine bo_run ?_); conv => whnf
    | (with_reducible refine bw_run ?_); conv => whnf
    | (with_reducible refine Br.tt ?_); conv => whnf
    | (with_reducible refine Br.ff ?_); conv => whnf
    | (with_reducible refine br_not ?_)
    | (with_reducible refine br_dec_tt (by assumption) ?_); conv => whnf
    | (with_reducible refine br_dec_ff (by assumption) ?_); conv => whnf
    | (with_reducible refine br_dec_intro (fun _ => ?_) (fun _ => ?_)) <;> conv => whnf
    | (with_reducible refine br_beq_tt (by assumption) ?_); conv => whnf
    | (with_reducible refine br_beq_ff (by assumption) ?_); conv => whnf
    | (with_reducible refine br_beq_intro (fun _ => ?_) (fun _ => ?_)) <;> conv => whnf
    | (with_reducible refine br_bne_tt (by assumption) ?_); conv => whnf
    | (with_reducible refine br_bne_ff (by assumption) ?_); conv => whnf
    | (with_reducible refine br_bne_intro (fun _ => ?_) (fun _ => ?_)) <;> conv => whnf
    | (with_reducible refine br_of_true (by assumption) ?_); conv => whnf
    | (with_reducible refine br_of_false (by assumption) ?_); conv => whnf
    | (with_reducible refine br_intro (fun _ => ?_) (fun _ => ?_)) <;> conv => whnf
    | (with_reducible refine and_rfl ?_); conv => whnf
    | (with_reducible refine and_late (fun _ => ?_) (by first | omega | (show _ = _; rfl))); conv => whnf
    | (with_reducible refine and_late (fun _ => ?_) ?_); conv => whnf
    | (refine call_pure rfl rfl (.inl rfl) ?_); conv => whnf
    | (refine ⟨_, rfl, ?_⟩); conv => whnf
  · subst hr
    rw [show n.toNat = Int.toNat 0 from by omega]
    rfl
  · simp only [ByteArray.size_append]; omega
  · simp only [ByteArray.size_append]; omega
  · refine call_pure (p := .val (.string (strOf (dec n.toNat)))) rfl ?_ (.inl rfl) ?_
    · unfold F67
      simp only
      rw [if_pos (by omega)]
    · conv => whnf
      have := dec_size n.toNat (by omega)
      repeat' first
        | (with_reducible refine bo_run ?_); conv => whnf
        | (with_reducible refine bw_run ?_); conv => whnf
        | (with_reducible refine Br.tt ?_); conv => whnf
        | (with_reducible refine Br.ff ?_); conv => whnf
        | (with_reducible refine br_not ?_)
        | (with_reducible refine br_dec_tt (by assumption) ?_); conv => whnf
        | (with_reducible refine br_dec_ff (by assumption) ?_); conv => whnf
        | (with_reducible refine br_dec_intro (fun _ => ?_) (fun _ => ?_)) <;> conv => whnf
        | (with_reducible refine br_beq_tt (by assumption) ?_); conv => whnf
        | (with_reducible refine br_beq_ff (by assumption) ?_); conv => whnf
        | (with_reducible refine br_beq_intro (fun _ => ?_) (fun _ => ?_)) <;> conv => whnf
        | (with_reducible refine br_bne_tt (by assumption) ?_); conv => whnf
        | (with_reducible refine br_bne_ff (by assumption) ?_); conv => whnf
        | (with_reducible refine br_bne_intro (fun _ => ?_) (fun _ => ?_)) <;> conv => whnf
        | (with_reducible refine br_of_true (by assumption) ?_); conv => whnf
        | (with_reducible refine br_of_false (by assumption) ?_); conv => whnf
        | (with_reducible refine br_intro (fun _ => ?_) (fun _ => ?_)) <;> conv => whnf
        | (with_reducible refine and_rfl ?_); conv => whnf
        | (with_reducible refine and_late (fun _ => ?_) (by first | omega | (show _ = _; rfl))); conv => whnf
        | (with_reducible refine and_late (fun _ => ?_) ?_); conv => whnf
        | (refine call_pure rfl rfl (.inl rfl) ?_); conv => whnf
        | (refine ⟨_, rfl, ?_⟩); conv => whnf
      · subst hr; rfl
      · simp only [ByteArray.size_append]; omega
  · simp only [ByteArray.size_append]; omega
/-! ### the laws -/
def F19 : List PV → Option PV
  | [] => some (.val (.bool true))
  | _ => none
theorem con19 : Contract Try.prog 19 (DetP F19) := by
  refine contract_pure (Known.cons con22 (Known.cons con15 Known.nil)) Try.func19 (by kernel_rfl) rfl comp19 rfl (by kernel_rfl) ?_
  intro ps p h
  have : ps = [] ∧ p = .val (.bool true) := by
    unfold F19 at h
    split at h
    · exact ⟨rfl, by simpa using h.symm⟩
    · cases h
  obtain ⟨rfl, rfl⟩ := this
  refine ⟨Nat.zero_le _, ?_⟩
  clear h
  have b10 : branch ⟨#[97, 46, 98]⟩ (Int.toNat 10) = ⟨#[104, 47, 97, 46, 98, 47, 49, 48]⟩ := by
    have e : dec (Int.toNat 10) = [49, 48] := by
      rw [show Int.toNat 10 = 10 from rfl, dec, dif_neg (by omega), show 10 / 10 = 1 from rfl, dec, dif_pos (by omega)]
      rfl
    unfold branch
    rw [e]
    rfl
  have n0 : name ⟨#[]⟩ = false := by decide +kernel
  have n1 : name ⟨#[97]⟩ = true := by decide +kernel
  repeat' first
    | (with_reducible refine bo_run ?_); conv => whnf
    | (with_reducible refine bw_run ?_); conv => whnf
    | (with_reducible refine Br.tt ?_); conv => whnf
    | (with_reducible refine Br.ff ?_); conv => whnf
    | (with_reducible refine br_not ?_)
    | (with_reducible refine br_dec_tt (by assumption) ?_); conv => whnf
    | (with_reducible refine br_dec_ff (by assumption) ?_); conv => whnf
    | (with_reducible refine br_dec_intro (fun _ => ?_) (fun _ => ?_)) <;> conv => whnf
    | (with_reducible refine br_beq_tt (by assumption) ?_); conv => whnf
    | (with_reducible refine br_beq_ff (by assumption) ?_); conv => whnf
    | (with_reducible refine br_beq_intro (fun _ => ?_) (fun _ => ?_)) <;> conv => whnf
    | (with_reducible refine br_bne_tt (by assumption) ?_); conv => whnf
    | (with_reducible refine br_bne_ff (by assumption) ?_); conv => whnf
    | (with_reducible refine br_bne_intro (fun _ => ?_) (fun _ => ?_)) <;> conv => whnf
    | (with_reducible refine br_of_true (by assumption) ?_); conv => whnf
    | (with_reducible refine br_of_false (by assumption) ?_); conv => whnf
    | (with_reducible refine br_intro (fun _ => ?_) (fun _ => ?_)) <;> conv => whnf
    | (with_reducible refine and_rfl ?_); conv => whnf
    | (with_reducible refine and_late (fun _ => ?_) (by first | omega | (show _ = _; rfl))); conv => whnf
    | (with_reducible refine and_late (fun _ => ?_) ?_); conv => whnf
    | (refine call_pure rfl rfl (.inl rfl) ?_); conv => whnf
    | (refine ⟨_, rfl, ?_⟩); conv => whnf
  · rw [n1]; rfl
  · rename_i h1; rw [b10, (strEq_iff _ _).2 rfl] at h1; cases h1
def lawF1 : List PV → Option PV
  | [.val (.string s)] => if s.size ≤ 140737488355328 then some (.val (.bool true)) else none
  | _ => none
theorem lawF1_some {ps p} (h : lawF1 ps = some p) : ∃ s, s.size ≤ 140737488355328 ∧ ps = [.val (.string s)] ∧ p = .val (.bool true) := by
  unfold lawF1 at h
  split at h
  · rename_i s
    split at h
    · rename_i hs
      exact ⟨s, hs, rfl, by simpa using h.symm⟩
    · cases h
  · cases h
theorem con3 : Contract Try.prog 3 (DetP lawF1) := by
  refine contract_pure (Known.cons con15 (Known.cons con16 (Known.cons con17 (Known.cons con18 (Known.cons con19 Known.nil))))) Try.func3 (by kernel_rfl) rfl comp3 rfl (by kernel_rfl) ?_
  intro ps p h
  obtain ⟨s, hs, rfl, rfl⟩ := lawF1_some h
  refine ⟨(by decide : 1 ≤ Try.f3.ntmps), ?_⟩
  clear h
  have e := name_eq s
  have e1 : (name s == nameR s) = true := by simp [e]
  have e2 : (decide (s.size ≤ 200) == decide (s.size ≤ 200)) = true := by simp
  repeat' first
    | (with_reducible refine bo_run ?_); conv => whnf
    | (with_reducible refine bw_run ?_); conv => whnf
    | (with_reducible refine Br.tt ?_); conv => whnf
    | (with_reducible refine Br.ff ?_); conv => whnf
    | (with_reducible refine br_not ?_)
    | (with_reducible refine br_dec_tt (by assumption) ?_); conv => whnf
    | (with_reducible refine br_dec_ff (by assumption) ?_); conv => whnf
    | (with_reducible refine br_dec_intro (fun _ => ?_) (fun _ => ?_)) <;> conv => whnf
    | (with_reducible refine br_beq_tt (by assumption) ?_); conv => whnf
    | (with_reducible refine br_beq_ff (by assumption) ?_); conv => whnf
    | (with_reducible refine br_beq_intro (fun _ => ?_) (fun _ => ?_)) <;> conv => whnf
    | (with_reducible refine br_bne_tt (by assumption) ?_); conv => whnf
    | (with_reducible refine br_bne_ff (by assumption) ?_); conv => whnf
    | (with_reducible refine br_bne_intro (fun _ => ?_) (fun _ => ?_)) <;> conv => whnf
    | (with_reducible refine br_of_true (by assumption) ?_); conv => whnf
    | (with_reducible refine br_of_false (by assumption) ?_); conv => whnf
    | (with_reducible refine br_intro (fun _ => ?_) (fun _ => ?_)) <;> conv => whnf
    | (with_reducible refine and_rfl ?_); conv => whnf
    | (with_reducible refine and_late (fun _ => ?_) (by first | omega | (show _ = _; rfl))); conv => whnf
    | (with_reducible refine and_late (fun _ => ?_) ?_); conv => whnf
    | (refine call_pure rfl rfl (.inl rfl) ?_); conv => whnf
    | (refine ⟨_, rfl, ?_⟩); conv => whnf
  all_goals rfl
def lawF2 : List PV → Option PV
  | [.val (.string s), .val (.int .i64 n)] => if s.size ≤ 140737488355328 ∧ n ≤ 9223372036854775807 then some (.val (.bool true)) else none
  | _ => none
theorem lawF2_some {ps p} (h : lawF2 ps = some p) : ∃ s n, s.size ≤ 140737488355328 ∧ n ≤ 9223372036854775807 ∧ ps = [.val (.string s), .val (.int .i64 n)] ∧ p = .val (.bool true) := by
  unfold lawF2 at h
  split at h
  · rename_i s n
    split at h
    · rename_i hs
      exact ⟨s, n, hs.1, hs.2, rfl, by simpa using h.symm⟩
    · cases h
  · cases h
theorem con4 : Contract Try.prog 4 (DetP lawF2) := by
  refine contract_pure (Known.cons con20 (Known.cons con21 (Known.cons con22 (Known.cons con23 (Known.cons con19 Known.nil))))) Try.func4 (by kernel_rfl) rfl comp4 rfl (by kernel_rfl) ?_
  intro ps p h
  obtain ⟨s, n, hs, hn, rfl, rfl⟩ := lawF2_some h
  refine ⟨(by decide : 2 ≤ Try.f4.ntmps), ?_⟩
  clear h
  have e1 : strEq (row s) (row s) = true := (strEq_iff _ _).2 rfl
  have e2 : strEq (branch s n.toNat) (branch s n.toNat) = true := (strEq_iff _ _).2 rfl
  have f1 : F20 [.val (.string s)] = some (.val (.string (row s))) := by unfold F20; simp only; rw [if_pos hs]
  have f2 : F22 [.val (.string s), .val (.int .i64 n)] = some (.val (.string (branch s n.toNat))) := by unfold F22; simp only; rw [if_pos ⟨hs, hn⟩]
  repeat' first
    | (with_reducible refine bo_run ?_); conv => whnf
    | (with_reducible refine bw_run ?_); conv => whnf
    | (with_reducible refine Br.tt ?_); conv => whnf
    | (with_reducible refine Br.ff ?_); conv => whnf
    | (with_reducible refine br_not ?_)
    | (with_reducible refine br_dec_tt (by assumption) ?_); conv => whnf
    | (with_reducible refine br_dec_ff (by assumption) ?_); conv => whnf
    | (with_reducible refine br_dec_intro (fun _ => ?_) (fun _ => ?_)) <;> conv => whnf
    | (with_reducible refine br_beq_tt (by assumption) ?_); conv => whnf
    | (with_reducible refine br_beq_ff (by assumption) ?_); conv => whnf
    | (with_reducible refine br_beq_intro (fun _ => ?_) (fun _ => ?_)) <;> conv => whnf
    | (with_reducible refine br_bne_tt (by assumption) ?_); conv => whnf
    | (with_reducible refine br_bne_ff (by assumption) ?_); conv => whnf
    | (with_reducible refine br_bne_intro (fun _ => ?_) (fun _ => ?_)) <;> conv => whnf
    | (with_reducible refine br_of_true (by assumption) ?_); conv => whnf
    | (with_reducible refine br_of_false (by assumption) ?_); conv => whnf
    | (with_reducible refine br_intro (fun _ => ?_) (fun _ => ?_)) <;> conv => whnf
    | (with_reducible refine and_rfl ?_); conv => whnf
    | (with_reducible refine and_late (fun _ => ?_) (by first | omega | (show _ = _; rfl))); conv => whnf
    | (with_reducible refine and_late (fun _ => ?_) ?_); conv => whnf
    | (refine call_pure rfl rfl (.inl rfl) ?_); conv => whnf
    | (refine ⟨_, rfl, ?_⟩); conv => whnf
  refine call_pure rfl f1 (.inl rfl) ?_
  conv => whnf
  repeat' first
    | (with_reducible refine bo_run ?_); conv => whnf
    | (with_reducible refine bw_run ?_); conv => whnf
    | (with_reducible refine Br.tt ?_); conv => whnf
    | (with_reducible refine Br.ff ?_); conv => whnf
    | (with_reducible refine br_not ?_)
    | (with_reducible refine br_dec_tt (by assumption) ?_); conv => whnf
    | (with_reducible refine br_dec_ff (by assumption) ?_); conv => whnf
    | (with_reducible refine br_dec_intro (fun _ => ?_) (fun _ => ?_)) <;> conv => whnf
    | (with_reducible refine br_beq_tt (by assumption) ?_); conv => whnf
    | (with_reducible refine br_beq_ff (by assumption) ?_); conv => whnf
    | (with_reducible refine br_beq_intro (fun _ => ?_) (fun _ => ?_)) <;> conv => whnf
    | (with_reducible refine br_bne_tt (by assumption) ?_); conv => whnf
    | (with_reducible refine br_bne_ff (by assumption) ?_); conv => whnf
    | (with_reducible refine br_bne_intro (fun _ => ?_) (fun _ => ?_)) <;> conv => whnf
    | (with_reducible refine br_of_true (by assumption) ?_); conv => whnf
    | (with_reducible refine br_of_false (by assumption) ?_); conv => whnf
    | (with_reducible refine br_intro (fun _ => ?_) (fun _ => ?_)) <;> conv => whnf
    | (with_reducible refine and_rfl ?_); conv => whnf
    | (with_reducible refine and_late (fun _ => ?_) (by first | omega | (show _ = _; rfl))); conv => whnf
    | (with_reducible refine and_late (fun _ => ?_) ?_); conv => whnf
    | (refine call_pure rfl rfl (.inl rfl) ?_); conv => whnf
    | (refine ⟨_, rfl, ?_⟩); conv => whnf
  refine call_pure rfl f1 (.inl rfl) ?_
  conv => whnf
  repeat' first
    | (with_reducible refine bo_run ?_); conv => whnf
    | (with_reducible refine bw_run ?_); conv => whnf
    | (with_reducible refine Br.tt ?_); conv => whnf
    | (with_reducible refine Br.ff ?_); conv => whnf
    | (with_reducible refine br_not ?_)
    | (with_reducible refine br_dec_tt (by assumption) ?_); conv => whnf
    | (with_reducible refine br_dec_ff (by assumption) ?_); conv => whnf
    | (with_reducible refine br_dec_intro (fun _ => ?_) (fun _ => ?_)) <;> conv => whnf
    | (with_reducible refine br_beq_tt (by assumption) ?_); conv => whnf
    | (with_reducible refine br_beq_ff (by assumption) ?_); conv => whnf
    | (with_reducible refine br_beq_intro (fun _ => ?_) (fun _ => ?_)) <;> conv => whnf
    | (with_reducible refine br_bne_tt (by assumption) ?_); conv => whnf
    | (with_reducible refine br_bne_ff (by assumption) ?_); conv => whnf
    | (with_reducible refine br_bne_intro (fun _ => ?_) (fun _ => ?_)) <;> conv => whnf
    | (with_reducible refine br_of_true (by assumption) ?_); conv => whnf
    | (with_reducible refine br_of_false (by assumption) ?_); conv => whnf
    | (with_reducible refine br_intro (fun _ => ?_) (fun _ => ?_)) <;> conv => whnf
    | (with_reducible refine and_rfl ?_); conv => whnf
    | (with_reducible refine and_late (fun _ => ?_) (by first | omega | (show _ = _; rfl))); conv => whnf
    | (with_reducible refine and_late (fun _ => ?_) ?_); conv => whnf
    | (refine call_pure rfl rfl (.inl rfl) ?_); conv => whnf
    | (refine ⟨_, rfl, ?_⟩); conv => whnf
  refine call_pure rfl f2 (.inl rfl) ?_
  conv => whnf
  repeat' first
    | (with_reducible refine bo_run ?_); conv => whnf
    | (with_reducible refine bw_run ?_); conv => whnf
    | (with_reducible refine Br.tt ?_); conv => whnf
    | (with_reducible refine Br.ff ?_); conv => whnf
    | (with_reducible refine br_not ?_)
    | (with_reducible refine br_dec_tt (by assumption) ?_); conv => whnf
    | (with_reducible refine br_dec_ff (by assumption) ?_); conv => whnf
    | (with_reducible refine br_dec_intro (fun _ => ?_) (fun _ => ?_)) <;> conv => whnf
    | (with_reducible refine br_beq_tt (by assumption) ?_); conv => whnf
    | (with_reducible refine br_beq_ff (by assumption) ?_); conv => whnf
    | (with_reducible refine br_beq_intro (fun _ => ?_) (fun _ => ?_)) <;> conv => whnf
    | (with_reducible refine br_bne_tt (by assumption) ?_); conv => whnf
    | (with_reducible refine br_bne_ff (by assumption) ?_); conv => whnf
    | (with_reducible refine br_bne_intro (fun _ => ?_) (fun _ => ?_)) <;> conv => whnf
    | (with_reducible refine br_of_true (by assumption) ?_); conv => whnf
    | (with_reducible refine br_of_false (by assumption) ?_); conv => whnf
    | (with_reducible refine br_intro (fun _ => ?_) (fun _ => ?_)) <;> conv => whnf
    | (with_reducible refine and_rfl ?_); conv => whnf
    | (with_reducible refine and_late (fun _ => ?_) (by first | omega | (show _ = _; rfl))); conv => whnf
    | (with_reducible refine and_late (fun _ => ?_) ?_); conv => whnf
    | (refine call_pure rfl rfl (.inl rfl) ?_); conv => whnf
    | (refine ⟨_, rfl, ?_⟩); conv => whnf
  refine call_pure rfl f2 (.inl rfl) ?_
  conv => whnf
  repeat' first
    | (with_reducible refine bo_run ?_); conv => whnf
    | (with_reducible refine bw_run ?_); conv => whnf
    | (with_reducible refine Br.tt ?_); conv => whnf
    | (with_reducible refine Br.ff ?_); conv => whnf
    | (with_reducible refine br_not ?_)
    | (with_reducible refine br_dec_tt (by assumption) ?_); conv => whnf
    | (with_reducible refine br_dec_ff (by assumption) ?_); conv => whnf
    | (with_reducible refine br_dec_intro (fun _ => ?_) (fun _ => ?_)) <;> conv => whnf
    | (with_reducible refine br_beq_tt (by assumption) ?_); conv => whnf
    | (with_reducible refine br_beq_ff (by assumption) ?_); conv => whnf
    | (with_reducible refine br_beq_intro (fun _ => ?_) (fun _ => ?_)) <;> conv => whnf
    | (with_reducible refine br_bne_tt (by assumption) ?_); conv => whnf
    | (with_reducible refine br_bne_ff (by assumption) ?_); conv => whnf
    | (with_reducible refine br_bne_intro (fun _ => ?_) (fun _ => ?_)) <;> conv => whnf
    | (with_reducible refine br_of_true (by assumption) ?_); conv => whnf
    | (with_reducible refine br_of_false (by assumption) ?_); conv => whnf
    | (with_reducible refine br_intro (fun _ => ?_) (fun _ => ?_)) <;> conv => whnf
    | (with_reducible refine and_rfl ?_); conv => whnf
    | (with_reducible refine and_late (fun _ => ?_) (by first | omega | (show _ = _; rfl))); conv => whnf
    | (with_reducible refine and_late (fun _ => ?_) ?_); conv => whnf
    | (refine call_pure rfl rfl (.inl rfl) ?_); conv => whnf
    | (refine ⟨_, rfl, ?_⟩); conv => whnf
  all_goals rfl
end Go.Proofs.Ytdjgfjnnafddnaa
