/- Vm, part R: what values of a type are. -/
import Derived.Test.YtlodbaikbgbhjaaVmQ
set_option linter.unusedVariables false
set_option linter.unusedSimpArgs false
namespace Go.Vm
open Go Go.RowKit

section
variable {P : Program} {t e : TypeId} {b : Nat} {cs : List PV} {p : PV}

theorem WT.inv_bool (ht : P.underlying t = some .bool) (h : WT P t b cs) : ∃ x, cs = [.val (.bool x)] := by
  cases h with
  | bool x h => exact ⟨x, rfl⟩
  | int n h _ => rw [ht] at h; cases h
  | str s h _ => rw [ht] at h; cases h
  | sl l h _ _ _ => rw [ht] at h; cases h
  | st l h _ _ _ => rw [ht] at h; cases h
  | arr l h _ _ _ => rw [ht] at h; cases h
  | other cs h => rw [ht] at h; exact h.elim
theorem WT.inv_int {k : IntKind} (ht : P.underlying t = some (.int k)) (h : WT P t b cs) : ∃ n, cs = [.val (.int k n)] ∧ (Lit.int k n).wf = true ∧ 1 ≤ b := by
  cases h with
  | bool x h => rw [ht] at h; cases h
  | int n h hw => rw [ht] at h; cases h; exact ⟨n, rfl, hw, Nat.le_refl _⟩
  | str s h _ => rw [ht] at h; cases h
  | sl l h _ _ _ => rw [ht] at h; cases h
  | st l h _ _ _ => rw [ht] at h; cases h
  | arr l h _ _ _ => rw [ht] at h; cases h
  | other cs h => rw [ht] at h; exact h.elim
theorem WT.inv_str (ht : P.underlying t = some .string) (h : WT P t b cs) : ∃ s, cs = [.val (.string s)] ∧ s.size + 1 ≤ b := by
  cases h with
  | bool x h => rw [ht] at h; cases h
  | int n h hw => rw [ht] at h; cases h
  | str s h _ => exact ⟨s, rfl, Nat.le_refl _⟩
  | sl l h _ _ _ => rw [ht] at h; cases h
  | st l h _ _ _ => rw [ht] at h; cases h
  | arr l h _ _ _ => rw [ht] at h; cases h
  | other cs h => rw [ht] at h; exact h.elim
theorem WT.inv_sl (ht : P.underlying t = some (.slice e)) (h : WT P t b cs) : ∃ l : List (Nat × List PV), cs = [.sl l.length (l.map (·.2)).flatten] ∧ (∀ x ∈ l, WT P e x.1 x.2) ∧ (∀ x ∈ l, x.2.length = P.cellsOf e) ∧ (l.map (·.1)).sum + 1 = b := by
  cases h with
  | bool x h => rw [ht] at h; cases h
  | int n h hw => rw [ht] at h; cases h
  | str s h _ => rw [ht] at h; cases h
  | sl l h _ hx hz => rw [ht] at h; cases h; exact ⟨l, rfl, hx, hz, rfl⟩
  | st l h _ _ _ => rw [ht] at h; cases h
  | arr l h _ _ _ => rw [ht] at h; cases h
  | other cs h => rw [ht] at h; exact h.elim
theorem WT.inv_st {fs : Array Field} (ht : P.underlying t = some (.struct fs)) (h : WT P t b cs) : ∃ l : List (Nat × List PV), cs = (l.map (·.2)).flatten ∧ l.length = fs.toList.length ∧ (∀ (i : Nat) f x, fs.toList[i]? = some f → l[i]? = some x → WT P f.type x.1 x.2) ∧
    (∀ (i : Nat) f x, fs.toList[i]? = some f → l[i]? = some x → x.2.length = P.cellsOf f.type) ∧ (l.map (·.1)).sum + 1 = b := by
  cases h with
  | bool x h => rw [ht] at h; cases h
  | int n h hw => rw [ht] at h; cases h
  | str s h _ => rw [ht] at h; cases h
  | sl l h _ hx hz => rw [ht] at h; cases h
  | st l h hl hx hz => rw [ht] at h; cases h; exact ⟨l, rfl, hl, hx, hz, rfl⟩
  | arr l h _ _ _ => rw [ht] at h; cases h
  | other cs h => rw [ht] at h; exact h.elim

theorem WTv.bool (ht : P.underlying t = some .bool) (h : WTv P t b p) : ∃ x, p = .val (.bool x) := by
  unfold WTv at h
  rw [ht] at h
  obtain ⟨x, hx⟩ := WT.inv_bool ht h
  exact ⟨x, by simpa using hx⟩
theorem WTv.int {k : IntKind} (ht : P.underlying t = some (.int k)) (h : WTv P t b p) : ∃ n, p = .val (.int k n) ∧ (Lit.int k n).wf = true := by
  unfold WTv at h
  rw [ht] at h
  obtain ⟨x, hx, hw, _⟩ := WT.inv_int ht h
  exact ⟨x, by simpa using hx, hw⟩
theorem WTv.str (ht : P.underlying t = some .string) (h : WTv P t b p) : ∃ s, p = .val (.string s) ∧ s.size + 1 ≤ b := by
  unfold WTv at h
  rw [ht] at h
  obtain ⟨x, hx, hw⟩ := WT.inv_str ht h
  exact ⟨x, by simpa using hx, hw⟩
theorem WTv.sl (ht : P.underlying t = some (.slice e)) (h : WTv P t b p) : WT P t b [p] := by
  unfold WTv at h
  rw [ht] at h
  exact h
theorem WTv.st {fs : Array Field} (ht : P.underlying t = some (.struct fs)) (h : WTv P t b p) : ∃ cs, p = .agg cs ∧ WT P t b cs := by
  unfold WTv at h
  rw [ht] at h
  exact h

theorem wf_range {k : IntKind} {n : Int} (h : (Lit.int k n).wf = true) : k.min ≤ n ∧ n ≤ k.max := by
  simpa [Lit.wf] using h
theorem wf_i64 {n : Int} (h : (Lit.int .i64 n).wf = true) : -9223372036854775808 ≤ n ∧ n ≤ 9223372036854775807 := by
  have := wf_range h
  simpa [IntKind.min, IntKind.max, IntKind.bits, IntKind.signed] using this
theorem wf_u64 {n : Int} (h : (Lit.int .u64 n).wf = true) : 0 ≤ n ∧ n ≤ 18446744073709551615 := by
  have := wf_range h
  simpa [IntKind.min, IntKind.max, IntKind.bits, IntKind.signed] using this
theorem wf_u8 {n : Int} (h : (Lit.int .u8 n).wf = true) : 0 ≤ n ∧ n ≤ 255 := by
  have := wf_range h
  simpa [IntKind.min, IntKind.max, IntKind.bits, IntKind.signed] using this

/-- Slices of ints. -/
theorem WT.ints {k : IntKind} (ht : P.underlying t = some (.slice e)) (he : P.underlying e = some (.int k)) (h : WT P t b cs) : ∃ xs : List Int, cs = [.sl xs.length (xs.map fun x => .val (.int k x))] ∧ xs.length + 1 ≤ b ∧ ∀ x ∈ xs, (Lit.int k x).wf = true := by
  obtain ⟨l, rfl, h1, h2, h3⟩ := WT.inv_sl ht h
  subst h3
  have key : ∀ l : List (Nat × List PV), (∀ x ∈ l, WT P e x.1 x.2) → ∃ xs : List Int, l.length = xs.length ∧ (l.map (·.2)).flatten = (xs.map fun x => PV.val (.int k x)) ∧ xs.length ≤ (l.map (·.1)).sum ∧ ∀ x ∈ xs, (Lit.int k x).wf = true := by
    intro l
    induction l with
    | nil => intro _; exact ⟨[], rfl, rfl, Nat.le_refl _, by simp⟩
    | cons a l ih =>
      intro h
      obtain ⟨xs, q1, q2, q3, q4⟩ := ih (fun x hx => h x (by simp [hx]))
      obtain ⟨n, r1, r2, r3⟩ := WT.inv_int he (h a (by simp))
      refine ⟨n :: xs, by simp [q1], by simp [r1, q2], by simp; omega, ?_⟩
      intro x hx
      rcases List.mem_cons.1 hx with rfl | hx
      · exact r2
      · exact q4 x hx
  obtain ⟨xs, q1, q2, q3, q4⟩ := key l h1
  exact ⟨xs, by rw [q1, q2], by omega, q4⟩
theorem WTv.bytes (ht : P.underlying t = some (.slice e)) (he : P.underlying e = some (.int .u8)) (h : WTv P t b p) : ∃ xs : List Int, p = .sl xs.length (pbytes xs) ∧ xs.length + 1 ≤ b ∧ ∀ x ∈ xs, 0 ≤ x ∧ x ≤ 255 := by
  obtain ⟨xs, h1, h2, h3⟩ := WT.ints ht he (WTv.sl ht h)
  refine ⟨xs, by simpa [pbytes] using h1, h2, fun x hx => wf_u8 (h3 x hx)⟩
end
end Go.Vm
