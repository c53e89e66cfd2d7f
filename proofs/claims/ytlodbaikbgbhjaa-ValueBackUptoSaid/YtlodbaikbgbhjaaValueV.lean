/- Values as trees: their cells, what is known of one that a law is handed; which are the same. -/
import Derived.Test.YtlodbaikbgbhjaaVmV
set_option linter.unusedVariables false
set_option linter.unusedSimpArgs false
set_option maxRecDepth 20000
namespace Go.Proofs.Ytlodbaikbgbhjaa
open Go Go.Vm

inductive V where
  | mk (k i b : Int) (s : ByteArray) (l : List V)
mutual
def cellsV : V → List PV
  | .mk k i b s l => [i64 k, i64 i, u64 b, str s, .sl l.length (cellsL l)]
def cellsL : List V → List PV
  | [] => []
  | v :: l => cellsV v ++ cellsL l
end
def pvV (v : V) : PV := .agg (cellsV v)
def slV (l : List V) : PV := .sl l.length (cellsL l)
theorem cellsV_mk (k i b : Int) (s : ByteArray) (l : List V) : cellsV (.mk k i b s l) = [i64 k, i64 i, u64 b, str s, .sl l.length (cellsL l)] := by rw [cellsV]
theorem pvV_mk (k i b : Int) (s : ByteArray) (l : List V) : pvV (.mk k i b s l) = .agg [i64 k, i64 i, u64 b, str s, .sl l.length (cellsL l)] := by rw [pvV, cellsV]
theorem cellsV_length (v : V) : (cellsV v).length = 5 := by cases v; rw [cellsV]; rfl
theorem cellsL_length : ∀ l : List V, (cellsL l).length = l.length * 5
  | [] => by rw [cellsL]; rfl
  | v :: l => by rw [cellsL, List.length_append, cellsV_length, cellsL_length l, List.length_cons]; omega
theorem cellsL_drop : ∀ (l : List V) (i : Nat), (cellsL l).drop (i * 5) = cellsL (l.drop i)
  | l, 0 => by simp
  | [], i + 1 => by simp [cellsL]
  | v :: l, i + 1 => by
    rw [cellsL, show (i + 1) * 5 = (cellsV v).length + i * 5 from by rw [cellsV_length]; omega, ← List.drop_drop, List.drop_left, cellsL_drop l i]
    rfl
theorem cellsL_app : ∀ (l m : List V), cellsL (l ++ m) = cellsL l ++ cellsL m
  | [], m => by rw [cellsL]; rfl
  | v :: l, m => by rw [List.cons_append, cellsL, cellsL, cellsL_app l m, List.append_assoc]
theorem cells_at {l r : List V} {i : Nat} {v : V} (h : l.drop i = v :: r) : ((cellsL l).drop (i * 5)).take 5 = cellsV v := by
  rw [cellsL_drop, h, cellsL, ← cellsV_length v, List.take_left]
theorem drop_lt {γ : Type} {l r : List γ} {i : Nat} {v : γ} (h : l.drop i = v :: r) : i < l.length ∧ l.drop (i + 1) = r := by
  refine ⟨?_, ?_⟩
  · rcases Nat.lt_or_ge i l.length with q | q
    · exact q
    · rw [List.drop_of_length_le q] at h; cases h
  · rw [← List.drop_drop, h]; rfl
theorem drop_ex {γ : Type} {l : List γ} {i : Nat} (h : i < l.length) : ∃ v, l.drop i = v :: l.drop (i + 1) := ⟨_, List.drop_eq_getElem_cons h⟩
mutual
def rkV : V → Nat
  | .mk _ _ _ _ l => rkL l + 1
def rkL : List V → Nat
  | [] => 0
  | v :: l => rkV v + rkL l
end
theorem rkV_mk (k i b : Int) (s : ByteArray) (l : List V) : rkV (.mk k i b s l) = rkL l + 1 := by rw [rkV]
theorem rk_drop : ∀ {l r : List V} {i : Nat} {v : V}, l.drop i = v :: r → rkV v ≤ rkL l
  | [], r, i, v, h => by simp at h
  | x :: l, r, 0, v, h => by simp only [List.drop_zero, List.cons.injEq] at h; rw [rkL, h.1]; omega
  | x :: l, r, i + 1, v, h => by
    have := rk_drop (l := l) (i := i) h
    rw [rkL]; omega

/-! ### in bounds -/
mutual
def okV : V → Prop
  | .mk k i b s l => (-9223372036854775808 ≤ k ∧ k ≤ 9223372036854775807) ∧ (-9223372036854775808 ≤ i ∧ i ≤ 9223372036854775807) ∧ (0 ≤ b ∧ b ≤ 18446744073709551615) ∧ s.size ≤ 1048576 ∧ l.length ≤ 1048576 ∧ okL l
def okL : List V → Prop
  | [] => True
  | v :: l => okV v ∧ okL l
end
theorem okV_mk {k i b : Int} {s : ByteArray} {l : List V} : okV (.mk k i b s l) ↔ (-9223372036854775808 ≤ k ∧ k ≤ 9223372036854775807) ∧ (-9223372036854775808 ≤ i ∧ i ≤ 9223372036854775807) ∧ (0 ≤ b ∧ b ≤ 18446744073709551615) ∧ s.size ≤ 1048576 ∧ l.length ≤ 1048576 ∧ okL l := by rw [okV]
theorem okL_drop : ∀ {l r : List V} {i : Nat} {v : V}, okL l → l.drop i = v :: r → okV v
  | [], r, i, v, _, h => by simp at h
  | x :: l, r, 0, v, hk, h => by
    simp only [List.drop_zero, List.cons.injEq] at h
    rw [okL, h.1] at hk
    exact hk.1
  | x :: l, r, i + 1, v, hk, h => by
    rw [okL] at hk
    exact okL_drop (l := l) (i := i) hk.2 h

/-- what a law is handed for a value -/
structure ValueT (P : Program) (tv ti tu ts tl : TypeId) : Prop where
  v : ∃ fs, P.underlying tv = some (.struct fs) ∧ fs.toList.map (·.type) = [ti, ti, tu, ts, tl]
  i : P.underlying ti = some (.int .i64)
  u : P.underlying tu = some (.int .u64)
  s : P.underlying ts = some .string
  l : P.underlying tl = some (.slice tv)
theorem sum_mem {γ : Type} {l : List (Nat × γ)} {x : Nat × γ} (h : x ∈ l) : x.1 ≤ (l.map (·.1)).sum := by
  induction l with
  | nil => cases h
  | cons a l ih =>
    rcases List.mem_cons.1 h with rfl | h
    · simp
    · have := ih h; simp; omega
theorem bulk_len {P : Program} {e : TypeId} {l : List (Nat × List PV)} (h : ∀ x ∈ l, WT P e x.1 x.2) : l.length ≤ (l.map (·.1)).sum := by
  induction l with
  | nil => simp
  | cons a l ih =>
    have key : ∀ n c, WT P e n c → 1 ≤ n := by
      intro n c h
      cases h <;> omega
    have h1 : 1 ≤ a.1 := key _ _ (h a (by simp))
    have := ih (fun x hx => h x (by simp [hx]))
    simp; omega
theorem wt_value {P : Program} {tv ti tu ts tl : TypeId} (T : ValueT P tv ti tu ts tl) : ∀ (b : Nat) (cs : List PV), b ≤ 1048576 → WT P tv b cs → ∃ v, cs = cellsV v ∧ okV v := by
  intro b
  induction b using Nat.strongRecOn with
  | ind b ih =>
    intro cs hb h
    obtain ⟨fs, h1, h2⟩ := T.v
    obtain ⟨l, rfl, h3, h4, h5, h6⟩ := WT.inv_st h1 h
    have hl : l.length = 5 := by
      rw [h3, ← List.length_map (f := (·.type)), h2]; rfl
    match l, hl with
    | [a1, a2, a3, a4, a5], _ =>
      have ft : ∀ (i : Nat) t, [ti, ti, tu, ts, tl][i]? = some t → ∃ f, fs.toList[i]? = some f ∧ f.type = t := by
        intro i t hi
        rw [← h2, List.getElem?_map] at hi
        cases hf : fs.toList[i]? with
        | none => rw [hf] at hi; cases hi
        | some f => rw [hf] at hi; exact ⟨f, rfl, by simpa using hi⟩
      obtain ⟨f1, e1, t1⟩ := ft 0 ti rfl
      obtain ⟨f2, e2, t2⟩ := ft 1 ti rfl
      obtain ⟨f3, e3, t3⟩ := ft 2 tu rfl
      obtain ⟨f4, e4, t4⟩ := ft 3 ts rfl
      obtain ⟨f5, e5, t5⟩ := ft 4 tl rfl
      have w1 := h4 0 f1 a1 e1 rfl
      have w2 := h4 1 f2 a2 e2 rfl
      have w3 := h4 2 f3 a3 e3 rfl
      have w4 := h4 3 f4 a4 e4 rfl
      have w5 := h4 4 f5 a5 e5 rfl
      rw [t1] at w1
      rw [t2] at w2
      rw [t3] at w3
      rw [t4] at w4
      rw [t5] at w5
      obtain ⟨k, q1, r1, _⟩ := WT.inv_int T.i w1
      obtain ⟨i, q2, r2, _⟩ := WT.inv_int T.i w2
      obtain ⟨u, q3, r3, _⟩ := WT.inv_int T.u w3
      obtain ⟨s, q4, r4⟩ := WT.inv_str T.s w4
      obtain ⟨m, q5, r5, r6, r7⟩ := WT.inv_sl T.l w5
      simp only [List.map_cons, List.map_nil, List.sum_cons, List.sum_nil] at h6
      have key : ∀ m : List (Nat × List PV), (∀ x ∈ m, WT P tv x.1 x.2) → (∀ x ∈ m, x.1 < b) → ∃ vs : List V, vs.length = m.length ∧ (m.map (·.2)).flatten = cellsL vs ∧ okL vs := by
        intro m
        induction m with
        | nil => intro _ _; exact ⟨[], rfl, by rw [cellsL]; rfl, by rw [okL]; trivial⟩
        | cons a m ihm =>
          intro g1 g2
          obtain ⟨vs, k1, k2, k3⟩ := ihm (fun x hx => g1 x (by simp [hx])) (fun x hx => g2 x (by simp [hx]))
          have hab := g2 a (by simp)
          obtain ⟨v, k4, k5⟩ := ih a.1 hab a.2 (by omega) (g1 a (by simp))
          exact ⟨v :: vs, by simp [k1], by rw [cellsL, List.map_cons, List.flatten_cons, k4, k2], by rw [okL]; exact ⟨k5, k3⟩⟩
      obtain ⟨vs, k1, k2, k3⟩ := key m r5 (fun x hx => by have := sum_mem hx; omega)
      have hlen := bulk_len r5
      refine ⟨.mk k i u s vs, ?_, ?_⟩
      · rw [cellsV_mk]
        simp only [List.map_cons, List.map_nil, List.flatten_cons, List.flatten_nil, q1, q2, q3, q4, q5, k2, k1]
        rfl
      · rw [okV_mk]
        exact ⟨wf_i64 r1, wf_i64 r2, wf_u64 r3, by omega, by omega, k3⟩
theorem wtv_value {P : Program} {tv ti tu ts tl : TypeId} (T : ValueT P tv ti tu ts tl) {b : Nat} {p : PV} (hb : b ≤ 1048576) (h : WTv P tv b p) : ∃ v, p = pvV v ∧ okV v := by
  obtain ⟨fs, h1, _⟩ := T.v
  obtain ⟨cs, rfl, h2⟩ := WTv.st h1 h
  obtain ⟨v, rfl, h3⟩ := wt_value T b cs hb h2
  exact ⟨v, rfl, h3⟩

/-! ### the same -/
mutual
def sameV : V → V → Bool
  | .mk k i b s l, .mk k' i' b' s' l' => k == k' && i == i' && b == b' && strEq s s' && l.length == l'.length && sameL l l'
def sameL : List V → List V → Bool
  | v :: l, w :: m => sameV v w && sameL l m
  | [], _ => true
  | _ :: _, [] => true
end
theorem sameV_mk {k i b k' i' b' : Int} {s s' : ByteArray} {l l' : List V} : sameV (.mk k i b s l) (.mk k' i' b' s' l') = (k == k' && i == i' && b == b' && strEq s s' && l.length == l'.length && sameL l l') := by rw [sameV]
end Go.Proofs.Ytlodbaikbgbhjaa
