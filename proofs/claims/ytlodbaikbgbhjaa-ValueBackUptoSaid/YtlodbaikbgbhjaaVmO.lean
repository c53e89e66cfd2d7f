/- Vm, part O: what a law is handed: readings of its arguments are pure values. -/
import Derived.Test.YtlodbaikbgbhjaaVmN
import Derived.OpenShut
import Derived.ChangeOld
import GoSem.ClaimOpen
import Derived.Carry
import Derived.ChangeShapes
import Derived.WideShapes
set_option linter.unusedVariables false
set_option linter.unusedSimpArgs false
namespace Go.Vm
open Go Go.RowKit

/-- Cells of a type, and how much they hold at least. -/
inductive WT (P : Program) : TypeId → Nat → List PV → Prop
  | bool {t : TypeId} (b : Bool) (h : P.underlying t = some .bool) : WT P t 1 [.val (.bool b)]
  | int {t : TypeId} {k : IntKind} (n : Int) (h : P.underlying t = some (.int k)) (hw : (Lit.int k n).wf = true) : WT P t 1 [.val (.int k n)]
  | str {t : TypeId} (s : ByteArray) (h : P.underlying t = some .string) (hs : s.size ≤ maxLen) : WT P t (s.size + 1) [.val (.string s)]
  | sl {t e : TypeId} (l : List (Nat × List PV)) (h : P.underlying t = some (.slice e)) (hl : l.length ≤ maxLen) (hx : ∀ x ∈ l, WT P e x.1 x.2) (hz : ∀ x ∈ l, x.2.length = P.cellsOf e) : WT P t ((l.map (·.1)).sum + 1) [.sl l.length (l.map (·.2)).flatten]
  | st {t : TypeId} {fs : Array Field} (l : List (Nat × List PV)) (h : P.underlying t = some (.struct fs)) (hl : l.length = fs.toList.length) (hx : ∀ (i : Nat) f x, fs.toList[i]? = some f → l[i]? = some x → WT P f.type x.1 x.2)
      (hz : ∀ (i : Nat) f x, fs.toList[i]? = some f → l[i]? = some x → x.2.length = P.cellsOf f.type) : WT P t ((l.map (·.1)).sum + 1) (l.map (·.2)).flatten
  | arr {t e : TypeId} {n : Nat} (l : List (Nat × List PV)) (h : P.underlying t = some (.array n e)) (hl : l.length = n) (hx : ∀ x ∈ l, WT P e x.1 x.2) (hz : ∀ x ∈ l, x.2.length = P.cellsOf e) : WT P t ((l.map (·.1)).sum + 1) (l.map (·.2)).flatten
  | other {t : TypeId} (cs : List PV) (h : match P.underlying t with | some .bool | some (.int _) | some .string | some (.slice _) | some (.struct _) | some (.array _ _) => False | _ => True) : WT P t 1 cs

/-- How much a reading holds. -/
structure IsBulk {H : Type} (bk : DataW H → Nat) (bks : List (DataW H) → Nat) : Prop where
  one : ∀ d, 1 ≤ bk d
  str : ∀ bytes, bk (.lit (.string bytes)) = bytes.length + 1
  slice : ∀ es sp, bks es + 1 ≤ bk (.slice es sp)
  agg : ∀ ps, bk (.agg ps) = bks ps + 1
  nil : bks [] = 0
  cons : ∀ d l, bks (d :: l) = bk d + bks l

/-- fields one behind the other -/
def contF (P : Program) : Nat → List Field → Nat → Bool
  | k, [], n => k == n
  | k, f :: fs, n => f.offset == k && contF P (k + P.cellsOf f.type) fs n
def contB (P : Program) : Bool := (List.range P.types.size).all fun t => match P.underlying t with
  | some (.struct fs) => contF P 0 fs.toList (P.cellsOf t) && fs.toList.all fun f => decide (f.type < P.types.size)
  | some (.array n e) => P.cellsOf t == n * P.cellsOf e && decide (e < P.types.size)
  | some (.slice e) => decide (e < P.types.size)
  | _ => true
def Cont (P : Program) : Prop := ∀ t, t < P.types.size → match P.underlying t with
  | some (.struct fs) => contF P 0 fs.toList (P.cellsOf t) = true ∧ ∀ f ∈ fs.toList, f.type < P.types.size
  | some (.array n e) => P.cellsOf t = n * P.cellsOf e ∧ e < P.types.size
  | some (.slice e) => e < P.types.size
  | _ => True

theorem RepPs.app {w : World} {I : Nat → Prop} {one : Bool} : ∀ {cs : List PV} {vs : List Value} {ds : List PV} {us : List Value}, RepPs w I one cs vs → RepPs w I one ds us → RepPs w I one (cs ++ ds) (vs ++ us)
  | [], _, _, _, h, k => by simp only [RepPs] at h; subst h; exact k
  | c :: cs, vs, _, _, h, k => by
    simp only [RepPs] at h
    obtain ⟨u, us, rfl, h0, h1, h⟩ := h
    simp only [List.cons_append, RepPs]
    exact ⟨u, _, rfl, h0, h1, RepPs.app h k⟩

section
variable {H : Type} {enc : TypeId × Value → H} {P : Program} {W : World} {bk : DataW H → Nat} {bks : List (DataW H) → Nat}

/-- What an opened row of cells is. -/
def Opened (P : Program) (W : World) (bk : DataW H → Nat) (t : TypeId) (vs : List Value) (d : DataW H) : Prop :=
  ∃ cs b, RepPs W (· < W.heap.size) true cs vs ∧ WT P t b cs ∧ b ≤ bk d

theorem opened_fields (hb : IsBulk bk bks) {r : TypeId → List Value → Option (DataW H × List MemPlace)}
    (ih : ∀ t vs d ps, t < P.types.size → r t vs = some (d, ps) → Opened P W bk t vs d) :
    ∀ (fs : List Field) (k n : Nat) (vs : List Value) (xs : List (DataW H × List MemPlace)), contF P k fs n = true → (∀ f ∈ fs, f.type < P.types.size) → vs.length = n → (fs.mapM fun f => r f.type ((vs.drop f.offset).take (P.cellsOf f.type))) = some xs →
      ∃ l : List (Nat × List PV), RepPs W (· < W.heap.size) true (l.map (·.2)).flatten (vs.drop k) ∧ l.length = fs.length ∧ (∀ (i : Nat) f x, fs[i]? = some f → l[i]? = some x → WT P f.type x.1 x.2) ∧
        (∀ (i : Nat) f x, fs[i]? = some f → l[i]? = some x → x.2.length = P.cellsOf f.type) ∧ (l.map (·.1)).sum ≤ bks (xs.map (·.1))
  | [], k, n, vs, xs, hc, _, hv, hm => by
    simp only [contF, beq_iff_eq] at hc
    simp at hm
    subst hm
    refine ⟨[], ?_, rfl, by simp, by simp, by simp⟩
    have : vs.drop k = [] := by simp; omega
    rw [this]
    simp [RepPs]
  | f :: fs, k, n, vs, xs, hc, hts, hv, hm => by
    simp only [contF, Bool.and_eq_true, beq_iff_eq] at hc
    obtain ⟨ho, hc⟩ := hc
    rw [List.mapM_cons] at hm
    cases hr : r f.type ((vs.drop f.offset).take (P.cellsOf f.type)) with
    | none => simp [hr] at hm
    | some x =>
      obtain ⟨d, ps⟩ := x
      cases hrs : (fs.mapM fun f => r f.type ((vs.drop f.offset).take (P.cellsOf f.type))) with
      | none => simp [hr, hrs] at hm
      | some ys =>
        simp [hr, hrs] at hm
        subst hm
        obtain ⟨cs, b, h1, h2, h3⟩ := ih _ _ _ _ (hts f (by simp)) hr
        obtain ⟨l, k1, k2, k3, k4, k5⟩ := opened_fields hb ih fs _ n vs ys hc (fun g hg => hts g (by simp [hg])) hv hrs
        have hk : k + P.cellsOf f.type ≤ n := by
          clear k1 k2 k3 k4 k5 hrs hr h1 h2 h3
          revert hc
          generalize k + P.cellsOf f.type = m
          clear ih hts
          induction fs generalizing m with
          | nil => intro hc; simp only [contF, beq_iff_eq] at hc; omega
          | cons g gs ihg =>
            intro hc
            simp only [contF, Bool.and_eq_true, beq_iff_eq] at hc
            have := ihg _ hc.2
            omega
        have hl1 : cs.length = P.cellsOf f.type := by rw [← h1.length]; simp; omega
        refine ⟨(b, cs) :: l, ?_, by simp [k2], ?_, ?_, ?_⟩
        · have e : vs.drop k = (vs.drop f.offset).take (P.cellsOf f.type) ++ vs.drop (k + P.cellsOf f.type) := by
            rw [ho, ← List.drop_drop, List.take_append_drop]
          rw [e]
          simp only [List.map_cons, List.flatten_cons]
          exact h1.app k1
        · intro i g x hg hx
          cases i with
          | zero => simp at hg hx; subst hg hx; exact h2
          | succ i => simp at hg hx; exact k3 i g x hg hx
        · intro i g x hg hx
          cases i with
          | zero => simp at hg hx; subst hg hx; exact hl1
          | succ i => simp at hg hx; exact k4 i g x hg hx
        · simp only [List.map_cons, List.sum_cons, hb.cons]
          omega

/-- n rows of cells, one behind the other -/
theorem opened_elems (hb : IsBulk bk bks) {e : TypeId} {sz : Nat} {g : Nat → Option (DataW H × List MemPlace)} {row : Nat → List Value}
    (hrow : ∀ i x, g i = some x → (row i).length = sz ∧ Opened P W bk e (row i) x.1) :
    ∀ (n : Nat) (k : Nat) (xs : List (DataW H × List MemPlace)), ((List.range' k n).mapM g) = some xs →
      ∃ l : List (Nat × List PV), RepPs W (· < W.heap.size) true (l.map (·.2)).flatten ((List.range' k n).flatMap row) ∧ l.length = n ∧ (∀ x ∈ l, WT P e x.1 x.2) ∧ (∀ x ∈ l, x.2.length = sz) ∧ (l.map (·.1)).sum ≤ bks (xs.map (·.1))
  | 0, k, xs, hm => by
    simp at hm
    subst hm
    exact ⟨[], by simp [RepPs], rfl, by simp, by simp, by simp⟩
  | n + 1, k, xs, hm => by
    rw [List.range'_succ, List.mapM_cons] at hm
    cases hr : g k with
    | none => simp [hr] at hm
    | some x =>
      cases hrs : ((List.range' (k + 1) n).mapM g) with
      | none => simp [hr, hrs] at hm
      | some ys =>
        simp [hr, hrs] at hm
        subst hm
        obtain ⟨hl, cs, b, h1, h2, h3⟩ := hrow k x hr
        obtain ⟨l, k1, k2, k3, k4, k5⟩ := opened_elems hb hrow n (k + 1) ys hrs
        refine ⟨(b, cs) :: l, ?_, by simp [k2], ?_, ?_, ?_⟩
        · rw [List.range'_succ]
          simp only [List.map_cons, List.flatten_cons, List.flatMap_cons]
          exact h1.app k1
        · intro y hy
          rcases List.mem_cons.1 hy with rfl | hy
          · exact h2
          · exact k3 y hy
        · intro y hy
          rcases List.mem_cons.1 hy with rfl | hy
          · exact h1.length.symm.trans hl
          · exact k4 y hy
        · simp only [List.map_cons, List.sum_cons, hb.cons]
          omega

theorem flat_get (sz : Nat) (row : Nat → List Value) : ∀ (n k : Nat), (∀ i, k ≤ i → i < k + n → (row i).length = sz) → ∀ j u, ((List.range' k n).flatMap row)[j]? = some u → ∃ i o, i < n ∧ o < sz ∧ j = i * sz + o ∧ (row (k + i))[o]? = some u
  | 0, k, _, j, u, h => by simp at h
  | n + 1, k, hl, j, u, h => by
    rw [List.range'_succ, List.flatMap_cons] at h
    have h0 := hl k (Nat.le_refl _) (by omega)
    by_cases hj : j < sz
    · rw [List.getElem?_append_left (by omega)] at h
      exact ⟨0, j, by omega, hj, by omega, h⟩
    · rw [List.getElem?_append_right (by omega), h0] at h
      obtain ⟨i, o, h1, h2, h3, h4⟩ := flat_get sz row n (k + 1) (fun i a b => hl i (by omega) (by omega)) _ u h
      refine ⟨i + 1, o, by omega, h2, ?_, by rw [show k + (i + 1) = k + 1 + i by omega]; exact h4⟩
      rw [Nat.succ_mul]
      omega

theorem mapM_some_mem' {α β : Type} {f : α → Option β} : ∀ {l : List α} {r : List β}, l.mapM f = some r → ∀ x ∈ l, ∃ y, y ∈ r ∧ f x = some y
  | [], r, h, x, hx => by simp at hx
  | a :: l, r, h, x, hx => by
    rw [List.mapM_cons] at h
    cases ha : f a with
    | none => simp [ha] at h
    | some y =>
      cases has : l.mapM f with
      | none => simp [ha, has] at h
      | some ys =>
        simp [ha, has] at h
        subst h
        rcases List.mem_cons.1 hx with rfl | hx
        · exact ⟨y, by simp, ha⟩
        · obtain ⟨z, h1, h2⟩ := mapM_some_mem' has x hx
          exact ⟨z, by simp [h1], h2⟩
theorem mapM_congr' {α β : Type} {g h : α → Option β} : ∀ (l : List α), (∀ a ∈ l, g a = h a) → l.mapM g = l.mapM h
  | [], _ => rfl
  | a :: r, k => by rw [List.mapM_cons, List.mapM_cons, k a (List.mem_cons_self ..), mapM_congr' r fun b hb => k b (List.mem_cons_of_mem _ hb)]
theorem add_add (a : Addr) (i j : Nat) : (a.add i).add j = a.add (i + j) := by
  unfold Addr.add
  by_cases hi : i = 0 <;> by_cases hj : j = 0 <;> simp [hi, hj, Nat.add_assoc]
theorem add_block (a : Addr) (i : Nat) : (a.add i).block = a.block := by
  unfold Addr.add
  split <;> rfl

theorem Cont.of_bool (h : contB P = true) : Cont P := by
  intro t ht
  have := List.all_eq_true.1 h t (by simpa using ht)
  split
  · rename_i hu
    rw [hu] at this
    simp only [Bool.and_eq_true, List.all_eq_true, decide_eq_true_eq] at this
    exact this
  · rename_i hu
    rw [hu] at this
    simpa using this
  · rename_i hu
    rw [hu] at this
    simpa using this
  · trivial

theorem open_cells (hc : Cont P) (hb : IsBulk bk bks) : ∀ (fuel : Nat) (t : TypeId) (vs : List Value) (d : DataW H) (ps : List MemPlace), t < P.types.size → DataW.trod enc P W 0 (fun _ => true) true fuel t vs = some (d, ps) → Opened P W bk t vs d
  | 0, t, vs, d, ps, _, h => by simp [DataW.trod] at h
  | fuel + 1, t, vs, d, ps, ht, h => by
    have ih := open_cells hc hb fuel
    have one : ∀ (v : Value), v.oneCell' = true → RepPs W (· < W.heap.size) true [PV.val v] [v] := fun v hv => by
      simp only [RepPs]; exact ⟨v, [], rfl, fun _ => hv, by simp [RepP], rfl⟩
    have oth : (match P.underlying t with | some .bool | some (.int _) | some .string | some (.slice _) | some (.struct _) | some (.array _ _) => False | _ => True) → ∀ (v : Value), v.oneCell' = true → vs = [v] → Opened P W bk t vs d := by
      intro ho v hv e
      subst e
      exact ⟨[.val v], 1, one v hv, .other _ ho, hb.one d⟩
    rw [DataW.trod_step] at h
    unfold DataW.trodStep at h
    have hcont := hc t ht
    split at h
    · rename_i b hu
      simp only [Option.some.injEq, Prod.mk.injEq] at h
      exact ⟨_, 1, one _ rfl, .bool b hu, hb.one d⟩
    · rename_i k k' n hu
      split at h
      · rename_i hk
        obtain ⟨rfl, hw⟩ := hk
        exact ⟨_, 1, one _ rfl, .int n hu hw, hb.one d⟩
      · cases h
    · rename_i k k' n hu
      exact oth (by rw [hu]; trivial) _ rfl rfl
    · rename_i s hu
      split at h
      · rename_i hs
        simp only [Option.some.injEq, Prod.mk.injEq] at h
        obtain ⟨rfl, _⟩ := h
        refine ⟨_, s.size + 1, one _ rfl, .str s hu hs, ?_⟩
        rw [hb.str, Array.length_toList]
        exact Nat.le_refl _
      · cases h
    · rename_i e hu
      exact oth (by rw [hu]; trivial) _ rfl rfl
    · rename_i e a hu
      exact oth (by rw [hu]; trivial) _ rfl rfl
    · rename_i e hu
      refine ⟨[.sl 0 []], 1, ?_, ?_, hb.one d⟩
      · simp only [RepPs, RepP]
        exact ⟨_, [], rfl, fun _ => rfl, ⟨none, 0, rfl, Nat.le_refl _, Nat.zero_le _, .inl trivial⟩, rfl⟩
      · have := WT.sl (P := P) (t := t) (e := e) [] hu (Nat.zero_le _) (by simp) (by simp)
        simpa using this
    · rename_i e a len cap hu
      rw [hu] at hcont
      simp only at h hcont
      split at h
      · rename_i hcap
        obtain ⟨elems, he, h⟩ := Option.bind_eq_some_iff.1 h
        obtain ⟨rest, hr, h⟩ := Option.map_eq_some_iff.1 h
        simp only [Prod.mk.injEq] at h
        obtain ⟨rfl, _⟩ := h
        have hrow : ∀ i x, ((W.cells? 0 (a.add (i * P.cellsOf e)) (P.cellsOf e)).bind fun cs => DataW.trod enc P W 0 (fun _ => true) true fuel e cs) = some x →
            (((W.cells? 0 (a.add (i * P.cellsOf e)) (P.cellsOf e)).getD []).length = P.cellsOf e ∧ Opened P W bk e ((W.cells? 0 (a.add (i * P.cellsOf e)) (P.cellsOf e)).getD []) x.1) := by
          intro i x hx
          obtain ⟨cs, h1, h2⟩ := Option.bind_eq_some_iff.1 hx
          rw [h1]
          exact ⟨(World.cells?_some h1).2.1, ih _ _ _ x.2 hcont h2⟩
        rw [List.range_eq_range'] at he
        obtain ⟨l, h1, h2, h3, h4, h5⟩ := opened_elems hb hrow len 0 elems he
        refine ⟨[.sl len (l.map (·.2)).flatten], (l.map (·.1)).sum + 1, ?_, ?_, Nat.le_trans (Nat.succ_le_succ h5) (hb.slice _ _)⟩
        · simp only [RepPs, RepP]
          refine ⟨_, [], rfl, fun _ => rfl, ⟨some a, cap, rfl, hcap.2.1, hcap.2.2, ?_⟩, rfl⟩
          by_cases hn : (l.map (·.2)).flatten = []
          · exact .inl hn
          · right
            refine ⟨a, _, rfl, ?_, ?_, h1⟩
            · have hlen := h1.length
              cases hls : (List.range' 0 len).flatMap fun i => (W.cells? 0 (a.add (i * P.cellsOf e)) (P.cellsOf e)).getD [] with
              | nil =>
                rw [hls] at hlen
                exact absurd (List.length_eq_zero_iff.1 hlen.symm) hn
              | cons u us =>
                obtain ⟨i, o, q1, q2, q3, q4⟩ := flat_get (P.cellsOf e) (fun i => (W.cells? 0 (a.add (i * P.cellsOf e)) (P.cellsOf e)).getD []) len 0 (fun i _ hi => by
                  obtain ⟨x, hx, hm⟩ := mapM_some_mem' he i (by simpa using hi)
                  exact (hrow i x hm).1) 0 u (by rw [hls]; rfl)
                cases hcs : W.cells? 0 (a.add ((0 + i) * P.cellsOf e)) (P.cellsOf e) with
                | none => rw [hcs] at q4; simp at q4
                | some cs =>
                  have := World.cells?_block hcs (by omega)
                  rwa [add_block] at this
            · intro j u hj
              obtain ⟨i, o, q1, q2, q3, q4⟩ := flat_get (P.cellsOf e) (fun i => (W.cells? 0 (a.add (i * P.cellsOf e)) (P.cellsOf e)).getD []) len 0 (fun i _ hi => by
                obtain ⟨x, hx, hm⟩ := mapM_some_mem' he i (by simpa using hi)
                exact (hrow i x hm).1) j u hj
              cases hcs : W.cells? 0 (a.add ((0 + i) * P.cellsOf e)) (P.cellsOf e) with
              | none => rw [hcs] at q4; simp at q4
              | some cs =>
                rw [hcs] at q4
                have := (World.cells?_some hcs).2.2 o q2
                rw [add_add] at this
                rw [q3]
                simp only [Nat.zero_add] at this
                rw [this]
                exact q4
        · have hw := WT.sl (P := P) (t := t) (e := e) l hu (by omega) h3 h4
          rwa [h2] at hw
      · cases h
    · rename_i vs _ _ fs hu
      rw [hu] at hcont
      simp only at hcont
      split at h
      · rename_i hl
        obtain ⟨xs, hx, h⟩ := Option.map_eq_some_iff.1 h
        simp only [Prod.mk.injEq] at h
        obtain ⟨rfl, _⟩ := h
        obtain ⟨l, h1, h2, h3, h4, h5⟩ := opened_fields hb (W := W) (P := P) ih fs.toList 0 _ vs xs hcont.1 hcont.2 hl hx
        refine ⟨_, (l.map (·.1)).sum + 1, by simpa using h1, .st l hu h2 h3 h4, ?_⟩
        rw [hb.agg]
        omega
      · cases h
    · rename_i vs _ _ n e hu
      rw [hu] at hcont
      simp only at hcont
      split at h
      · rename_i hl
        obtain ⟨xs, hx, h⟩ := Option.map_eq_some_iff.1 h
        simp only [Prod.mk.injEq] at h
        obtain ⟨rfl, _⟩ := h
        rw [List.range_eq_range'] at hx
        have hrow : ∀ i x, (if i < n then DataW.trod enc P W 0 (fun _ => true) true fuel e ((vs.drop (i * P.cellsOf e)).take (P.cellsOf e)) else none) = some x →
            (((vs.drop (i * P.cellsOf e)).take (P.cellsOf e)).length = P.cellsOf e ∧ Opened P W bk e ((vs.drop (i * P.cellsOf e)).take (P.cellsOf e)) x.1) := by
          intro i x hx
          split at hx
          · rename_i hi
            refine ⟨?_, ih _ _ _ x.2 hcont.2 hx⟩
            have : (i + 1) * P.cellsOf e ≤ n * P.cellsOf e := Nat.mul_le_mul_right _ (by omega)
            rw [Nat.succ_mul] at this
            simp
            omega
          · cases hx
        have hx' : (List.range' 0 n).mapM (fun i => if i < n then DataW.trod enc P W 0 (fun _ => true) true fuel e ((vs.drop (i * P.cellsOf e)).take (P.cellsOf e)) else none) = some xs := by
          rw [← hx]
          exact mapM_congr' _ fun i hi => by simp at hi; simp [hi]
        obtain ⟨l, h1, h2, h3, h4, h5⟩ := opened_elems hb hrow n 0 xs hx'
        have hall : (List.range' 0 n).flatMap (fun i => (vs.drop (i * P.cellsOf e)).take (P.cellsOf e)) = vs := by
          have : ∀ m k, (List.range' k m).flatMap (fun i => (vs.drop (i * P.cellsOf e)).take (P.cellsOf e)) = (vs.drop (k * P.cellsOf e)).take (m * P.cellsOf e) := by
            intro m
            induction m with
            | zero => intro k; simp
            | succ m ihm =>
              intro k
              rw [List.range'_succ, List.flatMap_cons, ihm, Nat.succ_mul, Nat.succ_mul, Nat.add_comm (m * P.cellsOf e), List.take_add, List.drop_drop]
          rw [this n 0, ← hcont.1, ← hl]
          simp
        rw [hall] at h1
        refine ⟨_, (l.map (·.1)).sum + 1, h1, .arr l hu h2 h3 h4, ?_⟩
        rw [hb.agg]
        omega
      · cases h
    · rename_i m hu
      exact oth (by rw [hu]; trivial) _ rfl rfl
    · rename_i m u v hu
      exact oth (by rw [hu]; trivial) _ rfl rfl
    · rename_i k e hu
      exact oth (by rw [hu]; trivial) _ rfl rfl
    · rename_i k e b hu
      exact oth (by rw [hu]; trivial) _ rfl rfl
    · rename_i hu
      exact oth (by rw [hu]; trivial) _ rfl rfl
    · rename_i hu
      exact oth (by rw [hu]; trivial) _ rfl rfl
    · rename_i hu
      exact oth (by rw [hu]; trivial) _ rfl rfl
    · rename_i hu
      exact oth (by rw [hu]; trivial) _ rfl rfl
    · rename_i hu
      exact oth (by rw [hu]; trivial) _ rfl rfl
    · rename_i hu
      exact oth (by rw [hu]; trivial) _ rfl rfl
    · cases h

/-- A value of a type. -/
def WTv (P : Program) (t : TypeId) (b : Nat) (p : PV) : Prop := match P.underlying t with
  | some (.struct _) | some (.array _ _) => ∃ cs, p = .agg cs ∧ WT P t b cs
  | _ => WT P t b [p]
def WTvs (P : Program) : List TypeId → Nat → List PV → Prop
  | [], b, ps => ps = [] ∧ b = 0
  | t :: ts, b, ps => ∃ p b1 r b2, ps = p :: r ∧ b = b1 + b2 ∧ WTv P t b1 p ∧ WTvs P ts b2 r
def argB (P : Program) (t : TypeId) : Bool := decide (t < P.types.size) && P.readableRec t && match P.underlying t with
  | some .bool | some (.int _) | some .string | some (.slice _) | some (.struct _) | some (.array _ _) => true
  | _ => false

theorem open_arg (hc : Cont P) (hb : IsBulk bk bks) {t : TypeId} {v : Value} {d : DataW H} {ps : List MemPlace} {r : Reach} {base : Nat} (ht : argB P t = true) (hval : Value.okWide P W r base t v) (h : DataW.Trod enc P W 0 (fun _ => true) true t v d ps) :
    ∃ p b, RepP W (· < W.heap.size) p v ∧ WTv P t b p ∧ b ≤ bk d := by
  simp only [argB, Bool.and_eq_true, decide_eq_true_eq] at ht
  obtain ⟨⟨h1, h2⟩, h3⟩ := ht
  obtain ⟨fuel, hf⟩ := h
  obtain ⟨cs, b, k1, k2, k3⟩ := open_cells hc hb fuel t _ d ps h1 hf
  have one : v.cells = #[v] → (match P.underlying t with | some (.struct _) | some (.array _ _) => False | _ => True) → ∃ p b, RepP W (· < W.heap.size) p v ∧ WTv P t b p ∧ b ≤ bk d := by
    intro hv hn
    rw [hv] at k1
    match cs, k1, k2 with
    | [], k1, _ => simp [RepPs] at k1
    | [p], k1, k2 =>
      simp only [RepPs, List.cons.injEq] at k1
      obtain ⟨u, us, ⟨rfl, rfl⟩, _, k1, _⟩ := k1
      refine ⟨p, b, k1, ?_, k3⟩
      unfold WTv
      split
      · rename_i h; rw [h] at hn; exact hn.elim
      · rename_i h; rw [h] at hn; exact hn.elim
      · exact k2
    | p :: q :: r, k1, _ =>
      simp only [RepPs, List.cons.injEq] at k1
      obtain ⟨u, us, ⟨rfl, rfl⟩, _, k1, u2, us2, h, _⟩ := k1
      cases h
  have ag : (∃ xs, v = .agg xs) → (∃ fs, P.underlying t = some (.struct fs)) ∨ (∃ n e, P.underlying t = some (.array n e)) → ∃ p b, RepP W (· < W.heap.size) p v ∧ WTv P t b p ∧ b ≤ bk d := by
    rintro ⟨xs, rfl⟩ hn
    refine ⟨.agg cs, b, ?_, ?_, k3⟩
    · simp only [RepP]
      exact ⟨xs, rfl, by simpa [Value.cells] using k1⟩
    · unfold WTv
      rcases hn with ⟨fs, hn⟩ | ⟨n, e, hn⟩ <;> rw [hn] <;> exact ⟨cs, rfl, k2⟩
  split at h3
  · rename_i hu
    obtain ⟨_, rfl⟩ := Go.WideShapes.okWide_bool hu hval
    exact one rfl (by rw [hu]; trivial)
  · rename_i k hu
    obtain ⟨_, rfl⟩ := Go.WideShapes.okWide_int hu hval
    exact one rfl (by rw [hu]; trivial)
  · rename_i hu
    obtain ⟨_, rfl⟩ := Go.WideShapes.okWide_string hu hval
    exact one rfl (by rw [hu]; trivial)
  · rename_i e hu
    obtain ⟨_, _, _, rfl⟩ := Go.WideShapes.okWide_slice hu hval
    exact one rfl (by rw [hu]; trivial)
  · rename_i fs hu
    simp only [Value.okWide, hu] at hval
    obtain ⟨xs, hx, _⟩ := hval
    exact ag ⟨xs, hx⟩ (.inl ⟨fs, hu⟩)
  · rename_i n e hu
    simp only [Value.okWide, hu] at hval
    obtain ⟨xs, hx, _⟩ := hval
    exact ag ⟨xs, hx⟩ (.inr ⟨n, e, hu⟩)
  · cases h3

theorem open_args (hc : Cont P) (hb : IsBulk bk bks) {r : Reach} {base : Nat} : ∀ {ts : List TypeId} {vs : List Value} {ds : List (DataW H)} {ps : List MemPlace}, (∀ t ∈ ts, argB P t = true) → (∀ (j : Nat) t v, ts[j]? = some t → vs[j]? = some v → Value.okWide P W r base t v) →
    DataW.TrodAll enc P W 0 (fun _ => true) true ts vs ds ps → ∃ xs b, RepPs W (· < W.heap.size) false xs vs ∧ WTvs P ts b xs ∧ b ≤ bks ds
  | [], vs, ds, ps, _, _, h => by
    match vs, ds, h with
    | [], [], _ => exact ⟨[], 0, by simp [RepPs], by simp [WTvs], Nat.zero_le _⟩
  | t :: ts, vs, ds, ps, ht, hv, h => by
    match vs, ds, h with
    | v :: vs, d :: ds, h =>
      obtain ⟨p, q, h1, h2, _⟩ := h
      obtain ⟨x, b, k1, k2, k3⟩ := open_arg hc hb (ht t (by simp)) (hv 0 t v rfl rfl) h1
      obtain ⟨xs, b', m1, m2, m3⟩ := open_args hc hb (fun t h => ht t (by simp [h])) (fun j t v a b => hv (j + 1) t v (by simpa using a) (by simpa using b)) h2
      refine ⟨x :: xs, b + b', ?_, ⟨x, b, xs, b', rfl, rfl, k2, m2⟩, by rw [hb.cons]; omega⟩
      simp only [RepPs]
      exact ⟨v, vs, rfl, by simp, k1, m1⟩

theorem trodAll_later (hl : laidOutB P = true) {W' : World} (bel : Below W.heap.size W W') : ∀ {ts : List TypeId} {vs : List Value} {ds : List (DataW H)} {ps : List MemPlace}, (∀ t ∈ ts, argB P t = true) →
    DataW.TrodAll enc P W 0 (fun _ => true) true ts vs ds ps → DataW.TrodAll enc P W' 0 (fun b => decide (b < W.heap.size)) true ts vs ds ps
  | [], vs, ds, ps, _, h => by
    match vs, ds, h with
    | [], [], h => exact h
  | t :: ts, vs, ds, ps, ht, h => by
    match vs, ds, h with
    | v :: vs, d :: ds, h =>
      obtain ⟨p, q, h1, h2, h3⟩ := h
      have h0 := ht t (by simp)
      simp only [argB, Bool.and_eq_true, decide_eq_true_eq] at h0
      refine ⟨p, q, Below.trod hl h0.1.2 h0.1.1 h1 bel ?_, trodAll_later hl bel (fun t h => ht t (by simp [h])) h2, h3⟩
      obtain ⟨m, hm⟩ := h1
      exact DataW.trod_lt m _ _ _ hm

/-- What stands for a list of pure arguments. -/
theorem law_calls {f : FuncId} {R : Spec} (hC : Contract P f R) {xs : List PV} {vs : List Value} (h : RepPs W (· < W.heap.size) false xs vs) {b : Bool} (hR : R (xs.map .pu) [] fun r _ => r = .pu (.val (.bool b))) :
    Calls P f vs.toArray W fun e W' => e = .returned (.bool b) ∧ Below W.heap.size W W' := by
  have hlive : ∀ k, ¬ (mem [] [] (fun _ => False)).live k := by
    rintro k ⟨id, g, h⟩
    simp [mem] at h
  have hS : RepS W (([] : List VObj).map some) [] (fun _ => False) := by
    refine ⟨rfl, fun id o h => by simp at h, fun id id' k _ g g' h => by simp [mem] at h, fun k hk => hk.elim, fun k hk => (hlive k hk).elim⟩
  have himm : ∀ k, k < W.heap.size → (mem (([] : List VObj).map some) [] (fun _ => False)).imm W k := fun k hk => ⟨hk, hlive k, fun h => by simp [mem] at h⟩
  have hrep : RepAs W (mem (([] : List VObj).map some) [] (fun _ => False)) false (xs.map .pu) vs := RepAs.of_pu (RepPs.mono (fun k hk => ⟨rfl, himm k hk⟩) _ _ h)
  refine (hC.2 W [] [] (fun _ => False) vs _ _ hS hrep hR).mono fun e W' => ?_
  rintro ⟨v, β', r, τ, rfl, hst, _, hr, rfl⟩
  have := rep_val hr
  subst this
  exact ⟨rfl, hst.os, hst.tape, hst.output, hst.size, fun k hk => hst.block k hk (hlive k)⟩

theorem law_run (hl : laidOutB P = true) (hc : Cont P) (hb : IsBulk bk bks) {f : FuncId} {R : Spec} (hC : Contract P f R) {r : Reach} {base : Nat} {ts : List TypeId} {args : Array Value} {ds : List (DataW H)} {ps : List MemPlace} (ht : ts.all (argB P) = true)
    (hv : ∀ (j : Nat) t v, ts[j]? = some t → args[j]? = some v → Value.okWide P W r base t v) (hA : DataW.TrodAll enc P W 0 (fun _ => true) true ts args.toList ds ps)
    (law : ∀ xs b, WTvs P ts b xs → b ≤ bks ds → R (xs.map .pu) [] fun r _ => r = .pu (.val (.bool true))) :
    Calls P f args W fun e W' => e = .returned (.bool true) ∧ Below W.heap.size W W' ∧ DataW.TrodAll enc P W' 0 (fun b => decide (b < W.heap.size)) true ts args.toList ds ps := by
  have ht' := List.all_eq_true.1 ht
  obtain ⟨xs, b, h1, h2, h3⟩ := open_args hc hb ht' (fun j t v a b => hv j t v a (by simpa using b)) hA
  have := law_calls hC h1 (law xs b h2 h3)
  rw [show args.toList.toArray = args from by simp] at this
  exact this.mono fun e W' ⟨h, bel⟩ => ⟨h, bel, trodAll_later hl bel ht' hA⟩

end
end Go.Vm
