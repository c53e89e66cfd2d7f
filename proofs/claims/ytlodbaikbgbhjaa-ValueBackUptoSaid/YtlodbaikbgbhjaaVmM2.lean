/- Vm, part M2: a region that draws its order: what looks at nothing that another one changes may be taken first. -/
import Derived.Test.YtlodbaikbgbhjaaVmM
import Derived.Scope
set_option linter.unusedVariables false
set_option linter.unusedSimpArgs false
namespace Go.Vm
open Go Go.RowKit

/-! ### operations that look on -/
def Sub (τ σ : St) : Prop := ∀ (id : Nat) (o : VObj), τ[id]? = some (some o) → σ[id]? = some (some o)

theorem withParts_spec {env : Env} {len : Nat} : ∀ {ps : List (Nat × Nat × X)} {K : List (Nat × List AV) → Prop}, withParts env len ps K → ∃ l, K l ∧ (∀ K' : List (Nat × List AV) → Prop, withParts env len ps K' ↔ K' l)
  | [], K, h => ⟨[], h, fun K' => Iff.rfl⟩
  | (off, sz, x) :: r, K, h => by
    simp only [withParts] at h ⊢
    obtain ⟨b, hb, h⟩ := withA_some h
    simp only [hb, withA]
    unfold withC at h ⊢
    split at h
    · rename_i cs
      obtain ⟨h1, h2, h⟩ := h
      obtain ⟨l, k1, k2⟩ := withParts_spec h
      exact ⟨_, k1, fun K' => by simp only [h1, h2, true_and]; exact k2 (fun ps => K' ((off, cs) :: ps))⟩
    · rename_i cs
      obtain ⟨h1, h2, h⟩ := h
      obtain ⟨l, k1, k2⟩ := withParts_spec h
      exact ⟨_, k1, fun K' => by simp only [h1, h2, true_and]; exact k2 (fun ps => K' ((off, cs.map .pu) :: ps))⟩
    all_goals first
      | exact h.elim
      | (obtain ⟨h1, h2, h⟩ := h
         obtain ⟨l, k1, k2⟩ := withParts_spec h
         exact ⟨_, k1, fun K' => by simp only [h1, h2, true_and]; exact k2 (fun ps => K' ((off, _) :: ps))⟩)
theorem withAs_spec {env : Env} : ∀ {xs : List X} {K : List AV → Prop}, withAs env xs K → ∃ l, ∀ K' : List AV → Prop, withAs env xs K' ↔ K' l
  | [], K, h => ⟨[], fun K' => Iff.rfl⟩
  | x :: xs, K, h => by
    simp only [withAs] at h ⊢
    obtain ⟨b, hb, h⟩ := withA_some h
    obtain ⟨l, hl⟩ := withAs_spec h
    exact ⟨b :: l, fun K' => by simp only [hb, withA]; exact hl _⟩
theorem bnd_spec {env : Env} {x : Option X} {d : Int} {K : Int → Prop} (h : bnd env x d K) : ∃ i, K i ∧ ∀ K' : Int → Prop, bnd env x d K' ↔ K' i := by
  cases x with
  | none => exact ⟨d, h, fun _ => Iff.rfl⟩
  | some x =>
    simp only [bnd] at h ⊢
    obtain ⟨k, n, h1, h2⟩ := withI_some h
    exact ⟨n, h2, fun K' => by simp only [h1, withI]⟩
theorem mkV_spec {ag : Bool} {cs : List AV} {K : AV → Prop} (h : mkV ag cs K) : ∃ a, ∀ K' : AV → Prop, mkV ag cs K' ↔ K' a := by
  unfold mkV at h ⊢
  cases ag with
  | true => exact ⟨mkAgg cs, fun K' => by simp⟩
  | false =>
    match cs, h with
    | [a], _ => exact ⟨a, fun K' => by simp⟩
theorem binI_spec {op : BinOp} {k : IntKind} {x y : Int} {K : AV → Prop} (h : binI op k x y K) : ∃ r, ∀ K' : AV → Prop, binI op k x y K' ↔ K' r := by
  cases op <;> first
    | exact h.elim
    | exact ⟨_, fun K' => Iff.rfl⟩
    | exact ⟨_, fun K' => ⟨fun q => q.2, fun q => ⟨h.1, q⟩⟩⟩
theorem binS_spec {op : BinOp} {x y : ByteArray} {K : AV → Prop} (h : binS op x y K) : ∃ r, ∀ K' : AV → Prop, binS op x y K' ↔ K' r := by
  cases op <;> first
    | exact h.elim
    | exact ⟨_, fun K' => Iff.rfl⟩
    | exact ⟨_, fun K' => ⟨fun q => q.2, fun q => ⟨h.1, q⟩⟩⟩
theorem binQ_spec {op : BinOp} {x y : AV} {K : AV → Prop} (h : binQ op x y K) : ∃ r, ∀ K' : AV → Prop, binQ op x y K' ↔ K' r := by
  unfold binQ at h ⊢
  split at h
  · split at h
    · exact ⟨_, fun K' => ⟨fun q => q.2, fun q => ⟨h.1, q⟩⟩⟩
    · exact ⟨_, fun K' => ⟨fun q => q.2, fun q => ⟨h.1, q⟩⟩⟩
    · obtain ⟨h1, h2⟩ := h
      obtain ⟨r, hr⟩ := binI_spec h2
      exact ⟨r, fun K' => ⟨fun q => (hr K').1 q.2, fun q => ⟨h1, (hr K').2 q⟩⟩⟩
  · obtain ⟨r, hr⟩ := binS_spec h
    exact ⟨r, hr⟩
  · obtain ⟨h1, h2⟩ := h
    unfold binF at h2 ⊢
    split at h2
    · exact ⟨_, fun K' => ⟨fun q => q.2, fun q => ⟨h1, q⟩⟩⟩
    · exact ⟨_, fun K' => ⟨fun q => q.2, fun q => ⟨h1, q⟩⟩⟩
    · exact ⟨_, fun K' => ⟨fun q => q.2, fun q => ⟨h1, q⟩⟩⟩
    · exact ⟨_, fun K' => ⟨fun q => q.2, fun q => ⟨h1, q⟩⟩⟩
    · exact h2.elim
  · exact h.elim
theorem unQ_spec {op : UnOp} {x : AV} {K : AV → Prop} (h : unQ op x K) : ∃ r, ∀ K' : AV → Prop, unQ op x K' ↔ K' r := by
  unfold unQ at h ⊢
  split at h
  · exact ⟨_, fun K' => Iff.rfl⟩
  · exact ⟨_, fun K' => Iff.rfl⟩
  · exact ⟨_, fun K' => Iff.rfl⟩
  · exact h.elim
theorem withCells_spec {τ : St} {sz : Nat} {a : AV} {K : Nat → List PV → Prop} (h : withCells τ sz a K) : ∃ n cs, K n cs ∧ ∀ σ', Sub τ σ' → ∀ K' : Nat → List PV → Prop, withCells σ' sz a K' ↔ K' n cs := by
  unfold withCells at h ⊢
  split at h
  · exact ⟨_, _, h.2, fun σ' _ K' => ⟨fun q => q.2, fun q => ⟨h.1, q⟩⟩⟩
  · exact ⟨_, _, h, fun σ' _ K' => Iff.rfl⟩
  · obtain ⟨h1, h2⟩ := h
    obtain ⟨o, ho, hg, ps, k1, k2, k3⟩ := withO_some h2
    refine ⟨_, _, k3, fun σ' hs K' => ?_⟩
    simp only [withO, hs _ _ ho, h1, hg, true_and]
    constructor
    · rintro ⟨qs, q1, q2, q3⟩
      rw [k1] at q1
      cases q1
      exact q3
    · intro q
      exact ⟨ps, k1, k2, q⟩
  · exact h.elim
theorem withO_sub {τ σ' : St} (hs : Sub τ σ') {id g : Nat} {K : VObj → Prop} (h : withO τ id g K) : ∃ o, K o ∧ ∀ K' : VObj → Prop, withO σ' id g K' ↔ K' o := by
  obtain ⟨o, ho, hg, k⟩ := withO_some h
  exact ⟨o, k, fun K' => by simp only [withO, hs _ _ ho, hg, true_and]⟩
theorem withO_sub' {τ : St} {id g : Nat} {K : VObj → Prop} (h : withO τ id g K) : ∃ o, K o ∧ ∀ σ', Sub τ σ' → ∀ K' : VObj → Prop, withO σ' id g K' ↔ K' o := by
  obtain ⟨o, ho, hg, k⟩ := withO_some h
  exact ⟨o, k, fun σ' hs K' => by simp only [withO, hs _ _ ho, hg, true_and]⟩
theorem and_iff_of {A B C : Prop} (a : A) (h : B ↔ C) : (A ∧ B) ↔ C := ⟨fun q => h.1 q.2, fun q => ⟨a, h.2 q⟩⟩

set_option maxHeartbeats 1000000 in
/-- What an operation that looks on comes to: one value, wherever what it looks at stands. -/
theorem only_of {env : Env} {τ : St} {Q : AV → St → Prop} {op : VOp} (hb : (plainB op || looksB op) = true) (h : vop env τ Q op) :
    ∃ a, ∀ σ', Sub τ σ' → ∀ K : AV → St → Prop, vop env σ' K op ↔ K a σ' := by
  cases op <;> simp only [plainB, looksB, Bool.or_self, Bool.false_eq_true] at hb <;> clear hb <;> simp only [vop] at h ⊢
  case mv x =>
    obtain ⟨b, hb, h⟩ := withA_some h
    exact ⟨b, fun σ' _ K => by simp only [hb, withA]⟩
  case pick c x y =>
    split at h
    · rename_i t ht
      cases t with
      | true =>
        have h : withA (opnd env x) fun a => Q a τ := by cases h; assumption
        obtain ⟨b, hb, h⟩ := withA_some h
        exact ⟨b, fun σ' _ K => by simp only [hb, withA]; exact ⟨fun q => by cases q; assumption, fun q => .tt q⟩⟩
      | false =>
        have h : withA (opnd env y) fun a => Q a τ := by cases h; assumption
        obtain ⟨b, hb, h⟩ := withA_some h
        exact ⟨b, fun σ' _ K => by simp only [hb, withA]; exact ⟨fun q => by cases q; assumption, fun q => .ff q⟩⟩
    · exact h.elim
  case build z parts =>
    obtain ⟨l, _, hl⟩ := withParts_spec h
    exact ⟨_, fun σ' _ K => hl _⟩
  case load ag sz x =>
    split at h
    · rename_i cs _
      obtain ⟨h1, h⟩ := h
      cases ag with
      | true => exact ⟨_, fun σ' _ K => and_iff_of h1 (by simp only [if_true]; exact Iff.rfl)⟩
      | false =>
        simp only [Bool.false_eq_true, if_false] at h ⊢
        match cs, h1, h with
        | c :: cs, h1, _ => exact ⟨_, fun σ' _ K => and_iff_of h1 Iff.rfl⟩
    · obtain ⟨o, ⟨h1, h2⟩, ho⟩ := withO_sub' h
      obtain ⟨a, ha⟩ := mkV_spec h2
      exact ⟨a, fun σ' hs K => (ho σ' hs _).trans (and_iff_of h1 (ha _))⟩
    · exact h.elim
  case nilck x =>
    split at h
    · obtain ⟨o, _, ho⟩ := withO_sub' h
      exact ⟨_, fun σ' hs K => ho σ' hs _⟩
    · exact ⟨_, fun σ' hs K => Iff.rfl⟩
    · exact h.elim
  case bin op x y =>
    obtain ⟨a, ha, h⟩ := withA_some h
    obtain ⟨b, hb, h⟩ := withA_some h
    obtain ⟨r, hr⟩ := binQ_spec h
    exact ⟨r, fun σ' _ K => by simp only [ha, hb, withA]; exact hr _⟩
  case beq neg x y =>
    split at h
    · cases neg <;> exact ⟨_, fun σ' _ K => Iff.rfl⟩
    · exact h.elim
  case eqs neg n x y =>
    obtain ⟨a, ha, h⟩ := withA_some h
    obtain ⟨b, hb, h⟩ := withA_some h
    simp only [ha, hb, withA]
    split at h
    · split at h
      · cases neg <;> exact ⟨_, fun σ' _ K => Iff.rfl⟩
      · exact h.elim
    · exact h.elim
  case un op x =>
    obtain ⟨a, ha, h⟩ := withA_some h
    obtain ⟨r, hr⟩ := unQ_spec h
    exact ⟨r, fun σ' _ K => by simp only [ha, withA]; exact hr _⟩
  case cvInt k x =>
    obtain ⟨k', n, h1, h⟩ := withI_some h
    exact ⟨_, fun σ' _ K => by simp only [h1, withI]; exact Iff.rfl⟩
  case cvStr x =>
    split at h
    · exact ⟨_, fun σ' _ K => Iff.rfl⟩
    · exact h.elim
  case toStr x =>
    obtain ⟨a, ha, h⟩ := withA_some h
    obtain ⟨n, cs, ⟨xs, h1, h2⟩, hc⟩ := withCells_spec h
    refine ⟨.val (.string (strOf xs)), fun σ' hs K => ?_⟩
    simp only [ha, withA]
    refine (hc σ' hs _).trans ⟨?_, fun q => ⟨xs, h1, q⟩⟩
    rintro ⟨ys, k1, k2⟩
    rw [h1] at k1
    cases k1
    exact k2
  case mkIfc t x =>
    split at h
    · exact ⟨_, fun σ' _ K => Iff.rfl⟩
    · exact ⟨_, fun σ' _ K => Iff.rfl⟩
    · exact h.elim
  case mkFn f fi ca =>
    obtain ⟨l1, h1⟩ := withAs_spec h
    have h := (h1 _).1 h
    obtain ⟨l2, h2⟩ := withAs_spec h
    have h := (h2 _).1 h
    split at h
    · rename_i p q hp hq
      exact ⟨_, fun σ' _ K => (h1 _).trans ((h2 _).trans (by rw [hp, hq]))⟩
    · rename_i hno
      refine ⟨.fn f l1 l2, fun σ' _ K => (h1 _).trans ((h2 _).trans ?_)⟩
      split
      · rename_i p q hp hq
        exact (hno p q hp hq).elim
      · exact Iff.rfl
  case cutS x lo hi =>
    split at h
    · obtain ⟨l, h, hl⟩ := bnd_spec h
      obtain ⟨m, ⟨h1, h2, h3, h4⟩, hm⟩ := bnd_spec h
      exact ⟨_, fun σ' _ K => (hl _).trans ((hm _).trans (and_iff_of h1 (and_iff_of h2 (and_iff_of h3 Iff.rfl))))⟩
    · exact h.elim
  case cut sz x lo hi mx =>
    split at h
    · obtain ⟨l, h, hl⟩ := bnd_spec h
      obtain ⟨m, h, hm⟩ := bnd_spec h
      obtain ⟨k, ⟨h1, h2, h3, h4, h5, h6⟩, hk⟩ := bnd_spec h
      exact ⟨_, fun σ' _ K => (hl _).trans ((hm _).trans ((hk _).trans (and_iff_of h1 (and_iff_of h2 (and_iff_of h3 (and_iff_of h4 (and_iff_of h5 Iff.rfl)))))))⟩
    · rename_i id g off n s _
      obtain ⟨h1, h2, h3, h⟩ := h
      obtain ⟨o, h, ho⟩ := withO_sub' h
      obtain ⟨l, h, hl⟩ := bnd_spec h
      obtain ⟨m, ⟨k1, k2, k3, h⟩, hm⟩ := bnd_spec h
      have fin : ∃ a : AV, ∀ (σ' : St) (K : AV → St → Prop), Br (K (.own id g off m.toNat sz) σ') (Br (K (.own id g (off + l.toNat * sz) (m.toNat - l.toNat) sz) σ') (K (.pu (.sl 0 [])) σ') (decide (l < m))) (decide (l = 0)) ↔ K a σ' := by
        by_cases e : l = 0
        · exact ⟨_, fun σ' K => by rw [br_dec, if_pos e]⟩
        · by_cases e' : l < m
          · exact ⟨_, fun σ' K => by rw [br_dec, if_neg e, br_dec, if_pos e']⟩
          · exact ⟨_, fun σ' K => by rw [br_dec, if_neg e, br_dec, if_neg e']⟩
      obtain ⟨a, ha⟩ := fin
      exact ⟨a, fun σ' hs K => and_iff_of h1 (and_iff_of h2 (and_iff_of h3 ((ho σ' hs _).trans ((hl _).trans ((hm _).trans (and_iff_of k1 (and_iff_of k2 (and_iff_of k3 (ha σ' K)))))))))⟩
    · exact h.elim
  case fld off x =>
    split at h
    · obtain ⟨o, _, ho⟩ := withO_sub' h
      exact ⟨_, fun σ' hs K => ho σ' hs _⟩
    · exact ⟨_, fun σ' hs K => and_iff_of h.1 Iff.rfl⟩
    · exact h.elim
  case getf ag off sz x =>
    split at h
    · obtain ⟨a, ha⟩ := mkV_spec h.2
      exact ⟨a, fun σ' _ K => and_iff_of h.1 (ha _)⟩
    · rename_i ps _
      obtain ⟨h1, h⟩ := h
      cases ag with
      | true => exact ⟨_, fun σ' _ K => and_iff_of h1 (by simp only [if_true]; exact Iff.rfl)⟩
      | false =>
        simp only [Bool.false_eq_true, if_false] at h ⊢
        split at h
        · rename_i p _ hp
          exact ⟨_, fun σ' _ K => and_iff_of h1 Iff.rfl⟩
        · exact h.elim
    · exact h.elim
  case idx sz x i =>
    obtain ⟨k, n, hi, h⟩ := withI_some h
    simp only [hi, withI]
    split at h
    · obtain ⟨h1, h2, h3, h4, h⟩ := h
      exact ⟨_, fun σ' _ K => and_iff_of h1 (and_iff_of h2 (and_iff_of h3 (and_iff_of h4 Iff.rfl)))⟩
    · obtain ⟨h1, h⟩ := h
      obtain ⟨o, ⟨h2, h3, h4⟩, ho⟩ := withO_sub' h
      exact ⟨_, fun σ' hs K => and_iff_of h1 ((ho σ' hs _).trans (and_iff_of h2 (and_iff_of h3 Iff.rfl)))⟩
    · exact h.elim
  case idxA len sz x i =>
    obtain ⟨k, n, hi, h⟩ := withI_some h
    simp only [hi, withI]
    split at h
    · obtain ⟨o, ⟨h2, h3, h4⟩, ho⟩ := withO_sub' h
      exact ⟨_, fun σ' hs K => (ho σ' hs _).trans (and_iff_of h2 (and_iff_of h3 Iff.rfl))⟩
    · obtain ⟨h1, h2, h3, h⟩ := h
      exact ⟨_, fun σ' _ K => and_iff_of h1 (and_iff_of h2 (and_iff_of h3 Iff.rfl))⟩
    · exact h.elim
  case chr x i =>
    obtain ⟨k, n, hi, h⟩ := withI_some h
    simp only [hi, withI]
    split at h
    · exact ⟨_, fun σ' _ K => and_iff_of h.1 (and_iff_of h.2.1 Iff.rfl)⟩
    · exact h.elim
  case extract x i =>
    split at h
    · obtain ⟨b, hb, h⟩ := withA_some h
      exact ⟨b, fun σ' _ K => by simp only [hb, withA]⟩
    · split at h
      · rename_i p hp
        exact ⟨_, fun σ' _ K => Iff.rfl⟩
      · exact h.elim
    · exact h.elim
  case len x =>
    split at h
    · exact ⟨_, fun σ' _ K => Iff.rfl⟩
    · exact ⟨_, fun σ' _ K => Iff.rfl⟩
    · obtain ⟨o, _, ho⟩ := withO_sub' h
      exact ⟨_, fun σ' hs K => ho σ' hs _⟩
    · exact h.elim
  case lenS x =>
    split at h
    · exact ⟨_, fun σ' _ K => Iff.rfl⟩
    · exact h.elim
  case mm mx x y =>
    split at h
    · cases mx <;> exact ⟨_, fun σ' _ K => Iff.rfl⟩
    · exact h.elim

/-! ### whatever order -/
section
variable {Γ : FuncId → Spec} {N : Nat} {ops : Array Oper} {vos : List VO} {E : Env} {K : Env → St → Prop}

/-- One operation, whatever comes of it; some objects stay. -/
def stepQ (Γ : FuncId → Spec) (env : Env) (σ : St) (vo : VO) (L : List Nat) (C : Env → St → Prop) : Prop :=
  guardQ env vo.g (∃ Q0, vop1 Γ (restrict env (uses vo.op)) σ Q0 vo.op ∧ ∀ a σ', Q0 a σ' → keepL σ σ' L ∧ C (putd env vo.d a) σ') (C (putd env vo.d noV) σ)
/-- Whatever order is picked. -/
def dOk (N : Nat) (vo : VO) : Prop := ∀ d, vo.d = some d → d < N
def dstT (N : Nat) : DT → Bool
  | .done => true
  | .op _ _ ⟨some d, _, _⟩ r => decide (d < N) && dstT N r
  | .op _ _ ⟨none, _, _⟩ r => dstT N r
  | .both a b => dstT N a && dstT N b
theorem dstT_op {N : Nat} {b : Bool} {ts : List Nat} {vo : VO} {r : DT} (h : dstT N (.op b ts vo r) = true) : dOk N vo ∧ dstT N r = true := by
  obtain ⟨d, g, op⟩ := vo
  cases d with
  | none =>
    refine ⟨fun d hd => ?_, by simpa only [dstT] using h⟩
    cases hd
  | some d =>
    simp only [dstT, Bool.and_eq_true, decide_eq_true_eq] at h
    refine ⟨fun d' hd => ?_, h.2⟩
    cases hd
    exact h.1
/-- Whatever order is picked. -/
def anyQ (Γ : FuncId → Spec) (N : Nat) (ops : Array Oper) (vos : List VO) (E : Env) (K : Env → St → Prop) : Nat → Array Bool → Env → St → Prop
  | 0, listed, env, σ => Region.ready .any ops listed = [] ∧ K env σ
  | n + 1, listed, env, σ => (Region.ready .any ops listed = [] → K env σ) ∧
    ∀ i ∈ Region.ready .any ops listed, ∃ vo : VO, vos[i]? = some ⟨vo.d, vo.g, stripOp vo.op⟩ ∧ dOk N vo ∧ stepQ Γ env σ vo (watch E (keepsOf ops vos i)) (anyQ Γ N ops vos E K n (listed.setIfInBounds i true))

theorem get_putd' {env : Env} {d : Option Nat} {x : AV} {t : Nat} : get (putd env d x) t = if d = some t then some x else get env t := by
  cases d with
  | none => simp [putd]
  | some d => simp only [putd, get_put, Option.some.injEq]
theorem restrict_congr {env env' : Env} : ∀ (l : List Nat), (∀ t ∈ l, get env t = get env' t) → restrict env l = restrict env' l
  | [], _ => rfl
  | t :: l, h => by
    simp only [restrict]
    rw [h t (by simp), restrict_congr l (fun t ht => h t (by simp [ht]))]
theorem guardQ_congr {env env' : Env} {g : Option (Nat × Bool)} {A B : Prop} (h : ∀ t ∈ guardT g, get env t = get env' t) : guardQ env g A B = guardQ env' g A B := by
  match g, h with
  | none, _ => rfl
  | some (s, true), h => simp only [guardQ]; rw [h s (by simp [guardT])]
  | some (s, false), h => simp only [guardQ]; rw [h s (by simp [guardT])]
theorem guardQ_mono {env : Env} {g : Option (Nat × Bool)} {A B A' B' : Prop} (hA : A → A') (hB : B → B') (h : guardQ env g A B) : guardQ env g A' B' := by
  match g, h with
  | none, h => exact hA h
  | some (s, true), h =>
    simp only [guardQ] at h ⊢
    split at h
    · rw [br_eq] at *; split at h <;> rename_i e <;> simp only [e, Bool.false_eq_true, if_true, if_false] <;> first | exact hA h | exact hB h
    · exact hB h
    · exact h.elim
  | some (s, false), h =>
    simp only [guardQ] at h ⊢
    split at h
    · rw [br_eq] at *; split at h <;> rename_i e <;> simp only [e, Bool.false_eq_true, if_true, if_false] <;> first | exact hA h | exact hB h
    · exact hB h
    · exact h.elim
theorem guardQ_both {env : Env} {g : Option (Nat × Bool)} {A B A' B' : Prop} (h : guardQ env g A B) (h' : guardQ env g A' B') : guardQ env g (A ∧ A') (B ∧ B') := by
  match g, h, h' with
  | none, h, h' => exact ⟨h, h'⟩
  | some (s, true), h, h' =>
    simp only [guardQ] at h h' ⊢
    split at h
    · rename_i b hb
      simp only [hb] at h'
      cases b
      · cases h; cases h'; exact .ff ⟨by assumption, by assumption⟩
      · cases h; cases h'; exact .tt ⟨by assumption, by assumption⟩
    · rename_i u hu
      simp only [hu] at h'
      exact ⟨h, h'⟩
    · exact h.elim
  | some (s, false), h, h' =>
    simp only [guardQ] at h h' ⊢
    split at h
    · rename_i b hb
      simp only [hb] at h'
      cases b
      · cases h; cases h'; exact .ff ⟨by assumption, by assumption⟩
      · cases h; cases h'; exact .tt ⟨by assumption, by assumption⟩
    · rename_i u hu
      simp only [hu] at h'
      exact ⟨h, h'⟩
    · exact h.elim

def Same (env env' : Env) : Prop := ∀ t, get env t = get env' t
theorem Same.putd {env env' : Env} (h : Same env env') (d : Option Nat) (a : AV) : Same (putd env d a) (putd env' d a) := fun t => by rw [get_putd', get_putd', h t]
theorem stepQ_congr {env env' : Env} {σ : St} {vo : VO} {L : List Nat} {C : Env → St → Prop} (hC : ∀ e e' s, Same e e' → C e s → C e' s) (hs : Same env env') (h : stepQ Γ env σ vo L C) : stepQ Γ env' σ vo L C := by
  unfold stepQ at *
  rw [← guardQ_congr (fun t _ => hs t), ← restrict_congr _ (fun t _ => hs t)]
  refine guardQ_mono ?_ (hC _ _ _ (hs.putd _ _)) h
  rintro ⟨Q0, h1, h2⟩
  exact ⟨Q0, h1, fun a σ' hq => ⟨(h2 a σ' hq).1, hC _ _ _ (hs.putd _ _) (h2 a σ' hq).2⟩⟩
theorem anyQ_congr (hK : ∀ e e' s, Same e e' → K e s → K e' s) : ∀ (n : Nat) (listed : Array Bool) (env env' : Env) (σ : St), Same env env' → anyQ Γ N ops vos E K n listed env σ → anyQ Γ N ops vos E K n listed env' σ
  | 0, listed, env, env', σ, hs, h => ⟨h.1, hK _ _ _ hs h.2⟩
  | n + 1, listed, env, env', σ, hs, h => by
    refine ⟨fun hr => hK _ _ _ hs (h.1 hr), fun i hi => ?_⟩
    obtain ⟨vo, h1, hd, h2⟩ := h.2 i hi
    exact ⟨vo, h1, hd, stepQ_congr (fun e e' s => anyQ_congr hK n _ e e' s) hs h2⟩

/-- What an operation that looks on has, as long as some objects stay. -/
def Gives (L : List Nat) (vo : VO) (a : AV) (env : Env) (σ : St) : Prop :=
  guardQ env vo.g (∀ σ', keepL σ σ' L → vop (restrict env (uses vo.op)) σ' (fun a' s => a' = a ∧ s = σ') vo.op) (a = noV)
theorem keepL_iff {σ σ' : St} : ∀ {L : List Nat}, keepL σ σ' L ↔ ∀ id ∈ L, σ'[id]? = σ[id]?
  | [] => by simp [keepL]
  | x :: L => by simp [keepL, keepL_iff]
theorem Gives.later {L : List Nat} {vo : VO} {a : AV} {env env' : Env} {σ σ1 : St} (h : Gives L vo a env σ) (hs : ∀ t ∈ uses vo.op ++ guardT vo.g, get env t = get env' t) (hk : keepL σ σ1 L) : Gives L vo a env' σ1 := by
  unfold Gives at *
  rw [← guardQ_congr (fun t ht => hs t (by simp [ht])), ← restrict_congr _ (fun t ht => hs t (by simp [ht]))]
  refine guardQ_mono (fun h σ' hk' => h σ' ?_) id h
  rw [keepL_iff] at *
  intro id hid
  rw [hk' id hid, hk id hid]
theorem Gives.step {L L' : List Nat} {vo : VO} {a : AV} {env : Env} {σ : St} {C : Env → St → Prop} (hl : (plainB vo.op || looksB vo.op) = true) (h : Gives L vo a env σ) (hC : C (putd env vo.d a) σ) : stepQ Γ env σ vo L' C := by
  unfold Gives at h
  unfold stepQ
  refine guardQ_mono (fun h => ?_) (fun e => by rw [← e]; exact hC) h
  refine ⟨fun a' s => a' = a ∧ s = σ, ?_, ?_⟩
  · have := h σ (keepL_iff.2 fun _ _ => rfl)
    obtain ⟨d, g, op⟩ := vo
    cases op <;> first | exact this | simp [plainB, looksB] at hl
  · rintro a' σ' ⟨rfl, rfl⟩
    exact ⟨keepL_iff.2 fun _ _ => rfl, hC⟩

theorem set_comm {listed : Array Bool} {i j : Nat} : (listed.setIfInBounds i true).setIfInBounds j true = (listed.setIfInBounds j true).setIfInBounds i true := by
  by_cases h : i = j
  · subst h; rfl
  · exact Array.setIfInBounds_comm _ _ h

theorem uses_strip (op : VOp) : uses (stripOp op) = uses op := by cases op <;> rfl
theorem apartV_spec {vi vj : VO} (h : apartV vi vj = true) : (∀ d, vi.d = some d → d ∉ uses vj.op ++ guardT vj.g) ∧ (∀ d, vi.d = some d → vj.d ≠ some d) ∧ (∀ e, vj.d = some e → e ∉ uses vi.op ++ guardT vi.g) := by
  unfold apartV at h
  split at h
  · rename_i d hd
    simp only [Bool.and_eq_true, Bool.not_eq_true', List.contains_eq_mem, decide_eq_false_iff_not, beq_eq_false_iff_ne] at h
    refine ⟨fun d' hd' => ?_, fun d' hd' => ?_, fun e he => ?_⟩
    · rw [hd] at hd'; cases hd'; exact h.1.1
    · rw [hd] at hd'; cases hd'; exact h.1.2
    · have := h.2
      rw [he] at this
      simpa using this
  · rename_i hd
    refine ⟨fun d' hd' => (by rw [hd] at hd'; cases hd'), fun d' hd' => (by rw [hd] at hd'; cases hd'), fun e he => ?_⟩
    rw [he] at h
    simpa using h

/-- What looks on, and may come up, may be taken first. -/
theorem anyQ_first (hK : ∀ e e' s, Same e e' → K e s → K e' s) {i : Nat} {vo : VO} {a : AV} {L : List Nat} (hi : vos[i]? = some ⟨vo.d, vo.g, stripOp vo.op⟩) (hdo : dOk N vo) (hl : (plainB vo.op || looksB vo.op) = true) :
    ∀ (n : Nat) (listed : Array Bool) (env : Env) (σ : St),
      (∀ j vj, vos[j]? = some vj → j ≠ i → listed.getD j true = false → afterB ops j i = false → afterB ops i j = false → apartV vo vj = true ∧ ∀ id ∈ L, id ∈ watch E (keepsOf ops vos j)) →
      i ∈ Region.ready .any ops listed → Gives L vo a env σ →
      anyQ Γ N ops vos E K n (listed.setIfInBounds i true) (putd env vo.d a) σ → anyQ Γ N ops vos E K (n + 1) listed env σ := by
  intro n
  induction n with
  | zero =>
    intro listed env σ _ hr hg H
    refine ⟨fun h => (by rw [h] at hr; cases hr), fun j hj => ?_⟩
    by_cases hji : j = i
    · subst hji; exact ⟨vo, hi, hdo, hg.step hl H⟩
    · have := ready_mono hj hji
      rw [H.1] at this
      cases this
  | succ n ih =>
    intro listed env σ hfree hr hg H
    refine ⟨fun h => (by rw [h] at hr; cases hr), fun j hj => ?_⟩
    by_cases hji : j = i
    · subst hji; exact ⟨vo, hi, hdo, hg.step hl H⟩
    · obtain ⟨vj, hvj, hdj, h1⟩ := H.2 j (ready_mono hj hji)
      obtain ⟨hjun, oj, hoj, hall⟩ := mem_ready.1 hj
      obtain ⟨hiun, oi, hoi, hall'⟩ := mem_ready.1 hr
      have no : ∀ {k l : Nat} {ok : Oper}, ops[k]? = some ok → (∀ e ∈ ok.after, Region.binds .any e = true → listed.getD e.on false = true) → listed.getD l true = false → afterB ops k l = false := by
        intro k l ok hok hall hun
        unfold afterB
        rw [hok]
        simp only [Array.any_eq_false', Bool.and_eq_true, beq_iff_eq, not_and]
        intro e he hb hon
        have h1 := hall e he hb
        rw [hon] at h1
        rcases Nat.lt_or_ge l listed.size with h' | h'
        · simp [h'] at hun h1; rw [hun] at h1; cases h1
        · simp [Array.getElem?_eq_none h'] at h1
      obtain ⟨hap, hL⟩ := hfree j _ hvj hji hjun (no hoj hall hiun) (no hoi hall' hjun)
      obtain ⟨a1, a2, a3⟩ := apartV_spec hap
      simp only [uses_strip] at a1
      refine ⟨vj, hvj, hdj, ?_⟩
      have sameU : ∀ t ∈ uses vj.op ++ guardT vj.g, get (putd env vo.d a) t = get env t := fun t ht => by
        rw [get_putd', if_neg (fun e => a1 t e ht)]
      have hfree' : ∀ k vk, vos[k]? = some vk → k ≠ i → (listed.setIfInBounds j true).getD k true = false → afterB ops k i = false → afterB ops i k = false → apartV vo vk = true ∧ ∀ id ∈ L, id ∈ watch E (keepsOf ops vos k) := by
        intro k vk hvk hki hun
        refine hfree k vk hvk hki ?_
        by_cases hjk : j = k
        · subst hjk; exact hjun
        · rw [getD_set_ne true hjk] at hun; exact hun
      have next : ∀ b σ', keepL σ σ' (watch E (keepsOf ops vos j)) → anyQ Γ N ops vos E K n ((listed.setIfInBounds i true).setIfInBounds j true) (putd (putd env vo.d a) vj.d b) σ' → anyQ Γ N ops vos E K (n + 1) (listed.setIfInBounds j true) (putd env vj.d b) σ' := by
        intro b σ' hk h2
        refine ih _ _ _ hfree' (ready_mono hr (Ne.symm hji)) ?_ ?_
        · refine hg.later (fun t ht => ?_) (keepL_iff.2 fun id hid => keepL_iff.1 hk id (hL id hid))
          rw [get_putd', if_neg (fun e => a3 t e ht)]
        · rw [← set_comm]
          refine anyQ_congr hK _ _ _ _ _ (fun t => ?_) h2
          simp only [get_putd']
          by_cases e1 : vj.d = some t
          · rw [if_pos e1]
            by_cases e2 : vo.d = some t
            · exact absurd e1 (a2 t e2)
            · rw [if_neg e2, if_pos e1]
          · rw [if_neg e1]
            by_cases e2 : vo.d = some t
            · rw [if_pos e2, if_pos e2]
            · rw [if_neg e2, if_neg e2, if_neg e1]
      unfold stepQ at h1 ⊢
      rw [guardQ_congr (fun t ht => sameU t (by simp [ht])), restrict_congr _ (fun t ht => sameU t (by simp [ht]))] at h1
      refine guardQ_mono ?_ (next _ _ (keepL_iff.2 fun _ _ => rfl)) h1
      rintro ⟨Q0, q1, q2⟩
      exact ⟨Q0, q1, fun b σ' hb => ⟨(q2 b σ' hb).1, next b σ' (q2 b σ' hb).1 (q2 b σ' hb).2⟩⟩

theorem guardQ_or {env : Env} {g : Option (Nat × Bool)} {A B : Prop} (h : guardQ env g A B) : (A ∧ ∀ A' B' : Prop, A' → guardQ env g A' B') ∨ (B ∧ ∀ A' B' : Prop, B' → guardQ env g A' B') := by
  match g, h with
  | none, h => exact .inl ⟨h, fun A' B' a => a⟩
  | some (s, true), h =>
    simp only [guardQ] at h ⊢
    split at h
    · rename_i b hb
      cases h with
      | tt h => exact .inl ⟨h, fun A' B' a => .tt a⟩
      | ff h => exact .inr ⟨h, fun A' B' a => .ff a⟩
    · exact .inr ⟨h, fun A' B' a => a⟩
    · exact h.elim
  | some (s, false), h =>
    simp only [guardQ] at h ⊢
    split at h
    · rename_i b hb
      cases h with
      | tt h => exact .inr ⟨h, fun A' B' a => .tt a⟩
      | ff h => exact .inl ⟨h, fun A' B' a => .ff a⟩
    · exact .inr ⟨h, fun A' B' a => a⟩
    · exact h.elim

theorem maskG_get {L : List Nat} : ∀ {σ : St} {k j : Nat} {o : VObj}, (maskG L k σ)[j]? = some (some o) → L.contains (k + j) = true ∧ σ[j]? = some (some o)
  | [], k, j, o, h => by simp [maskG] at h
  | x :: r, k, 0, o, h => by
    simp only [maskG, List.getElem?_cons_zero, Option.some.injEq] at h
    split at h
    · rename_i hc
      exact ⟨hc, by simp [h]⟩
    · cases h
  | x :: r, k, j + 1, o, h => by
    simp only [maskG, List.getElem?_cons_succ] at h
    obtain ⟨h1, h2⟩ := maskG_get h
    exact ⟨by rw [← h1]; congr 1; omega, by simpa using h2⟩
theorem mask_sub {L : List Nat} {σ σ' : St} (h : keepL σ σ' L) : Sub (maskG L 0 σ) σ' := fun id o ho => by
  obtain ⟨h1, h2⟩ := maskG_get ho
  rw [keepL_iff.1 h id (by simpa using h1)]
  exact h2
theorem mem_watch {id : Nat} : ∀ {l : List Nat}, id ∈ watch E l ↔ ∃ t ∈ l, ∃ a, get E t = some a ∧ id ∈ ids a
  | [] => by simp [watch]
  | t :: l => by
    simp only [watch, List.mem_append, mem_watch, List.mem_cons, exists_eq_or_imp]
    constructor
    · rintro (h | h)
      · left
        split at h
        · rename_i a ha
          exact ⟨a, ha, h⟩
        · simp at h
      · exact .inr h
    · rintro (⟨a, ha, h⟩ | h)
      · left
        simp only [ha]
        exact h
      · exact .inr h

theorem planAll_spec {f : Nat → Option DT} {env : Env} {σ : St} : ∀ {rs : List Nat} {t t' : DT}, plan.planAll f rs = some (stripT t) → drawQ Γ E t env σ K → dstT N t = true → ∀ i ∈ rs, ∃ ti, f i = some (stripT ti) ∧ drawQ Γ E ti env σ K ∧ dstT N ti = true
  | [], t, t', h, _, _, i, hi => by simp at hi
  | [j], t, t', h, hd, hN, i, hi => by
    simp only [plan.planAll] at h
    simp only [List.mem_singleton] at hi
    subst hi
    exact ⟨t, h, hd, hN⟩
  | j :: k :: r, t, t', h, hd, hN, i, hi => by
    simp only [plan.planAll] at h
    split at h
    · rename_i a b ha hb
      cases t with
      | both a' b' =>
        simp only [stripT, Option.some.injEq, DT.both.injEq] at h
        obtain ⟨rfl, rfl⟩ := h
        simp only [drawQ] at hd
        simp only [dstT, Bool.and_eq_true] at hN
        rcases List.mem_cons.1 hi with rfl | hi
        · exact ⟨a', ha, hd.one, hN.1⟩
        · exact planAll_spec (t' := t') hb hd.two hN.2 i hi
      | done => simp [stripT] at h
      | op b' ts vo r => cases b' <;> simp [stripT] at h
    · cases h

theorem plan_sound (hK : ∀ e e' s, Same e e' → K e s → K e' s) : ∀ (n : Nat) (listed : Array Bool) (fresh : List Nat) (t : DT) (env : Env) (σ : St), plan ops vos n listed fresh = some (stripT t) → drawQ Γ E t env σ K → dstT N t = true → anyQ Γ N ops vos E K n listed env σ
  | 0, listed, fresh, t, env, σ, h, hd, hN => by
    simp only [plan] at h
    split at h
    · rename_i hr
      cases t with
      | done => exact ⟨by simpa using hr, hd⟩
      | both a b => simp [stripT] at h
      | op b' ts vo r => cases b' <;> simp [stripT] at h
    · cases h
  | n + 1, listed, fresh, t, env, σ, h, hd, hN => by
    simp only [plan] at h
    split at h
    · rename_i hr
      cases t with
      | done => exact ⟨fun _ => hd, by rw [hr]; simp⟩
      | both a b => simp [stripT] at h
      | op b' ts vo r => cases b' <;> simp [stripT] at h
    · rename_i i0 rs hr
      split at h
      · rename_i i hf
        have hmem := List.mem_of_find?_eq_some hf
        have hcond := List.find?_some hf
        rw [← hr] at hmem
        split at h
        · rename_i vo hvo
          obtain ⟨t0, hp, ht⟩ := map_some h
          cases t with
          | done => simp [stripT] at ht
          | both a b => simp [stripT] at ht
          | op b' ts vo' r =>
            cases b' with
            | false => simp [stripT] at ht
            | true =>
              simp only [stripT, DT.op.injEq, true_and] at ht
              obtain ⟨rfl, rfl, rfl⟩ := ht
              simp only [Bool.and_eq_true] at hcond
              obtain ⟨hc1, hc2⟩ := hcond
              have hl : (plainB vo'.op || looksB vo'.op) = true := by
                unfold firstB at hc1
                rw [hvo] at hc1
                simp only [Bool.or_eq_true, Bool.and_eq_true] at hc1 ⊢
                rcases hc1 with h | h
                · exact .inl h
                · exact .inr h.1
              have hstrip : vos[i]? = some ⟨vo'.d, vo'.g, stripOp vo'.op⟩ := by
                rw [hvo]
                obtain ⟨d, g, op⟩ := vo'
                congr 2
                cases op <;> first | rfl | simp [plainB, looksB] at hl
              have key : ∀ a, Gives (watch E ((lookRoots vos vo').filter fun r => (writer vos r).isNone)) vo' a env σ → drawQ Γ E r (putd env vo'.d a) σ K → anyQ Γ N ops vos E K (n + 1) listed env σ := by
                intro a hg hdr
                refine anyQ_first (i := i) hK hstrip (dstT_op hN).1 hl n listed env σ ?_ hmem hg (plan_sound hK n _ _ r _ _ hp hdr (dstT_op hN).2)
                intro j vj hvj hji hun hn1 hn2
                constructor
                · unfold freeV at hc2
                  rw [hvo] at hc2
                  simp only [List.all_eq_true, List.mem_range] at hc2
                  have hj := hc2 j (List.getElem?_eq_some_iff.1 hvj).1
                  simp only [hvj, Bool.or_eq_true, beq_iff_eq, hji, false_or, hun, Bool.false_eq_true] at hj
                  unfold afterB at hn1
                  split at hj
                  · rename_i oj vj' hoj hvj'
                    simp only [Option.some.injEq] at hvj'
                    subst hvj'
                    rw [hoj] at hn1
                    simp only [hn1, Bool.false_or] at hj
                    have hs : (⟨vo'.d, vo'.g, stripOp vo'.op⟩ : VO) = vo' := by
                      have := hstrip.symm.trans hvo
                      simpa using this
                    exact hj
                  · cases hj
                · intro id hid
                  obtain ⟨t, ht, a', ha', hida⟩ := mem_watch.1 hid
                  refine mem_watch.2 ⟨t, ?_, a', ha', hida⟩
                  simp only [keepsOf, List.mem_eraseDups, List.mem_flatMap, List.mem_range]
                  refine ⟨i, (List.getElem?_eq_some_iff.1 hvo).1, ?_⟩
                  simp only [hvo, hn1, hn2, Bool.or_self, Bool.false_eq_true, if_false]
                  simp only [List.mem_filter] at ht ⊢
                  refine ⟨ht.1, ?_⟩
                  simp only [ht.2, Bool.true_and]
                  have h1 := ht.1
                  unfold lookRoots at h1
                  unfold firstB at hc1
                  rw [hvo] at hc1
                  split at h1
                  · rename_i hlk
                    have hpl : plainB vo'.op = false := by
                      cases hop : vo'.op <;> simp_all [plainB, looksB]
                    simp only [hpl, hlk, Bool.false_or, Bool.true_and, List.all_eq_true, Bool.and_eq_true] at hc1
                    obtain ⟨u, hu, rfl⟩ := List.mem_map.1 h1
                    exact (hc1 u hu).2
                  · simp at h1
              simp only [drawQ, force_eq] at hd
              rcases guardQ_or hd with ⟨hv, hyes⟩ | ⟨hn, hno⟩
              · obtain ⟨a, ha⟩ := only_of hl hv
                refine key a (hyes _ _ fun σ' hk => (ha σ' (mask_sub hk) _).2 ⟨rfl, rfl⟩) ?_
                exact (ha _ (fun _ _ h => h) (fun a _ => drawQ Γ E r (putd env vo'.d a) σ K)).1 hv
              · exact key noV (hno _ _ rfl) hn
        · cases h
      · rename_i hf
        refine ⟨fun h => (by rw [h] at hr; cases hr), fun i hi => ?_⟩
        rw [hr] at hi
        obtain ⟨ti, hti, hdi, hNi⟩ := planAll_spec (t' := t) h hd hN i hi
        split at hti
        · rename_i vo hvo
          obtain ⟨t0, hp, ht⟩ := map_some hti
          cases ti with
          | done => simp [stripT] at ht
          | both a b => simp [stripT] at ht
          | op b' ts vo' r =>
            cases b' with
            | true => simp [stripT] at ht
            | false =>
              simp only [stripT, DT.op.injEq, true_and] at ht
              obtain ⟨rfl, rfl, rfl⟩ := ht
              refine ⟨vo', hvo, (dstT_op hNi).1, ?_⟩
              simp only [drawQ, force_eq] at hdi
              unfold stepQ
              refine guardQ_mono ?_ (fun h => plan_sound hK n _ _ r _ _ hp h (dstT_op hNi).2) hdi
              intro h
              exact ⟨_, h, fun a σ' hq => ⟨hq.1, plan_sound hK n _ _ r _ _ hp hq.2 (dstT_op hNi).2⟩⟩
        · cases hti
end

/-- What is held while code runs. -/
structure Held (w0 : World) (M0 : Mem) (N : Nat) (Z : Nat → Prop) (env : Env) (σ : St) (β : List (Option Nat)) (a : Act) (w : World) : Prop where
  S : RepS w σ β Z
  E : RepE w (mem σ β Z) env a.tmps
  st : Step w0 M0 w (mem σ β Z)
  sz : a.tmps.size = N
  df : a.defers = []

section
variable {P : Program} {Γ : FuncId → Spec} {w0 : World} {M0 : Mem} {N : Nat} {Z : Nat → Prop} {ops : Array Oper} {vos : List VO} {E : Env} {K : Env → St → Prop}

theorem cvos_get : ∀ {l : List Oper} {vs : List VO}, cvos P ops l = some vs → l.length = vs.length ∧ ∀ (j : Nat) o, l[j]? = some o → ∃ vo, vs[j]? = some vo ∧ cvo P ops o = some vo
  | [], vs, h => by
    simp only [cvos, Option.some.injEq] at h
    subst h
    exact ⟨rfl, by simp⟩
  | o :: l, vs, h => by
    simp only [cvos] at h
    split at h
    · rename_i a b h1 h2
      simp only [Option.some.injEq] at h
      subst h
      obtain ⟨k1, k2⟩ := cvos_get h2
      refine ⟨by simp [k1], fun j o' hj => ?_⟩
      cases j with
      | zero => simp only [List.getElem?_cons_zero, Option.some.injEq] at hj; subst hj; exact ⟨a, rfl, h1⟩
      | succ j => simp only [List.getElem?_cons_succ] at hj; exact k2 j o' hj
    · cases h

theorem anyQ_sound (hΓ : Known P Γ) (hv : cvos P ops ops.toList = some vos) {Q' : Exit → Act → World → Prop} (hQ : ∀ a w, Post w0 M0 N Z K a w → Q' .normal a w) :
    ∀ (n : Nat) (listed : Array Bool) (env : Env) (σ : St) (β : List (Option Nat)) (a : Act) (w : World), Held w0 M0 N Z env σ β a w → anyQ Γ N ops vos E K n listed env σ → wpAny P .any ops Q' n listed a w
  | 0, listed, env, σ, β, a, w, hH, h => ⟨h.1, hQ _ _ ⟨env, σ, β, hH.S, hH.E, hH.st, hH.sz, hH.df, h.2⟩⟩
  | n + 1, listed, env, σ, β, a, w, hH, h => by
    refine ⟨fun hr => hQ _ _ ⟨env, σ, β, hH.S, hH.E, hH.st, hH.sz, hH.df, h.1 hr⟩, fun i hi => ?_⟩
    obtain ⟨vo, hvo, hdo, hs⟩ := h.2 i hi
    obtain ⟨_, o, ho, _⟩ := mem_ready.1 hi
    obtain ⟨vo', hvo', hcv⟩ := (cvos_get hv).2 i o (by simpa using ho)
    rw [hvo] at hvo'
    simp only [Option.some.injEq] at hvo'
    subst hvo'
    obtain ⟨hop, hdd, hg⟩ := cvo_some hcv
    simp only at hop hdd hg
    have hdd' : ∀ i, o.dst = some i → i < a.tmps.size := fun j hj => by rw [hH.sz]; exact hdo j (hdd.trans hj)
    unfold wpOp
    simp only [ho]
    unfold stepQ at hs
    obtain ⟨d, g, op⟩ := vo
    simp only at hs hop hdd hg
    have yes : Region.wanted o (yielded ops a.tmps) = true → (∃ Q0, vop1 Γ (restrict env (uses op)) σ Q0 op ∧ ∀ a σ', Q0 a σ' → keepL σ σ' (watch E (keepsOf ops vos i)) ∧ anyQ Γ N ops vos E K n (listed.setIfInBounds i true) (putd env d a) σ') →
        (if Region.wanted o (yielded ops a.tmps) then o.wp P a w (wpAny P .any ops Q' n (listed.setIfInBounds i true)) Q' ∨ (o.asks P a w ∧ LetsOut Q') else wpAny P .any ops Q' n (listed.setIfInBounds i true) (a.put o.dst undef) w) := by
      intro hw ⟨Q0, hq, hq2⟩
      rw [if_pos hw]
      left
      have hop : cop P o = some (stripOp op) := by
        rcases hop with hop | hop
        · exact hop
        · cases op <;> simp only [stripOp, reduceCtorEq] at hop
          exact hq.elim
      have hE' : RepE w (mem σ β Z) (restrict env (uses op)) a.tmps := fun j x hj => hH.E j x (get_restrict _ env j x hj)
      refine outs_wp (vop1_sound hΓ hop hH.S hE' hq) fun v w' β' x σ' h1 h2 h3 h4 => ?_
      refine anyQ_sound hΓ hv hQ n _ _ σ' β' _ w' ⟨h2, ?_, hH.st.trans h1, by rw [put_size]; exact hH.sz, by rw [put_defers']; exact hH.df⟩ (hq2 x σ' h4).2
      rw [hdd]
      exact repE_putd (hH.E.mono h1) hdd' h3
    have no : Region.wanted o (yielded ops a.tmps) = false → anyQ Γ N ops vos E K n (listed.setIfInBounds i true) (putd env d noV) σ →
        (if Region.wanted o (yielded ops a.tmps) then o.wp P a w (wpAny P .any ops Q' n (listed.setIfInBounds i true)) Q' ∨ (o.asks P a w ∧ LetsOut Q') else wpAny P .any ops Q' n (listed.setIfInBounds i true) (a.put o.dst undef) w) := by
      intro hw hq
      rw [if_neg (by simp [hw])]
      refine anyQ_sound hΓ hv hQ n _ _ σ β _ w ⟨hH.S, ?_, hH.st, by rw [put_size]; exact hH.sz, by rw [put_defers']; exact hH.df⟩ hq
      rw [hdd]
      exact repE_putd hH.E hdd' (rep_val_mk _)
    rcases hg with ⟨hg1, rfl⟩ | ⟨j, want, s, hg1, hs1, rfl⟩
    · exact yes (by simp [Region.wanted, hg1]) hs
    · by_cases hno : ∃ u, get env s = some (.pu (.val (.tuple u)))
      · obtain ⟨u, hu⟩ := hno
        have h1 : anyQ Γ N ops vos E K n (listed.setIfInBounds i true) (putd env d noV) σ := by
          cases want <;> simp only [guardQ, hu] at hs <;> exact hs
        obtain ⟨v, hv1, hv2⟩ := hH.E s _ hu
        have := rep_val hv2
        subst this
        have hy : yielded ops a.tmps j = none := by simp [yielded, hs1, hv1]
        exact no (by simp [Region.wanted, hg1, hy]) h1
      have h'' : ∃ b, get env s = some (.pu (.val (.bool b))) ∧ (if b = want then (∃ Q0, vop1 Γ (restrict env (uses op)) σ Q0 op ∧ ∀ a σ', Q0 a σ' → keepL σ σ' (watch E (keepsOf ops vos i)) ∧ anyQ Γ N ops vos E K n (listed.setIfInBounds i true) (putd env d a) σ') else anyQ Γ N ops vos E K n (listed.setIfInBounds i true) (putd env d noV) σ) := by
        cases want <;> simp only [guardQ] at hs <;> split at hs <;> first | exact hs.elim | exact absurd ⟨_, by assumption⟩ hno | (rename_i b hb; refine ⟨b, hb, ?_⟩; rw [br_eq] at hs; cases b <;> simpa using hs)
      obtain ⟨b, hb, hs⟩ := h''
      obtain ⟨v, hv1, hv2⟩ := hH.E s _ hb
      have := rep_val hv2
      subst this
      have hy : yielded ops a.tmps j = some b := by simp [yielded, hs1, hv1]
      by_cases hbw : b = want
      · rw [if_pos hbw] at hs
        exact yes (by simp [Region.wanted, hg1, hy, hbw]) hs
      · rw [if_neg hbw] at hs
        exact no (by simp [Region.wanted, hg1, hy, hbw]) hs

/-- A region that draws its order. -/
theorem draws_sound (hΓ : Known P Γ) {id : Nat} {t : DT} {env : Env} {σ : St} {β : List (Option Nat)} {a : Act} {w : World} (hv : cvos P ops ops.toList = some vos) (hp : planOf P ops vos = some (stripT t)) (hdst : dstT N t = true)
    {Q' : Exit → Act → World → Prop} (hK : ∀ e e' s, Same e e' → K e s → K e' s) (hQ : ∀ a w, Post w0 M0 N Z K a w → Q' .normal a w) (hH : Held w0 M0 N Z env σ β a w) (h : drawQ Γ env t env σ K) : (Code.region id ops true).wp P Q' a w := by
  unfold planOf at hp
  split at hp
  · rename_i hc
    simp only [Bool.and_eq_true] at hc
    rw [Option.filter_eq_some_iff] at hp
    have hpl := plan_sound (N := N) (E := env) hK _ _ _ t env σ hp.1 h hdst
    refine wp_region_any hc.1 ?_
    obtain ⟨k1, k2⟩ := step_same (w' := { w with drawn := w.drawn + 1 }) hH.S rfl rfl rfl (Nat.le_refl _) (fun _ _ => rfl)
    exact anyQ_sound hΓ hv hQ _ _ env σ β a _ ⟨k2, hH.E.mono k1, hH.st.trans k1, hH.sz, hH.df⟩ hpl
  · cases hp
end
end Go.Vm
