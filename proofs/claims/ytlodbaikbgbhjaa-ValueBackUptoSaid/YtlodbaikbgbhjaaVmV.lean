/- Vm, part V: nil is taken for an empty slice, in arguments and in results; contracts that hold at any measure. -/
import Derived.Test.YtlodbaikbgbhjaaVmU
set_option linter.unusedVariables false
set_option linter.unusedSimpArgs false
namespace Go.Vm
open Go Go.RowKit

mutual
/-- What stands for the one stands for the other, too: nil is an empty slice. -/
inductive LE : PV → PV → Prop where
  | refl (p : PV) : LE p p
  | nil : LE (.val (.slice none 0 0)) (.sl 0 [])
  | agg {cs ds : List PV} (h : LEs cs ds) : LE (.agg cs) (.agg ds)
  | tup {cs ds : List PV} (h : LEs cs ds) : LE (.tup cs) (.tup ds)
  | sl {n : Nat} {cs ds : List PV} (h : LEs cs ds) : LE (.sl n cs) (.sl n ds)
inductive LEs : List PV → List PV → Prop where
  | nil : LEs [] []
  | cons {c d : PV} {cs ds : List PV} (h : LE c d) (k : LEs cs ds) : LEs (c :: cs) (d :: ds)
end
theorem LEs.refl : ∀ (cs : List PV), LEs cs cs
  | [] => .nil
  | c :: cs => .cons (.refl c) (LEs.refl cs)
theorem LEs.app : ∀ {a b c d : List PV}, LEs a b → LEs c d → LEs (a ++ c) (b ++ d)
  | [], _, _, _, h, k => by cases h; exact k
  | x :: a, _, _, _, h, k => by
    cases h with
    | cons h1 h2 => exact .cons h1 (LEs.app h2 k)
mutual
theorem LE.rep {w : World} {I : Nat → Prop} : ∀ {p q : PV} {v : Value}, LE p q → RepP w I p v → RepP w I q v
  | _, _, _, .refl _, h => h
  | _, _, v, .nil, h => by
    simp only [RepP] at h ⊢
    exact ⟨none, 0, h, Nat.le_refl _, Nat.zero_le _, .inl trivial⟩
  | _, _, v, .agg k, h => by
    simp only [RepP] at h ⊢
    obtain ⟨vs, rfl, h⟩ := h
    exact ⟨vs, rfl, LEs.rep k h⟩
  | _, _, v, .tup k, h => by
    simp only [RepP] at h ⊢
    obtain ⟨vs, rfl, h⟩ := h
    exact ⟨vs, rfl, LEs.rep k h⟩
  | _, _, v, .sl k, h => by
    simp only [RepP] at h ⊢
    obtain ⟨a, c, rfl, h1, h2, h3⟩ := h
    refine ⟨a, c, rfl, h1, h2, ?_⟩
    rcases h3 with rfl | ⟨ad, vs, rfl, h4, h5, h6⟩
    · left; cases k; rfl
    · exact .inr ⟨ad, vs, rfl, h4, h5, LEs.rep k h6⟩
theorem LEs.rep {w : World} {I : Nat → Prop} {one : Bool} : ∀ {cs ds : List PV} {vs : List Value}, LEs cs ds → RepPs w I one cs vs → RepPs w I one ds vs
  | _, _, _, .nil, h => h
  | _, _, _, .cons k l, h => by
    simp only [RepPs] at h ⊢
    obtain ⟨u, us, rfl, h0, h1, h2⟩ := h
    exact ⟨u, us, rfl, h0, LE.rep k h1, LEs.rep l h2⟩
end
inductive LEA : AV → AV → Prop where
  | refl (a : AV) : LEA a a
  | pu {p q : PV} (h : LE p q) : LEA (.pu p) (.pu q)
theorem LEA.rep {w : World} {M : Mem} {a b : AV} {v : Value} (h : LEA a b) (k : RepA w M a v) : RepA w M b v := by
  cases h with
  | refl => exact k
  | pu h => simp only [RepA] at k ⊢; exact h.rep k
inductive LEAs : List AV → List AV → Prop where
  | nil : LEAs [] []
  | cons {c d : AV} {cs ds : List AV} (h : LEA c d) (k : LEAs cs ds) : LEAs (c :: cs) (d :: ds)
theorem LEAs.rep {w : World} {M : Mem} {one : Bool} : ∀ {cs ds : List AV} {vs : List Value}, LEAs cs ds → RepAs w M one cs vs → RepAs w M one ds vs
  | _, _, _, .nil, h => h
  | _, _, _, .cons k l, h => by
    simp only [RepAs] at h ⊢
    obtain ⟨u, us, rfl, h0, h1, h2⟩ := h
    exact ⟨u, us, rfl, h0, k.rep h1, LEAs.rep l h2⟩
theorem LEAs.of_pu : ∀ {cs ds : List PV}, LEs cs ds → LEAs (cs.map .pu) (ds.map .pu)
  | _, _, .nil => .nil
  | _, _, .cons k l => .cons (.pu k) (LEAs.of_pu l)
theorem LEAs.refl : ∀ (cs : List AV), LEAs cs cs
  | [] => .nil
  | c :: cs => .cons (.refl c) (LEAs.refl cs)

/-- As a specification says, but that nil may stand where it has an empty slice. -/
def Loose (R : Spec) : Spec := fun as objs K => Tag 10 (∃ as', LEAs as as' ∧ R as' objs fun r τ => ∃ r', LEA r r' ∧ K r' τ)
section
variable {P : Program} {f : FuncId}
theorem Contract.sub {R : Spec} (hC : Contract P f R) : Contract P f (Loose R) := by
  refine ⟨hC.1, ?_⟩
  rintro w objs β Z vs as K hS has ⟨as', hle, hR⟩
  refine (hC.2 w objs β Z vs as' _ hS (hle.rep has) hR).mono fun e w' h' => ?_
  obtain ⟨v, β', r, τ, rfl, h1, h2, h3, r', h4, h5⟩ := h'
  exact ⟨v, β', r', τ, rfl, h1, h2, h4.rep h3, h5⟩
theorem Contract.mono {R R' : Spec} (hC : Contract P f R) (h : ∀ as objs K, R' as objs K → R as objs K) : Contract P f R' :=
  ⟨hC.1, fun w objs β Z vs as K hS has hR => hC.2 w objs β Z vs as K hS has (h as objs K hR)⟩
/-- A contract that holds at each measure holds. -/
theorem Contract.all {κ α : Type} {pre : κ → α → Prop} {args : α → List PV} {res : α → PV} (h : ∀ k, Contract P f (RelP (pre k) args res)) (k0 : κ) : Contract P f (RelP (fun x => ∃ k, pre k x) args res) := by
  refine ⟨(h k0).1, ?_⟩
  rintro w objs β Z vs as K hS has ⟨h1, x, ⟨k, h2⟩, h3, h4⟩
  exact (h k).2 w objs β Z vs as K hS has ⟨h1, x, h2, h3, h4⟩
theorem Contract.pre {α : Type} {pre pre' : α → Prop} {args : α → List PV} {res : α → PV} (h : Contract P f (RelP pre args res)) (hp : ∀ x, pre' x → pre x) : Contract P f (RelP pre' args res) :=
  h.mono fun as objs K ⟨h1, x, h2, h3, h4⟩ => ⟨h1, x, hp x h2, h3, h4⟩
theorem Contract.res {α : Type} {pre : α → Prop} {args : α → List PV} {res res' : α → PV} (h : Contract P f (RelP pre args res)) (hp : ∀ x, pre x → res' x = res x) : Contract P f (RelP pre args res') :=
  h.mono fun as objs K ⟨h1, x, h2, h3, h4⟩ => ⟨h1, x, h2, h3, by rw [← hp x h2]; exact h4⟩
theorem Contract.map {α β : Type} {pre : α → Prop} {args : α → List PV} {res : α → PV} {pre' : β → Prop} {args' : β → List PV} {res' : β → PV} (h : Contract P f (RelP pre args res)) (g : β → α) (h1 : ∀ y, pre' y → pre (g y)) (h2 : ∀ y, pre' y → args' y = args (g y)) (h3 : ∀ y, pre' y → res' y = res (g y)) : Contract P f (RelP pre' args' res') :=
  h.mono fun as objs K ⟨k1, y, k2, k3, k4⟩ => ⟨k1, g y, h1 y k2, by rw [← h2 y k2]; exact k3, by rw [← h3 y k2]; exact k4⟩
end

/-- the result, or what stands for it, too -/
def pureFinL (res : List RV) (p : PV) : VExit → Env → St → Prop
  | .exit _, _, _ => False
  | _, env, σ => withRes env σ res fun as => ∃ q, renG σ [] 0 (packRes as) = some (.pu q) ∧ LE q p
def RelPL {α : Type} (pre : α → Prop) (args : α → List PV) (res : α → PV) : Spec := fun as objs K => Tag 11 (objs = [] ∧ ∃ x, pre x ∧ as = (args x).map .pu ∧ ∀ q, LE q (res x) → K (.pu q) [])
theorem pureFinL_fin {res : List RV} {p : PV} {C : AV → St → Prop} {e : VExit} {env : Env} {σ : St} (hC : ∀ q, LE q p → C (.pu q) []) (h : pureFinL res p e env σ) : finQ res 0 C e env σ := by
  have fin : (withRes env σ res fun as => ∃ q, renG σ [] 0 (packRes as) = some (.pu q) ∧ LE q p) → withRes env σ res fun as => ∃ J r τ, finOf σ 0 J (packRes as) = some (r, τ) ∧ C r τ :=
    withRes_mono fun as ⟨q, ha, hq⟩ => ⟨[], _, _, finOf_nil ha, hC q hq⟩
  cases e with
  | exit id => exact h
  | normal => exact fin h
  | ret => exact fin h
section
variable {P : Program} {f : FuncId} {Γ : FuncId → Spec} {nt : Nat} {vc : VCode} {res : List RV}
theorem IsCode.pureL {α : Type} {pre : α → Prop} {args : α → List PV} {out : α → PV} (C : IsCode P f nt vc res) (hΓ : Known P Γ) (hl : ∀ x, pre x → (args x).length ≤ nt)
    (h : ∀ x, pre x → BW Γ vc (pureFinL res (out x)) (envFrom 0 ((args x).map .pu)) []) : Contract P f (RelP pre args out) := by
  obtain ⟨fn, c, h1, h2, h3, h4, h5, h6, rfl⟩ := C.ex
  have k : Contract P f (RelPL pre args out) := by
    simp only [bw_eq] at h
    refine contract_of_Q hΓ h1 h2 h3 h4 h5 h6 ?_
    rintro as objs K ⟨rfl, x, h1, rfl, hK⟩
    exact ⟨by simpa using hl x h1, _, h x h1, fun e env σ k => pureFinL_fin hK k⟩
  refine ⟨k.1, ?_⟩
  rintro w objs β Z vs as K hS has ⟨rfl, x, q1, q2, q3⟩
  have q4 : RelPL pre args out as [] fun r τ => ∃ r', LEA r r' ∧ K r' τ := ⟨rfl, x, q1, q2, fun q hq => ⟨_, .pu hq, q3⟩⟩
  refine (k.2 w [] β Z vs as _ hS has q4).mono fun e w' h' => ?_
  obtain ⟨v, β', r, τ, rfl, h1, h2, h3, r', h4, h5⟩ := h'
  exact ⟨v, β', r', τ, rfl, h1, h2, h4.rep h3, h5⟩
end

theorem snaps_puL {σ : St} : ∀ (ps : List PV), snaps σ (ps.map .pu) = some ps
  | [] => rfl
  | p :: ps => by simp only [List.map_cons, snaps, snap, snaps_puL ps]
theorem hasPtrs_puL : ∀ (ps : List PV), hasPtrs (ps.map AV.pu) = false
  | [] => rfl
  | p :: ps => by simp only [List.map_cons, hasPtrs, hasPtr, hasPtrs_puL ps]; rfl
theorem idss_puL : ∀ (ps : List PV), idss (ps.map AV.pu) = []
  | [] => rfl
  | p :: ps => by simp only [List.map_cons, idss, ids, idss_puL ps]; rfl
theorem call_subP {α : Type} {pre : α → Prop} {args : α → List PV} {res : α → PV} {as : List AV} {σ : St} {Q : AV → St → Prop} {ps : List PV} (x : α) {p : PV} (hs : snaps σ as = some ps) (hle : LEs ps (args x)) (hp : pre x) (hr : res x = p) (hb : as.all isPu = true ∨ noSlP p = true) (k : Q (.pu p) σ) (hn : hasPtrs as = false := by rfl) : VCall (Loose (RelP pre args res)) [] as σ Q := by
  subst hr
  refine vcall_nil hn hs ⟨fun r τ => r = .pu (res x) ∧ τ = [], ⟨_, LEAs.of_pu hle, rfl, x, hp, rfl, _, .refl _, rfl, rfl⟩, ?_⟩
  rintro r τ ⟨rfl, rfl⟩
  exact backQ_nil (fun h => hb.resolve_left (by simpa using h)) k
/-- A call to which rows are handed that are for good from then on. -/
theorem call_relF {α : Type} {pre : α → Prop} {args : α → List PV} {res : α → PV} {as : List AV} {σ : St} {Q : AV → St → Prop} (x : α) {p : PV} (hs : snaps σ as = some (args x)) (hp : pre x) (hr : res x = p) (k : Q (.pu p) (killAll σ (idss as))) : VCall (RelP pre args res) [] as σ Q := by
  have h : VCall (RelP pre args res) [] ((args x).map .pu) (killAll σ (idss as)) Q := by
    refine call_rel (x := x) ?_ hp hr (.inl ?_) k ?_
    · rw [snaps_puL]
    · simp [List.all_eq_true, isPu]
    · exact hasPtrs_puL _
  cases h with
  | mk h => exact .frz _ hs h
  | frz ps' hs' h =>
    rw [snaps_puL] at hs'
    cases hs'
    rw [idss_puL] at h
    exact .frz _ hs h
theorem call_subF {α : Type} {pre : α → Prop} {args : α → List PV} {res : α → PV} {as : List AV} {σ : St} {Q : AV → St → Prop} {ps : List PV} (x : α) {p : PV} (hs : snaps σ as = some ps) (hle : LEs ps (args x)) (hp : pre x) (hr : res x = p) (k : Q (.pu p) (killAll σ (idss as))) : VCall (Loose (RelP pre args res)) [] as σ Q := by
  have h : VCall (Loose (RelP pre args res)) [] (ps.map .pu) (killAll σ (idss as)) Q := by
    refine call_subP x ?_ hle hp hr (.inl ?_) k ?_
    · rw [snaps_puL]
    · simp [List.all_eq_true, isPu]
    · exact hasPtrs_puL _
  cases h with
  | mk h => exact .frz _ hs h
  | frz ps' hs' h =>
    rw [snaps_puL] at hs'
    cases hs'
    rw [idss_puL] at h
    exact .frz _ hs h
end Go.Vm
