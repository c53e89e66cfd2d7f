/- Vm, part P: rules for proofs about code: calls of what is known, loops, joins. -/
import Derived.Test.YtdjgfjnnafddnaaVmO
set_option linter.unusedVariables false
set_option linter.unusedSimpArgs false
namespace Go.Vm
open Go Go.RowKit

/-- A function of pure values. -/
def DetP (F : List PV → Option PV) : Spec := fun as objs r τ => objs = [] ∧ τ = [] ∧ ∃ ps p, unpus as = some ps ∧ F ps = some p ∧ r = .pu p
/-- A function of whatever it is handed. -/
def DetG (F : List AV → List VObj → Option (AV × St)) : Spec := fun as objs r τ => F as objs = some (r, τ)
def NoSpec : Spec := fun _ _ _ _ => False

def pureQ (F : List PV → Option PV) (as : List AV) (σ : St) (Q : AV → St → Prop) : Prop := match snaps σ as with
  | some ps => match F ps with
    | some p => (as.all isPu = true ∨ noSlP p = true) ∧ Q (.pu p) σ
    | none => False
  | none => False

theorem passArgs_nil (σ : St) : ∀ (as : List AV), passArgs σ [] [] as = (snaps σ as).map fun ps => (ps.map .pu, !as.all isPu)
  | [] => by simp [passArgs, snaps]
  | a :: as => by
    have e : ((ids a).all fun id => !([] : List Nat).contains id) = true := by simp
    simp only [passArgs, snaps, passArgs_nil σ as, e, if_true]
    cases snap σ a <;> cases snaps σ as <;> simp [List.all_cons, Bool.or_comm, Bool.not_and]

theorem map_pu_inj : ∀ {ps qs : List PV}, ps.map AV.pu = qs.map AV.pu → ps = qs
  | [], [], _ => rfl
  | [], _ :: _, h => by simp at h
  | _ :: _, [], h => by simp at h
  | p :: ps, q :: qs, h => by
    simp only [List.map_cons, List.cons.injEq, AV.pu.injEq] at h
    rw [h.1, map_pu_inj h.2]

theorem close_nil (σ : St) : closeN σ 6 (addNew [] []) = [] := by
  simp [closeN, addNew, growI]

theorem refIds_nil : ∀ (as : List AV), refIds [] as = []
  | [] => rfl
  | _ :: _ => rfl

theorem vcall_pure {F : List PV → Option PV} {as : List AV} {σ : St} {Q : AV → St → Prop} : vcall (DetP F) [] as σ Q = pureQ F as σ Q := by
  unfold vcall pureQ
  simp only [refIds_nil, close_nil, passArgs_nil, nodupB, true_and, objsOf]
  cases hs : snaps σ as with
  | none => simp
  | some ps =>
    simp only [Option.map_some]
    apply propext
    constructor
    · rintro ⟨r, τ, ⟨_, rfl, qs, p, h1, h2, rfl⟩, _, h3, h4⟩
      rw [unpus_map] at h1
      simp only [Option.some.injEq] at h1
      subst h1
      rw [h2]
      simp only [ren, renSt, setAll, List.drop_zero, List.length_nil, List.append_nil] at h4
      refine ⟨?_, h4⟩
      cases ha : as.all isPu with
      | true => exact .inl rfl
      | false => exact .inr (by have := (h3 (by simp [ha])).1; simpa [noSl] using this)
    · intro h
      split at h
      · rename_i p hp
        obtain ⟨h1, h2⟩ := h
        refine ⟨.pu p, [], ⟨rfl, rfl, ps, p, unpus_map ps, hp, rfl⟩, by simp, ?_, ?_⟩
        · intro hb
          simp only [noSl, noSlSt, and_true]
          rcases h1 with h1 | h1
          · simp [h1] at hb
          · exact h1
        · simpa [ren, renSt, setAll] using h2
      · exact h.elim

/-- what is known of functions: a list -/
def ofList : List (Nat × Spec) → FuncId → Spec
  | [], _ => NoSpec
  | (j, R) :: l, f => if j = f then R else ofList l f
theorem Known.nil {P : Program} : Known P (ofList []) := fun f => .inl fun _ _ _ _ h => h
theorem Known.cons {P : Program} {l : List (Nat × Spec)} {f : Nat} {R : Spec} (h : Contract P f R) (k : Known P (ofList l)) : Known P (ofList ((f, R) :: l)) := by
  intro g
  simp only [ofList]
  split
  · rename_i e; subst e; exact .inr (.inl h)
  · exact k g
theorem Known.consX {P : Program} {l : List (Nat × Spec)} {f : Nat} {R : Spec} (h : XContract P f R) (k : Known P (ofList l)) : Known P (ofList ((f, R) :: l)) := by
  intro g
  simp only [ofList]
  split
  · rename_i e; subst e; exact .inr (.inr h)
  · exact k g

theorem call_pure {F : List PV → Option PV} {as : List AV} {σ : St} {Q : AV → St → Prop} {ps : List PV} {p : PV} (hs : snaps σ as = some ps) (hF : F ps = some p) (hb : as.all isPu = true ∨ noSlP p = true) (k : Q (.pu p) σ) : VCall (DetP F) [] as σ Q := by
  refine ⟨?_⟩
  rw [vcall_pure, pureQ, hs]
  simp only [hF]
  exact ⟨hb, k⟩

theorem pbytes_len1 (xs : List Int) : (pbytes xs).length = xs.length * 1 := by simp [pbytes]
/-- a condition that no reduction looks into -/
noncomputable def chk {α : Type} (C : Prop) (x : Option α) : Option α := @ite _ C (Classical.propDecidable C) x none
theorem chk_pos {α : Type} {C : Prop} {x : Option α} (h : C) : chk C x = x := by unfold chk; exact if_pos h
theorem chk_some {α : Type} {C : Prop} {x : Option α} {y : α} (h : chk C x = some y) : C ∧ x = some y := by
  unfold chk at h
  split at h
  · exact ⟨by assumption, h⟩
  · cases h
def condV (c : AV) (A B : Prop) : Prop := match c with
  | .pu (.val (.bool t)) => Br A B t
  | _ => False

theorem box_of {p q : Prop} (h : p = q) (k : q) : Box p := ⟨h ▸ k⟩

/-! ### rules for code, one step each -/
theorem br_intro {t : Bool} {A B : Prop} (h : t = true → A) (k : t = false → B) : Br A B t := by cases t; exact .ff (k rfl); exact .tt (h rfl)
theorem br_of_true {t : Bool} {A B : Prop} (e : t = true) (h : A) : Br A B t := by subst e; exact .tt h
theorem br_of_false {t : Bool} {A B : Prop} (e : t = false) (h : B) : Br A B t := by subst e; exact .ff h
theorem br_dec_tt {p A B : Prop} {i : Decidable p} (e : p) (h : A) : Br A B (@decide p i) := by rw [br_dec, if_pos e]; exact h
theorem br_dec_ff {p A B : Prop} {i : Decidable p} (e : ¬ p) (h : B) : Br A B (@decide p i) := by rw [br_dec, if_neg e]; exact h
theorem br_dec_intro {p A B : Prop} {i : Decidable p} (h : p → A) (k : ¬ p → B) : Br A B (@decide p i) := by
  by_cases e : p
  · exact br_dec_tt e (h e)
  · exact br_dec_ff e (k e)
theorem br_beq_tt {a b : Int} {A B : Prop} (e : a = b) (h : A) : Br A B (a == b) := br_of_true (by simpa using e) h
theorem br_beq_ff {a b : Int} {A B : Prop} (e : ¬ a = b) (h : B) : Br A B (a == b) := br_of_false (by simpa using e) h
theorem br_beq_intro {a b : Int} {A B : Prop} (h : a = b → A) (k : ¬ a = b → B) : Br A B (a == b) := by
  by_cases e : a = b
  · exact br_beq_tt e (h e)
  · exact br_beq_ff e (k e)
theorem br_bne_tt {a b : Int} {A B : Prop} (e : ¬ a = b) (h : A) : Br A B (a != b) := br_of_true (by simpa using e) h
theorem br_bne_ff {a b : Int} {A B : Prop} (e : a = b) (h : B) : Br A B (a != b) := br_of_false (by simpa using e) h
theorem br_bne_intro {a b : Int} {A B : Prop} (h : ¬ a = b → A) (k : a = b → B) : Br A B (a != b) := by
  by_cases e : a = b
  · exact br_bne_ff e (k e)
  · exact br_bne_tt e (h e)
theorem br_not {t : Bool} {A B : Prop} (h : Br B A t) : Br A B (!t) := by
  cases h with
  | tt h => exact .ff h
  | ff h => exact .tt h
theorem and_rfl {α : Type} {a : α} {B : Prop} (k : B) : a = a ∧ B := ⟨rfl, k⟩
theorem and_late {A B : Prop} (k : A → B) (h : A) : A ∧ B := ⟨h, k h⟩
theorem ite_intro {c A B : Prop} {i : Decidable c} (h : c → A) (k : ¬ c → B) : @ite _ c i A B := by split <;> rename_i q; exact h q; exact k q
section
variable {Γ : FuncId → Spec} {Q : VExit → Env → St → Prop} {env : Env} {σ : St}

/-- What code computes, in a form that no reduction takes apart: rules do. -/
inductive BW (Γ : FuncId → Spec) (c : VCode) (Q : VExit → Env → St → Prop) (env : Env) (σ : St) : Prop where
  | mk (h : vwp Γ c Q env σ)
inductive BO (Γ : FuncId → Spec) (l : List VO) (env : Env) (σ : St) (K : Env → St → Prop) : Prop where
  | mk (h : vops Γ l env σ K)
theorem bw_eq : BW = vwp := by
  funext Γ c Q env σ
  exact propext ⟨fun ⟨h⟩ => h, fun h => ⟨h⟩⟩
theorem bo_eq : BO = vops := by
  funext Γ l env σ K
  exact propext ⟨fun ⟨h⟩ => h, fun h => ⟨h⟩⟩

def opstep (Γ : FuncId → Spec) (d : Option Nat) (g : Option (Nat × Bool)) (op : VOp) (env : Env) (σ : St) (K : Env → St → Prop) : Prop :=
  guardQ env g (vop1 Γ env σ (fun a σ' => force (putd env d a) fun env' => force σ' fun σ'' => K env' σ'') op) (force (putd env d noV) fun env' => K env' σ)
theorem bo_nil {K : Env → St → Prop} (h : K env σ) : BO Γ [] env σ K := ⟨h⟩
theorem bo_cons {d : Option Nat} {g : Option (Nat × Bool)} {op : VOp} {r : List VO} {K : Env → St → Prop} (h : opstep Γ d g op env σ fun e s => BO Γ r e s K) (hf : isFrz op = false) : BO Γ (⟨d, g, op⟩ :: r) env σ K := by
  rw [bo_eq] at *
  cases op <;> first | exact h | simp [isFrz] at hf
def frzstep (i : Nat) (env : Env) (σ : St) (K : Env → St → Prop) : Prop := match get env i with
  | some a => match snap σ a with
    | some p => force (put env i (.pu p)) fun env' => force (killAll σ (ids a)) fun σ' => K env' σ'
    | none => False
  | none => False
theorem bo_frz {d : Option Nat} {g : Option (Nat × Bool)} {i : Nat} {r : List VO} {K : Env → St → Prop} (h : frzstep i env σ fun e s => BO Γ r e s K) : BO Γ (⟨d, g, .frz (.t i)⟩ :: r) env σ K := by
  unfold frzstep at h
  rw [bo_eq] at *
  simp only [force_eq] at h
  exact h
theorem bo_kp {d : Option Nat} {g : Option (Nat × Bool)} {l : List Nat} {r : List VO} {K : Env → St → Prop} (h : force (restrict env l) fun e => BO Γ r e σ K) : BO Γ (⟨d, g, .kp l⟩ :: r) env σ K := by
  rw [bo_eq] at *
  exact h
theorem bo_kcons {d d' : Option Nat} {g g' : Option (Nat × Bool)} {op : VOp} {l : List Nat} {r : List VO} {K : Env → St → Prop} (h : opstep Γ d g op env σ fun e s => force (restrict e l) fun e => BO Γ r e s K) (hf : isFrz op = false) : BO Γ (⟨d, g, op⟩ :: ⟨d', g', .kp l⟩ :: r) env σ K := by
  refine bo_cons (r := ⟨d', g', .kp l⟩ :: r) ?_ hf
  have e : (fun e s => force (restrict e l) fun e => BO Γ r e s K) = (fun e s => BO Γ (⟨d', g', .kp l⟩ :: r) e s K) := by
    rw [bo_eq]
    rfl
  rw [e] at h
  exact h
theorem bw_skip (h : Q .normal env σ) : BW Γ .skip Q env σ := ⟨h⟩
theorem bw_seq {a b : VCode} (h : BW Γ a (thenQ (BW Γ b Q) Q) env σ) : BW Γ (.seq a b) Q env σ := by rw [bw_eq] at *; exact h
theorem bw_block {id : Nat} {a : VCode} (h : BW Γ a (blockQ id Q) env σ) : BW Γ (.block id a) Q env σ := by rw [bw_eq] at *; exact h
theorem bw_scope {a : VCode} (h : BW Γ a Q env σ) : BW Γ (.scope a) Q env σ := by rw [bw_eq] at *; exact h
theorem bw_exit {id : Nat} (h : Q (.exit id) env σ) : BW Γ (.exit id) Q env σ := ⟨h⟩
theorem bw_ret (h : Q .ret env σ) : BW Γ .ret Q env σ := ⟨h⟩
theorem bw_region {ops : List VO} (h : BO Γ ops env σ (Q .normal)) : BW Γ (.region false ops) Q env σ := by rw [bw_eq]; rw [bo_eq] at h; exact h
def keepstep (l : List Nat) (env : Env) (K : Env → Prop) : Prop := force (restrict env l) K
theorem bw_keep {l : List Nat} {c : VCode} (h : keepstep l env fun e => BW Γ c Q e σ) : BW Γ (.keep l c) Q env σ := by rw [bw_eq] at *; exact h
def condstep (c : Option AV) (A B : Prop) : Prop := match c with
  | some (.pu (.val (.bool t))) => Br A B t
  | _ => False
theorem bw_cond {x : X} {a b : VCode} (h : condstep (opnd env x) (BW Γ a Q env σ) (BW Γ b Q env σ)) : BW Γ (.cond x a b) Q env σ := by rw [bw_eq] at *; exact h

/-! many steps at once -/
inductive LP (Γ : FuncId → Spec) (a : VCode) (Q : VExit → Env → St → Prop) (env : Env) (σ : St) : Prop where
  | mk (h : BW Γ (.loop a) Q env σ)
inductive JN (Γ : FuncId → Spec) (a : VCode) (Q : VExit → Env → St → Prop) (env : Env) (σ : St) : Prop where
  | mk (h : BW Γ (.join a) Q env σ)
def stepO (Γ : FuncId → Spec) (o : VO) (env : Env) (σ : St) (K : Env → St → Prop) : Prop := match o with
  | ⟨d, g, op⟩ => match op with
    | .frz (.t i) => frzstep i env σ K
    | .frz (.c _) => False
    | .kp l => force (restrict env l) fun e => K e σ
    | op => opstep Γ d g op env σ K
def stepL (Γ : FuncId → Spec) (k : List VO → Env → St → (Env → St → Prop) → Prop) (l : List VO) (env : Env) (σ : St) (K : Env → St → Prop) : Prop := match l with
  | [] => K env σ
  | o :: r => stepO Γ o env σ fun e s => k r e s K
theorem stepL_bo {k : List VO → Env → St → (Env → St → Prop) → Prop} (hk : k = BO Γ) : stepL Γ k = BO Γ := by
  subst hk
  funext l env σ K
  cases l with
  | nil => rw [bo_eq]; rfl
  | cons o r =>
    obtain ⟨d, g, op⟩ := o
    simp only [stepL]
    rw [bo_eq]
    cases op <;> first
      | rfl
      | (rename_i x; cases x <;> (simp only [stepO, frzstep, force_eq, vops]; try rfl))
def run1 (Γ : FuncId → Spec) := stepL Γ (BO Γ)
def run2 (Γ : FuncId → Spec) := stepL Γ (run1 Γ)
def run3 (Γ : FuncId → Spec) := stepL Γ (run2 Γ)
def run4 (Γ : FuncId → Spec) := stepL Γ (run3 Γ)
def run5 (Γ : FuncId → Spec) := stepL Γ (run4 Γ)
def run6 (Γ : FuncId → Spec) := stepL Γ (run5 Γ)
def run7 (Γ : FuncId → Spec) := stepL Γ (run6 Γ)
def run8 (Γ : FuncId → Spec) := stepL Γ (run7 Γ)
theorem run8_eq : run8 Γ = BO Γ := stepL_bo (stepL_bo (stepL_bo (stepL_bo (stepL_bo (stepL_bo (stepL_bo (stepL_bo rfl)))))))
theorem bo_run {l : List VO} {K : Env → St → Prop} (h : run8 Γ l env σ K) : BO Γ l env σ K := by rw [run8_eq] at h; exact h

def stepW (Γ : FuncId → Spec) (k : VCode → (VExit → Env → St → Prop) → Env → St → Prop) (c : VCode) (Q : VExit → Env → St → Prop) (env : Env) (σ : St) : Prop := match c with
  | .skip => Q .normal env σ
  | .seq a b => k a (thenQ (BW Γ b Q) Q) env σ
  | .cond x a b => condstep (opnd env x) (k a Q env σ) (k b Q env σ)
  | .block id a => k a (blockQ id Q) env σ
  | .scope a => k a Q env σ
  | .loop a => LP Γ a Q env σ
  | .exit id => Q (.exit id) env σ
  | .ret => Q .ret env σ
  | .region false ops => run8 Γ ops env σ (Q .normal)
  | .region true ops => BW Γ (.region true ops) Q env σ
  | .keep l c => force (restrict env l) fun e => k c Q e σ
  | .join c => JN Γ c Q env σ
  | .stop l c => BW Γ (.stop l c) Q env σ
theorem stepW_bw {k : VCode → (VExit → Env → St → Prop) → Env → St → Prop} (hk : k = BW Γ) : stepW Γ k = BW Γ := by
  subst hk
  funext c Q env σ
  cases c with
  | loop a => exact propext ⟨fun ⟨h⟩ => h, fun h => ⟨h⟩⟩
  | join a => exact propext ⟨fun ⟨h⟩ => h, fun h => ⟨h⟩⟩
  | region dr ops => cases dr with
    | true => rfl
    | false => simp only [stepW, run8_eq]; rw [bw_eq, bo_eq]; rfl
  | keep l c => simp only [stepW, force_eq]; rw [bw_eq]; simp only [vwp, force_eq]
  | stop l c => rfl
  | _ => simp only [stepW]; rw [bw_eq]; rfl
def w1 (Γ : FuncId → Spec) := stepW Γ (BW Γ)
def w2 (Γ : FuncId → Spec) := stepW Γ (w1 Γ)
def w3 (Γ : FuncId → Spec) := stepW Γ (w2 Γ)
def w4 (Γ : FuncId → Spec) := stepW Γ (w3 Γ)
theorem w4_eq : w4 Γ = BW Γ := stepW_bw (stepW_bw (stepW_bw (stepW_bw rfl)))
theorem bw_run {c : VCode} (h : w4 Γ c Q env σ) : BW Γ c Q env σ := by rw [w4_eq] at h; exact h

/-- A loop: what its rounds keep, how a round makes less. -/
theorem bw_loop {α : Type} (E : α → Env) (S : α → St) (inv : α → Prop) (μ : α → Nat) (x0 : α) {l : List Nat} {a : VCode} (he : restrict env l = E x0) (hs : σ = S x0) (h0 : inv x0)
    (h : ∀ x, inv x → BW Γ a (roundQ (fun m e s => ∃ y, inv y ∧ μ y = m ∧ restrict e l = E y ∧ s = S y) (μ x) Q) (E x) (S x)) : LP Γ (.keep l a) Q env σ := by
  subst hs
  refine ⟨⟨fun m e s => ∃ y, inv y ∧ μ y = m ∧ restrict e l = E y ∧ s = S y, ⟨μ x0, x0, h0, rfl, he, rfl⟩, ?_⟩⟩
  rintro n e s ⟨y, h1, rfl, h2, rfl⟩
  simp only [vwp, force_eq]
  rw [h2]
  have := h y h1
  rw [bw_eq] at this
  exact this
theorem round_normal {α : Type} {E : α → Env} {S : α → St} {inv : α → Prop} {μ : α → Nat} {l : List Nat} {n : Nat} {e : Env} {s : St} (y : α) (h : inv y) (hμ : μ y < n) (he : restrict e l = E y) (hs : s = S y) :
    ∃ m, m < n ∧ ∃ y, inv y ∧ μ y = m ∧ restrict e l = E y ∧ s = S y := ⟨_, hμ, y, h, rfl, he, hs⟩
theorem bw_join {α : Type} (l : List Nat) (E : α → Env) (S : α → St) (inv : α → Prop) {c : VCode} (h : BW Γ c (joinQ (fun e s => ∃ y, inv y ∧ restrict e l = E y ∧ s = S y) Q) env σ)
    (k : ∀ e y, inv y → restrict e l = E y → Q .normal e (S y)) : JN Γ c Q env σ := by
  refine ⟨?_⟩
  rw [bw_eq] at *
  refine ⟨_, h, ?_⟩
  rintro e s ⟨y, h1, h2, rfl⟩
  exact k e y h1 h2
end

/-! ### a pure function's result -/
def pureFin (res : List RV) (p : PV) : VExit → Env → St → Prop
  | .exit _, _, _ => False
  | _, env, σ => withRes env σ res fun as => packRes as = .pu p
theorem pureFin_ret {res : List RV} {p : PV} {env : Env} {σ : St} : pureFin res p .ret env σ = (withRes env σ res fun as => packRes as = .pu p) := rfl
theorem pureFin_normal {res : List RV} {p : PV} {env : Env} {σ : St} : pureFin res p .normal env σ = (withRes env σ res fun as => packRes as = .pu p) := rfl

theorem withA_mono {a : Option AV} {K K' : AV → Prop} (h : ∀ a, K a → K' a) (k : withA a K) : withA a K' := by
  cases a with
  | none => exact k
  | some a => exact h a k
theorem mkV_mono {ag : Bool} {cs : List AV} {K K' : AV → Prop} (h : ∀ a, K a → K' a) (k : mkV ag cs K) : mkV ag cs K' := by
  unfold mkV at *
  cases ag with
  | true => exact h _ k
  | false =>
    match cs, k with
    | [a], k => exact h _ k
theorem withRes_mono {env : Env} {σ : St} : ∀ {res : List RV} {K K' : List AV → Prop}, (∀ as, K as → K' as) → withRes env σ res K → withRes env σ res K'
  | [], K, K', h, k => h _ k
  | .t i :: r, K, K', h, k => by
    simp only [withRes] at *
    exact withA_mono (fun a k => withRes_mono (fun as => h (a :: as)) k) k
  | .c i ag sz :: r, K, K', h, k => by
    simp only [withRes] at *
    split at k
    · unfold withO at *
      split at k
      · exact ⟨k.1, k.2.1, mkV_mono (fun a k => withRes_mono (fun as => h (a :: as)) k) k.2.2⟩
      · exact k
    · exact k

section
variable {P : Program}
theorem contract_pure {Γ : FuncId → Spec} {f : FuncId} {fn : Func} {c : Code} {vc : VCode} {res : List RV} {F : List PV → Option PV} (hΓ : Known P Γ) (hf : P.funcs[f]? = some fn) (hname : (fn.name == "runtime.NumGoroutine") = false) (hb : fn.body = some c)
    (hc : ccode P c = some (strip vc)) (hres : cres P fn.results.toList = some res) (hd : dstB fn.ntmps vc = true)
    (h : ∀ ps p, F ps = some p → ps.length ≤ fn.ntmps ∧ BW Γ vc (pureFin res p) (envFrom 0 (ps.map .pu)) []) : Contract P f (DetP F) := by
  simp only [bw_eq] at h
  refine contract_of_Q hΓ hf hname hb hc hres hd ?_
  rintro as objs r τ ⟨rfl, rfl, ps, p, h1, h2, rfl⟩
  have e := unpus_some h1
  subst e
  obtain ⟨h3, h4⟩ := h ps p h2
  refine ⟨by simpa using h3, _, h4, fun e env σ k => ?_⟩
  have fin : (withRes env σ res fun as => packRes as = .pu p) → withRes env σ res fun as => ∃ J, finOf σ 0 J (packRes as) = some (.pu p, []) := fun k => by
    refine withRes_mono (fun as ha => ?_) k
    exact ⟨[], by rw [ha]; simp [finOf, renG, keptG, nodupB]⟩
  cases e with
  | exit id => exact k
  | normal => exact fin k
  | ret => exact fin k
end
end Go.Vm
