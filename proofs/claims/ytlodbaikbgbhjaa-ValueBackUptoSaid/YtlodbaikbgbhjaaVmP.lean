/- Vm, part P: rules for proofs about code: calls of what is known, loops, joins. -/
import Derived.Test.YtlodbaikbgbhjaaVmO
set_option linter.unusedVariables false
set_option linter.unusedSimpArgs false
namespace Go.Vm
open Go Go.RowKit

/-- Specifications of different kinds are not to be confused. -/
inductive Tag (n : Nat) (p : Prop) : Prop where
  | mk (h : p)
/-- A function of pure values. -/
def DetP (F : List PV → Option PV) : Spec := fun as objs K => Tag 1 (objs = [] ∧ ∃ ps p, unpus as = some ps ∧ F ps = some p ∧ K (.pu p) [])
def NoSpec : Spec := fun _ _ _ => Tag 0 False
/-- Pure values in and out: whatever arguments are told, what comes of them. -/
def RelP {α : Type} (pre : α → Prop) (args : α → List PV) (res : α → PV) : Spec := fun as objs K => Tag 2 (objs = [] ∧ ∃ x, pre x ∧ as = (args x).map .pu ∧ K (.pu (res x)) [])
/-- Pure values in, a new row out. -/
def RelO {α : Type} (pre : α → Prop) (args : α → List PV) (e : TypeId) (n sz : α → Nat) (cs : α → List PV) : Spec := fun as objs K => Tag 3 (objs = [] ∧ ∃ x, pre x ∧ as = (args x).map .pu ∧ K (.own 0 0 0 (n x) (sz x)) [some ⟨e, 0, (cs x).map .pu⟩])
/-- A receiver of pure cells, pure values: a pure result, the receiver's cells behind the call. -/
def RelM {α : Type} (e : TypeId) (pre : α → Prop) (cells : α → List PV) (args : α → List PV) (res : α → PV) (cells' : α → List PV) : Spec := fun as objs K => Tag 4 (∃ g x, pre x ∧ as = .ptr 0 g 0 :: (args x).map .pu ∧ objs = [⟨e, g, (cells x).map .pu⟩] ∧ K (.pu (res x)) [some ⟨e, g, (cells' x).map .pu⟩])
/-- Pure values in, a pointer to a new object of pure cells out. -/
def RelN {α : Type} (e : TypeId) (pre : α → Prop) (args : α → List PV) (cells : α → List PV) : Spec := fun as objs K => Tag 5 (objs = [] ∧ ∃ x, pre x ∧ as = (args x).map .pu ∧ K (.ptr 0 0 0) [some ⟨e, 0, (cells x).map .pu⟩])
/-- Whatever it is handed. -/
def Rel {α : Type} (pre : α → Prop) (args : α → List AV) (objs : α → List VObj) (res : α → AV) (τ : α → St) : Spec := fun as os K => Tag 6 (∃ x, pre x ∧ as = args x ∧ os = objs x ∧ K (res x) (τ x))

theorem refIds_none : ∀ (as : List AV), hasPtrs as = false → refIds [] as = []
  | [], _ => rfl
  | a :: as, h => by
    simp only [hasPtrs, Bool.or_eq_false_iff] at h
    simp only [refIds, h.1, refIds_none as h.2]
theorem passArgs_nil (σ : St) : ∀ (as : List AV), hasPtrs as = false → passArgs σ [] [] as = (snaps σ as).map fun ps => (ps.map .pu, !as.all isPu)
  | [], _ => by simp [passArgs, snaps]
  | a :: as, h => by
    simp only [hasPtrs, Bool.or_eq_false_iff] at h
    have e : ((ids a).all fun id => !([] : List Nat).contains id) = true := by simp
    simp only [passArgs, h.1, byVal, snaps, passArgs_nil σ as h.2, e, if_true]
    cases snap σ a <;> cases snaps σ as <;> simp [List.all_cons, Bool.or_comm, Bool.not_and]

theorem map_pu_inj : ∀ {ps qs : List PV}, ps.map AV.pu = qs.map AV.pu → ps = qs
  | [], [], _ => rfl
  | [], _ :: _, h => by simp at h
  | _ :: _, [], h => by simp at h
  | p :: ps, q :: qs, h => by
    simp only [List.map_cons, List.cons.injEq, AV.pu.injEq] at h
    rw [h.1, map_pu_inj h.2]

theorem close_nil (σ : St) : closeN σ 6 (addNew [] []) = [] := by
  simp [closeN, addNew, growI]

theorem backQ_nil {σ : St} {bor : Bool} {Q : AV → St → Prop} {p : PV} (h : bor = true → noSlP p = true) (k : Q (.pu p) σ) : backQ [] σ.length bor σ Q (.pu p) [] :=
  ⟨Nat.le_refl _, fun hb => ⟨by simpa only [noSl] using h hb, rfl⟩, by simpa only [ren, renSt, setAll, List.drop_zero, List.length_nil, List.append_nil] using k⟩
theorem vcall_nil {R : Spec} {as : List AV} {σ : St} {Q : AV → St → Prop} {ps : List PV} (hn : hasPtrs as = false) (hs : snaps σ as = some ps) (h : ∃ K, R (ps.map .pu) [] K ∧ ∀ r τ, K r τ → backQ [] σ.length (!as.all isPu) σ Q r τ) : VCall R [] as σ Q := by
  refine .mk ?_
  unfold vcall
  simp only [refIds_none as hn, close_nil, passArgs_nil σ as hn, nodupB, true_and, objsOf, hs, Option.map_some]
  exact h

/-- what is known of functions: a list -/
def ofList : List (Nat × Spec) → FuncId → Spec
  | [], _ => NoSpec
  | (j, R) :: l, f => if j = f then R else ofList l f
theorem Known.nil {P : Program} : Known P (ofList []) := fun f => .inl fun _ _ _ ⟨h⟩ => h
theorem Known.cons {P : Program} {l : List (Nat × Spec)} {f : Nat} {R : Spec} (h : Contract P f R) (k : Known P (ofList l)) : Known P (ofList ((f, R) :: l)) := by
  intro g
  simp only [ofList]
  split
  · rename_i e; subst e; exact .inr (.inl h)
  · exact k g
theorem Known.consX {P : Program} {l : List (Nat × Spec)} {f : Nat} {R : Spec} (h : XContract P f R) (k : Known P (ofList l)) : Known P (ofList ((f, R) :: l)) := by
  intro g
  simp only [ofList]
  split
  · rename_i e; subst e; exact .inr (.inr h)
  · exact k g

theorem call_pure {F : List PV → Option PV} {as : List AV} {σ : St} {Q : AV → St → Prop} {ps : List PV} {p : PV} (hs : snaps σ as = some ps) (hF : F ps = some p) (hb : as.all isPu = true ∨ noSlP p = true) (k : Q (.pu p) σ) (hn : hasPtrs as = false := by rfl) : VCall (DetP F) [] as σ Q := by
  refine vcall_nil hn hs ⟨fun r τ => r = .pu p ∧ τ = [], ⟨rfl, ps, p, unpus_map ps, hF, rfl, rfl⟩, ?_⟩
  rintro r τ ⟨rfl, rfl⟩
  exact backQ_nil (fun h => hb.resolve_left (by simpa using h)) k
theorem call_rel {α : Type} {pre : α → Prop} {args : α → List PV} {res : α → PV} {as : List AV} {σ : St} {Q : AV → St → Prop} {x : α} {p : PV} (hs : snaps σ as = some (args x)) (hp : pre x) (hr : res x = p) (hb : as.all isPu = true ∨ noSlP p = true) (k : Q (.pu p) σ) (hn : hasPtrs as = false := by rfl) : VCall (RelP pre args res) [] as σ Q := by
  subst hr
  refine vcall_nil hn hs ⟨fun r τ => r = .pu (res x) ∧ τ = [], ⟨rfl, x, hp, rfl, rfl, rfl⟩, ?_⟩
  rintro r τ ⟨rfl, rfl⟩
  exact backQ_nil (fun h => hb.resolve_left (by simpa using h)) k

theorem pbytes_len1 (xs : List Int) : (pbytes xs).length = xs.length * 1 := by simp [pbytes]
/-- a condition that no reduction looks into -/
noncomputable def chk {α : Type} (C : Prop) (x : Option α) : Option α := @ite _ C (Classical.propDecidable C) x none
theorem chk_pos {α : Type} {C : Prop} {x : Option α} (h : C) : chk C x = x := by unfold chk; exact if_pos h
theorem chk_some {α : Type} {C : Prop} {x : Option α} {y : α} (h : chk C x = some y) : C ∧ x = some y := by
  unfold chk at h
  split at h
  · exact ⟨by assumption, h⟩
  · cases h
def condV (c : AV) (A B : Prop) : Prop := match c with
  | .pu (.val (.bool t)) => Br A B t
  | _ => False

theorem box_of {p q : Prop} (h : p = q) (k : q) : Box p := ⟨h ▸ k⟩

/-! ### rules for code, one step each -/
theorem br_intro {t : Bool} {A B : Prop} (h : t = true → A) (k : t = false → B) : Br A B t := by cases t; exact .ff (k rfl); exact .tt (h rfl)
theorem br_of_true {t : Bool} {A B : Prop} (e : t = true) (h : A) : Br A B t := by subst e; exact .tt h
theorem br_of_false {t : Bool} {A B : Prop} (e : t = false) (h : B) : Br A B t := by subst e; exact .ff h
theorem br_dec_tt {p A B : Prop} {i : Decidable p} (e : p) (h : A) : Br A B (@decide p i) := by rw [br_dec, if_pos e]; exact h
theorem br_dec_ff {p A B : Prop} {i : Decidable p} (e : ¬ p) (h : B) : Br A B (@decide p i) := by rw [br_dec, if_neg e]; exact h
theorem br_dec_intro {p A B : Prop} {i : Decidable p} (h : p → A) (k : ¬ p → B) : Br A B (@decide p i) := by
  by_cases e : p
  · exact br_dec_tt e (h e)
  · exact br_dec_ff e (k e)
theorem br_beq_tt {a b : Int} {A B : Prop} (e : a = b) (h : A) : Br A B (a == b) := br_of_true (by simpa using e) h
theorem br_beq_ff {a b : Int} {A B : Prop} (e : ¬ a = b) (h : B) : Br A B (a == b) := br_of_false (by simpa using e) h
theorem br_beq_intro {a b : Int} {A B : Prop} (h : a = b → A) (k : ¬ a = b → B) : Br A B (a == b) := by
  by_cases e : a = b
  · exact br_beq_tt e (h e)
  · exact br_beq_ff e (k e)
theorem br_bne_tt {a b : Int} {A B : Prop} (e : ¬ a = b) (h : A) : Br A B (a != b) := br_of_true (by simpa using e) h
theorem br_bne_ff {a b : Int} {A B : Prop} (e : a = b) (h : B) : Br A B (a != b) := br_of_false (by simpa using e) h
theorem br_bne_intro {a b : Int} {A B : Prop} (h : ¬ a = b → A) (k : a = b → B) : Br A B (a != b) := by
  by_cases e : a = b
  · exact br_bne_ff e (k e)
  · exact br_bne_tt e (h e)
theorem br_not {t : Bool} {A B : Prop} (h : Br B A t) : Br A B (!t) := by
  cases h with
  | tt h => exact .ff h
  | ff h => exact .tt h
theorem and_rfl {α : Type} {a : α} {B : Prop} (k : B) : a = a ∧ B := ⟨rfl, k⟩
theorem and_late {A B : Prop} (k : A → B) (h : A) : A ∧ B := ⟨h, k h⟩
theorem ite_intro {c A B : Prop} {i : Decidable c} (h : c → A) (k : ¬ c → B) : @ite _ c i A B := by split <;> rename_i q; exact h q; exact k q
section
variable {Γ : FuncId → Spec} {Q : VExit → Env → St → Prop} {env : Env} {σ : St}

/-- What code computes, in a form that no reduction takes apart: rules do. -/
inductive BW (Γ : FuncId → Spec) (c : VCode) (Q : VExit → Env → St → Prop) (env : Env) (σ : St) : Prop where
  | mk (h : vwp Γ c Q env σ)
inductive BO (Γ : FuncId → Spec) (l : List VO) (env : Env) (σ : St) (K : Env → St → Prop) : Prop where
  | mk (h : vops Γ l env σ K)
theorem bw_eq : BW = vwp := by
  funext Γ c Q env σ
  exact propext ⟨fun ⟨h⟩ => h, fun h => ⟨h⟩⟩
theorem bo_eq : BO = vops := by
  funext Γ l env σ K
  exact propext ⟨fun ⟨h⟩ => h, fun h => ⟨h⟩⟩

def opstep (Γ : FuncId → Spec) (d : Option Nat) (g : Option (Nat × Bool)) (op : VOp) (env : Env) (σ : St) (K : Env → St → Prop) : Prop :=
  guardQ env g (vop1 Γ env σ (fun a σ' => force (putd env d a) fun env' => force σ' fun σ'' => K env' σ'') op) (force (putd env d noV) fun env' => K env' σ)
theorem bo_nil {K : Env → St → Prop} (h : K env σ) : BO Γ [] env σ K := ⟨h⟩
theorem bo_cons {d : Option Nat} {g : Option (Nat × Bool)} {op : VOp} {r : List VO} {K : Env → St → Prop} (h : opstep Γ d g op env σ fun e s => BO Γ r e s K) (hf : isFrz op = false) : BO Γ (⟨d, g, op⟩ :: r) env σ K := by
  rw [bo_eq] at *
  cases op <;> first | exact h | simp [isFrz] at hf
def frzstep (i : Nat) (env : Env) (σ : St) (K : Env → St → Prop) : Prop := match get env i with
  | some a => match snap σ a with
    | some p => force (put env i (.pu p)) fun env' => force (killAll σ (ids a)) fun σ' => K env' σ'
    | none => False
  | none => False
theorem bo_frz {d : Option Nat} {g : Option (Nat × Bool)} {i : Nat} {r : List VO} {K : Env → St → Prop} (h : frzstep i env σ fun e s => BO Γ r e s K) : BO Γ (⟨d, g, .frz (.t i)⟩ :: r) env σ K := by
  unfold frzstep at h
  rw [bo_eq] at *
  simp only [force_eq] at h
  exact h
theorem bo_kp {d : Option Nat} {g : Option (Nat × Bool)} {l : List Nat} {r : List VO} {K : Env → St → Prop} (h : force (restrict env l) fun e => BO Γ r e σ K) : BO Γ (⟨d, g, .kp l⟩ :: r) env σ K := by
  rw [bo_eq] at *
  exact h
theorem bo_kcons {d d' : Option Nat} {g g' : Option (Nat × Bool)} {op : VOp} {l : List Nat} {r : List VO} {K : Env → St → Prop} (h : opstep Γ d g op env σ fun e s => force (restrict e l) fun e => BO Γ r e s K) (hf : isFrz op = false) : BO Γ (⟨d, g, op⟩ :: ⟨d', g', .kp l⟩ :: r) env σ K := by
  refine bo_cons (r := ⟨d', g', .kp l⟩ :: r) ?_ hf
  have e : (fun e s => force (restrict e l) fun e => BO Γ r e s K) = (fun e s => BO Γ (⟨d', g', .kp l⟩ :: r) e s K) := by
    rw [bo_eq]
    rfl
  rw [e] at h
  exact h
theorem bw_skip (h : Q .normal env σ) : BW Γ .skip Q env σ := ⟨h⟩
theorem bw_seq {a b : VCode} (h : BW Γ a (thenQ (BW Γ b Q) Q) env σ) : BW Γ (.seq a b) Q env σ := by rw [bw_eq] at *; exact h
theorem bw_block {id : Nat} {a : VCode} (h : BW Γ a (blockQ id Q) env σ) : BW Γ (.block id a) Q env σ := by rw [bw_eq] at *; exact h
theorem bw_scope {a : VCode} (h : BW Γ a Q env σ) : BW Γ (.scope a) Q env σ := by rw [bw_eq] at *; exact h
theorem bw_exit {id : Nat} (h : Q (.exit id) env σ) : BW Γ (.exit id) Q env σ := ⟨h⟩
theorem bw_ret (h : Q .ret env σ) : BW Γ .ret Q env σ := ⟨h⟩
theorem bw_region {ops : List VO} (h : BO Γ ops env σ (Q .normal)) : BW Γ (.region false ops) Q env σ := by rw [bw_eq]; rw [bo_eq] at h; exact h
def keepstep (l : List Nat) (env : Env) (K : Env → Prop) : Prop := force (restrict env l) K
theorem bw_keep {l : List Nat} {c : VCode} (h : keepstep l env fun e => BW Γ c Q e σ) : BW Γ (.keep l c) Q env σ := by rw [bw_eq] at *; exact h
def condstep (c : Option AV) (A B : Prop) : Prop := match c with
  | some (.pu (.val (.bool t))) => Br A B t
  | _ => False
theorem bw_cond {x : X} {a b : VCode} (h : condstep (opnd env x) (BW Γ a Q env σ) (BW Γ b Q env σ)) : BW Γ (.cond x a b) Q env σ := by rw [bw_eq] at *; exact h

/-! many steps at once -/
inductive LP (Γ : FuncId → Spec) (a : VCode) (Q : VExit → Env → St → Prop) (env : Env) (σ : St) : Prop where
  | mk (h : BW Γ (.loop a) Q env σ)
inductive JN (Γ : FuncId → Spec) (a : VCode) (Q : VExit → Env → St → Prop) (env : Env) (σ : St) : Prop where
  | mk (h : BW Γ (.join a) Q env σ)
def stepO (Γ : FuncId → Spec) (o : VO) (env : Env) (σ : St) (K : Env → St → Prop) : Prop := match o with
  | ⟨d, g, op⟩ => match op with
    | .frz (.t i) => frzstep i env σ K
    | .frz (.c _) => False
    | .kp l => force (restrict env l) fun e => K e σ
    | op => opstep Γ d g op env σ K
def stepL (Γ : FuncId → Spec) (k : List VO → Env → St → (Env → St → Prop) → Prop) (l : List VO) (env : Env) (σ : St) (K : Env → St → Prop) : Prop := match l with
  | [] => K env σ
  | o :: r => stepO Γ o env σ fun e s => k r e s K
theorem stepL_bo {k : List VO → Env → St → (Env → St → Prop) → Prop} (hk : k = BO Γ) : stepL Γ k = BO Γ := by
  subst hk
  funext l env σ K
  cases l with
  | nil => rw [bo_eq]; rfl
  | cons o r =>
    obtain ⟨d, g, op⟩ := o
    simp only [stepL]
    rw [bo_eq]
    cases op <;> first
      | rfl
      | (rename_i x; cases x <;> (simp only [stepO, frzstep, force_eq, vops]; try rfl))
def run1 (Γ : FuncId → Spec) := stepL Γ (BO Γ)
def run2 (Γ : FuncId → Spec) := stepL Γ (run1 Γ)
def run3 (Γ : FuncId → Spec) := stepL Γ (run2 Γ)
def run4 (Γ : FuncId → Spec) := stepL Γ (run3 Γ)
def run5 (Γ : FuncId → Spec) := stepL Γ (run4 Γ)
def run6 (Γ : FuncId → Spec) := stepL Γ (run5 Γ)
def run7 (Γ : FuncId → Spec) := stepL Γ (run6 Γ)
def run8 (Γ : FuncId → Spec) := stepL Γ (run7 Γ)
theorem run8_eq : run8 Γ = BO Γ := stepL_bo (stepL_bo (stepL_bo (stepL_bo (stepL_bo (stepL_bo (stepL_bo (stepL_bo rfl)))))))
theorem bo_run {l : List VO} {K : Env → St → Prop} (h : run8 Γ l env σ K) : BO Γ l env σ K := by rw [run8_eq] at h; exact h

/-- A region that draws its order, in a form that no reduction takes apart. -/
inductive BD (Γ : FuncId → Spec) (E : Env) (t : DT) (env : Env) (σ : St) (K : Env → St → Prop) : Prop where
  | mk (h : drawQ Γ E t env σ K)
theorem bd_eq {E : Env} : BD Γ E = drawQ Γ E := by
  funext t env σ K
  exact propext ⟨fun ⟨h⟩ => h, fun h => ⟨h⟩⟩
def stepD (Γ : FuncId → Spec) (E : Env) (k : DT → Env → St → (Env → St → Prop) → Prop) (t : DT) (env : Env) (σ : St) (K : Env → St → Prop) : Prop := match t with
  | .done => K env σ
  | .op true ts ⟨d, g, op⟩ r => guardQ env g (force (maskG (watch E ts) 0 σ) fun τ => vop (restrict env (uses op)) τ (fun a _ => force (putd env d a) fun env' => k r env' σ K) op) (force (putd env d noV) fun env' => k r env' σ K)
  | .op false ts ⟨d, g, op⟩ r => guardQ env g (vop1 Γ (restrict env (uses op)) σ (fun a σ' => force σ' fun σ'' => keepL σ σ'' (watch E ts) ∧ force (putd env d a) fun env' => k r env' σ'' K) op) (force (putd env d noV) fun env' => k r env' σ K)
  | .both a b => Both (k a env σ K) (k b env σ K)
theorem stepD_bd {E : Env} {k : DT → Env → St → (Env → St → Prop) → Prop} (hk : k = BD Γ E) : stepD Γ E k = BD Γ E := by
  subst hk
  funext t env σ K
  rw [bd_eq]
  cases t with
  | done => rfl
  | both a b => rfl
  | op b ts vo r =>
    obtain ⟨d, g, op⟩ := vo
    cases b <;> simp only [stepD, drawQ, force_eq]
def d1 (Γ : FuncId → Spec) (E : Env) := stepD Γ E (BD Γ E)
def d2 (Γ : FuncId → Spec) (E : Env) := stepD Γ E (d1 Γ E)
def d3 (Γ : FuncId → Spec) (E : Env) := stepD Γ E (d2 Γ E)
def d4 (Γ : FuncId → Spec) (E : Env) := stepD Γ E (d3 Γ E)
theorem d4_eq {E : Env} : d4 Γ E = BD Γ E := stepD_bd (stepD_bd (stepD_bd (stepD_bd rfl)))
theorem bd_run {E : Env} {t : DT} {K : Env → St → Prop} (h : d4 Γ E t env σ K) : BD Γ E t env σ K := by rw [d4_eq] at h; exact h
theorem keepL_nil {σ σ' : St} : keepL σ σ' [] := trivial
theorem keepL_refl {σ : St} (L : List Nat) : keepL σ σ L := keepL_iff.2 fun _ _ => rfl

def stepW (Γ : FuncId → Spec) (k : VCode → (VExit → Env → St → Prop) → Env → St → Prop) (c : VCode) (Q : VExit → Env → St → Prop) (env : Env) (σ : St) : Prop := match c with
  | .skip => Q .normal env σ
  | .seq a b => k a (thenQ (BW Γ b Q) Q) env σ
  | .cond x a b => condstep (opnd env x) (k a Q env σ) (k b Q env σ)
  | .block id a => k a (blockQ id Q) env σ
  | .scope a => k a Q env σ
  | .loop a => LP Γ a Q env σ
  | .exit id => Q (.exit id) env σ
  | .ret => Q .ret env σ
  | .region false ops => run8 Γ ops env σ (Q .normal)
  | .region true ops => BW Γ (.region true ops) Q env σ
  | .draws l t => BD Γ env t env σ fun e s => force (restrict e l) fun e' => Q .normal e' s
  | .keep l c => force (restrict env l) fun e => k c Q e σ
  | .join c => JN Γ c Q env σ
  | .stop l c => BW Γ (.stop l c) Q env σ
  | .bad => BW Γ .bad Q env σ
theorem stepW_bw {k : VCode → (VExit → Env → St → Prop) → Env → St → Prop} (hk : k = BW Γ) : stepW Γ k = BW Γ := by
  subst hk
  funext c Q env σ
  cases c with
  | loop a => exact propext ⟨fun ⟨h⟩ => h, fun h => ⟨h⟩⟩
  | join a => exact propext ⟨fun ⟨h⟩ => h, fun h => ⟨h⟩⟩
  | region dr ops => cases dr with
    | true => rfl
    | false => simp only [stepW, run8_eq]; rw [bw_eq, bo_eq]; rfl
  | keep l c => simp only [stepW, force_eq]; rw [bw_eq]; simp only [vwp, force_eq]
  | stop l c => rfl
  | bad => rfl
  | draws l t => simp only [stepW, bd_eq]; rw [bw_eq]; rfl
  | _ => simp only [stepW]; rw [bw_eq]; rfl
def w1 (Γ : FuncId → Spec) := stepW Γ (BW Γ)
def w2 (Γ : FuncId → Spec) := stepW Γ (w1 Γ)
def w3 (Γ : FuncId → Spec) := stepW Γ (w2 Γ)
def w4 (Γ : FuncId → Spec) := stepW Γ (w3 Γ)
theorem w4_eq : w4 Γ = BW Γ := stepW_bw (stepW_bw (stepW_bw (stepW_bw rfl)))
theorem bw_run {c : VCode} (h : w4 Γ c Q env σ) : BW Γ c Q env σ := by rw [w4_eq] at h; exact h

/-- A loop: what its rounds keep, how a round makes less. -/
theorem bw_loop {α : Type} (E : α → Env) (S : α → St) (inv : α → Prop) (μ : α → Nat) (x0 : α) {l : List Nat} {a : VCode} (he : restrict env l = E x0) (hs : σ = S x0) (h0 : inv x0)
    (h : ∀ x, inv x → BW Γ a (roundQ (fun m e s => ∃ y, inv y ∧ μ y = m ∧ restrict e l = E y ∧ s = S y) (μ x) Q) (E x) (S x)) : LP Γ (.keep l a) Q env σ := by
  subst hs
  refine ⟨⟨fun m e s => ∃ y, inv y ∧ μ y = m ∧ restrict e l = E y ∧ s = S y, _, ⟨μ x0, x0, h0, rfl, he, rfl⟩, fun _ _ _ h => .inl h, ?_⟩⟩
  rintro n e s ⟨y, h1, rfl, h2, rfl⟩
  simp only [vwp, force_eq]
  rw [h2]
  have := h y h1
  rw [bw_eq] at this
  exact this
theorem get_restrict_mem : ∀ (l : List Nat) (env : Env) (i : Nat), i ∈ l → get (restrict env l) i = get env i
  | [], _, _, h => by cases h
  | j :: l, env, i, h => by
    simp only [restrict]
    cases hj : get env j with
    | some b =>
      simp only [get_cons]
      by_cases he : j = i
      · subst he; rw [if_pos rfl, hj]
      · rw [if_neg he]
        rcases List.mem_cons.1 h with rfl | h
        · exact absurd rfl he
        · exact get_restrict_mem l env i h
    | none =>
      rcases List.mem_cons.1 h with rfl | h
      · simp only [hj]
        cases hg : get (restrict env l) i with
        | none => rfl
        | some a => rw [get_restrict l env i a hg] at hj; cases hj
      · exact get_restrict_mem l env i h
theorem restrict_sub : ∀ (l l' : List Nat) (env : Env), (∀ i ∈ l, i ∈ l') → restrict (restrict env l') l = restrict env l
  | [], _, _, _ => rfl
  | i :: l, l', env, h => by
    simp only [restrict]
    rw [get_restrict_mem l' env i (h i (by simp)), restrict_sub l l' env (fun j hj => h j (by simp [hj]))]
/-- A loop whose rounds leave objects behind that nothing leads to: they are let go at each round's end. -/
theorem bw_loopT {α : Type} (E : α → Env) (S : α → St) (inv : α → Prop) (μ : α → Nat) (x0 : α) {l : List Nat} {a : VCode} (he : restrict env l = E x0) (hs : σ = S x0) (h0 : inv x0)
    (hE : ∀ y, inv y → okEnv (S x0).length (E y)) (hS : ∀ y, inv y → okSt (S x0).length (S y))
    (h : ∀ x, inv x → BW Γ a (roundQ (fun m e s => ∃ y, inv y ∧ μ y = m ∧ restrict e l = E y ∧ s.take (S x0).length = S y) (μ x) Q) (E x) (S x)) : LP Γ (.keep l a) Q env σ := by
  subst hs
  refine ⟨⟨fun m e s => ∃ y, inv y ∧ μ y = m ∧ restrict e l = E y ∧ s = S y, fun m e s => ∃ y, inv y ∧ μ y = m ∧ restrict e l = E y ∧ s.take (S x0).length = S y, ⟨μ x0, x0, h0, rfl, he, rfl⟩, ?_, ?_⟩⟩
  · rintro m e s ⟨y, h1, h2, h3, h4⟩
    refine .inr ⟨l, _, Nat.le_refl _, ?_, ?_, y, h1, h2, ?_, h4⟩
    · rw [h3]; exact hE y h1
    · rw [h4]; exact hS y h1
    · rw [restrict_sub l l e (fun _ h => h), h3]
  · rintro n e s ⟨y, h1, rfl, h2, rfl⟩
    simp only [vwp, force_eq]
    rw [h2]
    have := h y h1
    rw [bw_eq] at this
    exact this
theorem round_normal {α : Type} {E : α → Env} {S : α → St} {inv : α → Prop} {μ : α → Nat} {l : List Nat} {n : Nat} {e : Env} {s : St} (y : α) (h : inv y) (hμ : μ y < n) (he : restrict e l = E y) (hs : s = S y) :
    ∃ m, m < n ∧ ∃ y, inv y ∧ μ y = m ∧ restrict e l = E y ∧ s = S y := ⟨_, hμ, y, h, rfl, he, hs⟩
theorem bw_join {α : Type} (l : List Nat) (E : α → Env) (S : α → St) (inv : α → Prop) {c : VCode} (h : BW Γ c (joinQ (fun e s => ∃ y, inv y ∧ restrict e l = E y ∧ s = S y) Q) env σ)
    (k : ∀ e y, inv y → restrict e l = E y → Q .normal e (S y)) : JN Γ c Q env σ := by
  refine ⟨?_⟩
  rw [bw_eq] at *
  refine ⟨_, h, ?_⟩
  rintro e s ⟨y, h1, h2, rfl⟩
  exact k e y h1 h2
end

/-! ### results -/
/-- what is left of a result where no object is handed on -/
def pureFin (res : List RV) (p : PV) : VExit → Env → St → Prop
  | .exit _, _, _ => False
  | _, env, σ => withRes env σ res fun as => renG σ [] 0 (packRes as) = some (.pu p)

theorem withA_mono {a : Option AV} {K K' : AV → Prop} (h : ∀ a, K a → K' a) (k : withA a K) : withA a K' := by
  cases a with
  | none => exact k
  | some a => exact h a k
theorem mkV_mono {ag : Bool} {cs : List AV} {K K' : AV → Prop} (h : ∀ a, K a → K' a) (k : mkV ag cs K) : mkV ag cs K' := by
  unfold mkV at *
  cases ag with
  | true => exact h _ k
  | false =>
    match cs, k with
    | [a], k => exact h _ k
theorem withRes_mono {env : Env} {σ : St} : ∀ {res : List RV} {K K' : List AV → Prop}, (∀ as, K as → K' as) → withRes env σ res K → withRes env σ res K'
  | [], K, K', h, k => h _ k
  | .t i :: r, K, K', h, k => by
    simp only [withRes] at *
    exact withA_mono (fun a k => withRes_mono (fun as => h (a :: as)) k) k
  | .c i ag sz :: r, K, K', h, k => by
    simp only [withRes] at *
    split at k
    · unfold withO at *
      split at k
      · exact ⟨k.1, k.2.1, mkV_mono (fun a k => withRes_mono (fun as => h (a :: as)) k) k.2.2⟩
      · exact k
    · exact k

theorem finOf_nil {σ : St} {r r' : AV} (h : renG σ [] 0 r = some r') : finOf σ 0 [] r = some (r', []) := by
  simp [finOf, keptG, nodupB, h]
theorem pureFin_fin {res : List RV} {p : PV} {C : AV → St → Prop} {e : VExit} {env : Env} {σ : St} (hC : C (.pu p) []) (h : pureFin res p e env σ) : finQ res 0 C e env σ := by
  have fin : (withRes env σ res fun as => renG σ [] 0 (packRes as) = some (.pu p)) → withRes env σ res fun as => ∃ J r τ, finOf σ 0 J (packRes as) = some (r, τ) ∧ C r τ :=
    withRes_mono fun as ha => ⟨[], _, _, finOf_nil ha, hC⟩
  cases e with
  | exit id => exact h
  | normal => exact fin h
  | ret => exact fin h
/-- a row of one's own that is let go -/
theorem renG_own {σ : St} {id g n sz : Nat} {e : TypeId} {cs : List PV} (h : σ[id]? = some (some ⟨e, g, cs.map .pu⟩)) (hl : cs.length = n * sz) : renG σ [] 0 (.own id g 0 n sz) = some (.pu (.sl n cs)) := by
  have : snap σ (.own id g 0 n sz) = some (.sl n cs) := by
    simp only [snap, h, if_true, List.drop_zero]
    rw [List.take_of_length_le (by simp [hl]), unpus_map]
    rfl
  simp only [renG, idx, this, Option.map_some]
theorem snap_own {σ : St} {id g n sz : Nat} {e : TypeId} {cs : List PV} (h : σ[id]? = some (some ⟨e, g, cs.map .pu⟩)) (hl : cs.length = n * sz) : snap σ (.own id g 0 n sz) = some (.sl n cs) := by
  simp only [snap, h, if_true, List.drop_zero]
  rw [List.take_of_length_le (by simp [hl]), unpus_map]
  rfl

section
variable {P : Program}
theorem contract_pure {Γ : FuncId → Spec} {f : FuncId} {fn : Func} {c : Code} {vc : VCode} {res : List RV} {F : List PV → Option PV} (hΓ : Known P Γ) (hf : P.funcs[f]? = some fn) (hname : (fn.name == "runtime.NumGoroutine") = false) (hb : fn.body = some c)
    (hc : ccode P c = some (strip vc)) (hres : cres P fn.results.toList = some res) (hd : dstB fn.ntmps vc = true)
    (h : ∀ ps p, F ps = some p → ps.length ≤ fn.ntmps ∧ BW Γ vc (pureFin res p) (envFrom 0 (ps.map .pu)) []) : Contract P f (DetP F) := by
  simp only [bw_eq] at h
  refine contract_of_Q hΓ hf hname hb hc hres hd ?_
  rintro as objs K ⟨rfl, ps, p, h1, h2, hK⟩
  have e := unpus_some h1
  subst e
  obtain ⟨h3, h4⟩ := h ps p h2
  exact ⟨by simpa using h3, _, h4, fun e env σ k => pureFin_fin hK k⟩
theorem contract_rel {Γ : FuncId → Spec} {f : FuncId} {fn : Func} {c : Code} {vc : VCode} {res : List RV} {α : Type} {pre : α → Prop} {args : α → List PV} {out : α → PV} (hΓ : Known P Γ) (hf : P.funcs[f]? = some fn) (hname : (fn.name == "runtime.NumGoroutine") = false) (hb : fn.body = some c)
    (hc : ccode P c = some (strip vc)) (hres : cres P fn.results.toList = some res) (hd : dstB fn.ntmps vc = true) (hl : ∀ x, pre x → (args x).length ≤ fn.ntmps)
    (h : ∀ x, pre x → BW Γ vc (pureFin res (out x)) (envFrom 0 ((args x).map .pu)) []) : Contract P f (RelP pre args out) := by
  simp only [bw_eq] at h
  refine contract_of_Q hΓ hf hname hb hc hres hd ?_
  rintro as objs K ⟨rfl, x, h1, rfl, hK⟩
  exact ⟨by simpa using hl x h1, _, h x h1, fun e env σ k => pureFin_fin hK k⟩
/-- The function is gone through where it is called. -/
def Inl (Γ : FuncId → Spec) (vc : VCode) (res : List RV) (nt : Nat) : Spec := fun as objs K => Tag 7 (as.length ≤ nt ∧ BW Γ vc (finQ res objs.length K) (envFrom 0 as) (objs.map some))
theorem contract_inl {Γ : FuncId → Spec} {f : FuncId} {fn : Func} {c : Code} {vc : VCode} {res : List RV} (hΓ : Known P Γ) (hf : P.funcs[f]? = some fn) (hname : (fn.name == "runtime.NumGoroutine") = false) (hb : fn.body = some c)
    (hc : ccode P c = some (strip vc)) (hres : cres P fn.results.toList = some res) (hd : dstB fn.ntmps vc = true) : Contract P f (Inl Γ vc res fn.ntmps) := by
  refine contract_of hΓ hf hname hb hc hres hd ?_
  rintro as objs K ⟨h1, h2⟩
  rw [bw_eq] at h2
  exact ⟨h1, h2⟩
end
end Go.Vm
