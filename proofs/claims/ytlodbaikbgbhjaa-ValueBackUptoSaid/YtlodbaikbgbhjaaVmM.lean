/- Vm, part M: operations one behind the other, code, loops, functions. -/
import Derived.Test.YtlodbaikbgbhjaaVmL
set_option linter.unusedVariables false
set_option linter.unusedSimpArgs false
namespace Go.Vm
open Go Go.RowKit

/-! ### one operation, calls too -/
def vop1 (Γ : FuncId → Spec) (env : Env) (σ : St) (Q : AV → St → Prop) : VOp → Prop
  | .call f by_ xs => withAs env xs fun as => VCall (Γ f) by_ as σ Q
  | .callV x by_ xs => match opnd env x with
    | some (.pu (.fn (.func f) fi ca)) => withAs env xs fun as => VCall (Γ f) by_ (fi.map .pu ++ as ++ ca.map .pu) σ Q
    | some (.fn (.func f) fi ca) => withAs env xs fun as => VCall (Γ f) by_ (fi ++ as ++ ca) σ Q
    | _ => False
  | op => vop env σ Q op

def frzC (σ : St) (id k : Nat) (Q : St → Prop) : Prop := match σ[id]? with
  | some (some o) => match o.cs[k]? with
    | some c => match snap σ c with
      | some p => (ids c).contains id = false ∧ Q (killAll (σ.set id (some ⟨o.e, o.g, o.cs.set k (.pu p)⟩)) (ids c))
      | none => False
    | none => False
  | _ => False

def putd (env : Env) : Option Nat → AV → Env
  | none, _ => env
  | some d, a => put env d a
def guardQ (env : Env) (g : Option (Nat × Bool)) (yes no : Prop) : Prop := match g with
  | none => yes
  | some (s, true) => match get env s with
    | some (.pu (.val (.bool b))) => Br yes no b
    | some (.pu (.val (.tuple _))) => no
    | _ => False
  | some (s, false) => match get env s with
    | some (.pu (.val (.bool b))) => Br no yes b
    | some (.pu (.val (.tuple _))) => no
    | _ => False

def vops (Γ : FuncId → Spec) : List VO → Env → St → (Env → St → Prop) → Prop
  | [], env, σ, Q => Q env σ
  | ⟨d, g, op⟩ :: r, env, σ, Q => match op with
    | .frz (.t i) => match get env i with
      | some a => match snap σ a with
        | some p => vops Γ r (put env i (.pu p)) (killAll σ (ids a)) Q
        | none => False
      | none => False
    | .frz _ => False
    | .kp l => force (restrict env l) fun env' => vops Γ r env' σ Q
    | op => guardQ env g (vop1 Γ env σ (fun a σ' => force (putd env d a) fun env' => force σ' fun σ'' => vops Γ r env' σ'' Q) op) (force (putd env d noV) fun env' => vops Γ r env' σ Q)

/-! ### a region that draws its order -/
def usesX : X → List Nat
  | .t i => [i]
  | .c _ => []
def usesO : Option X → List Nat
  | some x => usesX x
  | none => []
def usesXs : List X → List Nat
  | [] => []
  | x :: xs => usesX x ++ usesXs xs
def usesP : List (Nat × Nat × X) → List Nat
  | [] => []
  | (_, _, x) :: r => usesX x ++ usesP r
/-- the temps that an operation reads -/
def uses : VOp → List Nat
  | .mv x => usesX x
  | .nilRow _ _ => []
  | .pick c a b => usesX c ++ (usesX a ++ usesX b)
  | .box _ x => usesX x
  | .alloc _ _ => []
  | .build _ ps => usesP ps
  | .lit _ _ _ _ _ ps => usesP ps
  | .load _ _ x => usesX x
  | .store _ x y => usesX x ++ usesX y
  | .nilck x => usesX x
  | .bin _ x y => usesX x ++ usesX y
  | .beq _ x y => usesX x ++ usesX y
  | .eqs _ _ x y => usesX x ++ usesX y
  | .isnil _ _ x => usesX x
  | .un _ x => usesX x
  | .cvInt _ x => usesX x
  | .cvStr x => usesX x
  | .toStr x => usesX x
  | .toBytes _ x => usesX x
  | .mkIfc _ x => usesX x
  | .mkFn _ fi ca => usesXs fi ++ usesXs ca
  | .make _ _ _ _ n c => usesX n ++ usesX c
  | .cutS x lo hi => usesX x ++ (usesO lo ++ usesO hi)
  | .cut _ x lo hi mx => usesX x ++ (usesO lo ++ (usesO hi ++ usesO mx))
  | .cutA _ _ x lo hi => usesX x ++ (usesO lo ++ usesO hi)
  | .fld _ x => usesX x
  | .getf _ _ _ x => usesX x
  | .idx _ x i => usesX x ++ usesX i
  | .idxA _ _ x i => usesX x ++ usesX i
  | .chr x i => usesX x ++ usesX i
  | .extract x _ => usesX x
  | .call _ _ xs => usesXs xs
  | .callV x _ xs => usesX x ++ usesXs xs
  | .len x => usesX x
  | .lenS x => usesX x
  | .app _ _ _ x y => usesX x ++ usesX y
  | .appS _ x y => usesX x ++ usesX y
  | .copy _ x y => usesX x ++ usesX y
  | .mm _ x y => usesX x ++ usesX y
  | .bad => []
  | .frz x => usesX x
  | .kp _ => []
def isBad : VOp → Bool
  | .bad => true
  | _ => false
def isGhost : VOp → Bool
  | .frz _ => true
  | .kp _ => true
  | _ => false
/-- Only the objects of some ids. -/
def maskG (L : List Nat) : Nat → St → St
  | _, [] => []
  | k, x :: r => (match L.contains k with | true => x | false => none) :: maskG L (k + 1) r
/-- Those stay as they are. -/
def keepL (σ σ' : St) : List Nat → Prop
  | [] => True
  | id :: r => σ'[id]? = σ[id]? ∧ keepL σ σ' r
def watch (env : Env) : List Nat → List Nat
  | [] => []
  | t :: r => (match get env t with | some a => ids a | none => []) ++ watch env r
/-- The operations of a region in its orders: those that look at nothing that another one changes are taken first. -/
def drawQ (Γ : FuncId → Spec) (E : Env) : DT → Env → St → (Env → St → Prop) → Prop
  | .done, env, σ, K => K env σ
  | .op true ts ⟨d, g, op⟩ r, env, σ, K => guardQ env g (vop (restrict env (uses op)) (maskG (watch E ts) 0 σ) (fun a _ => force (putd env d a) fun env' => drawQ Γ E r env' σ K) op) (force (putd env d noV) fun env' => drawQ Γ E r env' σ K)
  | .op false ts ⟨d, g, op⟩ r, env, σ, K => guardQ env g (vop1 Γ (restrict env (uses op)) σ (fun a σ' => keepL σ σ' (watch E ts) ∧ force (putd env d a) fun env' => force σ' fun σ'' => drawQ Γ E r env' σ'' K) op) (force (putd env d noV) fun env' => drawQ Γ E r env' σ K)
  | .both a b, env, σ, K => Both (drawQ Γ E a env σ K) (drawQ Γ E b env σ K)

inductive VExit where
  | normal
  | exit (id : Nat)
  | ret

/-- what a round leaves: the invariant at a smaller number, or what was asked for -/
def roundQ (I : Nat → Env → St → Prop) (n : Nat) (Q : VExit → Env → St → Prop) : VExit → Env → St → Prop
  | .normal, env, σ => ∃ m, m < n ∧ I m env σ
  | e, env, σ => Q e env σ
/-! objects that nothing leads to any more, at the end of a loop's round -/
def upto (k id : Nat) : Option Nat := match Nat.blt id k with
  | true => some id
  | false => none
def okEnv (k : Nat) : Env → Prop
  | [] => True
  | (_, a) :: r => ren (upto k) a = some a ∧ okEnv k r
def okSt (k : Nat) : St → Prop
  | [] => True
  | none :: r => okSt k r
  | some o :: r => rens (upto k) o.cs = some o.cs ∧ okSt k r
/-- as it is, or with some of the environment only and without the last objects -/
def trimQ (k0 : Nat) (R : Env → St → Prop) (env : Env) (σ : St) : Prop := R env σ ∨ ∃ L k, k0 ≤ k ∧ okEnv k (restrict env L) ∧ okSt k (σ.take k) ∧ R (restrict env L) (σ.take k)
def joinQ (J : Env → St → Prop) (Q : VExit → Env → St → Prop) : VExit → Env → St → Prop
  | .normal => J
  | e => Q e
def thenQ (next : Env → St → Prop) (Q : VExit → Env → St → Prop) : VExit → Env → St → Prop
  | .normal => next
  | e => Q e
def blockQ (id : Nat) (Q : VExit → Env → St → Prop) : VExit → Env → St → Prop
  | .exit j => if j = id then Q .normal else Q (.exit j)
  | e => Q e

def vwp (Γ : FuncId → Spec) : VCode → (VExit → Env → St → Prop) → Env → St → Prop
  | .skip, Q, env, σ => Q .normal env σ
  | .seq a b, Q, env, σ => vwp Γ a (thenQ (vwp Γ b Q) Q) env σ
  | .cond x a b, Q, env, σ => match opnd env x with
    | some (.pu (.val (.bool t))) => Br (vwp Γ a Q env σ) (vwp Γ b Q env σ) t
    | _ => False
  | .block id a, Q, env, σ => vwp Γ a (blockQ id Q) env σ
  | .loop a, Q, env, σ => ∃ I J : Nat → Env → St → Prop, (∃ n, I n env σ) ∧ (∀ m e s, J m e s → trimQ σ.length (I m) e s) ∧ ∀ n env σ, I n env σ → vwp Γ a (roundQ J n Q) env σ
  | .scope a, Q, env, σ => vwp Γ a Q env σ
  | .exit id, Q, env, σ => Q (.exit id) env σ
  | .ret, Q, env, σ => Q .ret env σ
  | .region false ops, Q, env, σ => vops Γ ops env σ (Q .normal)
  | .region true ops, Q, env, σ => False
  | .draws l t, Q, env, σ => drawQ Γ env t env σ fun e s => force (restrict e l) fun e' => Q .normal e' s
  | .keep l c, Q, env, σ => force (restrict env l) fun env' => vwp Γ c Q env' σ
  | .bad, Q, env, σ => False
  | .stop l c, Q, env, σ => force (restrict env l) fun env' => Box (vwp Γ c Q env' σ)
  | .join c, Q, env, σ => ∃ J : Env → St → Prop, vwp Γ c (joinQ J Q) env σ ∧ ∀ env σ, J env σ → Q .normal env σ

/-! ### compilation of code -/
def cvo (P : Program) (ops : Array Oper) (o : Oper) : Option VO := match cop P o with
  | none => match o.guard with
    | none => some ⟨o.dst, none, .bad⟩
    | some (j, want) => match (ops[j]?).bind (·.dst) with
      | some s => some ⟨o.dst, some (s, want), .bad⟩
      | none => none
  | some op => match o.guard with
    | none => some ⟨o.dst, none, op⟩
    | some (j, want) => match (ops[j]?).bind (·.dst) with
      | some s => some ⟨o.dst, some (s, want), op⟩
      | none => none
def cvos (P : Program) (ops : Array Oper) : List Oper → Option (List VO)
  | [] => some []
  | o :: r => match cvo P ops o, cvos P ops r with
    | some a, some b => some (a :: b)
    | _, _ => none
def afterOf (o : Oper) : List Nat := (o.after.toList.filter fun e => Region.binds .any e).map (·.on)
def guardT : Option (Nat × Bool) → List Nat
  | some (s, _) => [s]
  | none => []
/-- looks at no object -/
def plainB : VOp → Bool
  | .mv _ => true
  | .pick _ _ _ => true
  | .build _ _ => true
  | .bin _ _ _ => true
  | .beq _ _ _ => true
  | .eqs _ _ _ _ => true
  | .un _ _ => true
  | .cvInt _ _ => true
  | .cvStr _ => true
  | .mkIfc _ _ => true
  | .mkFn _ _ _ => true
  | .cutS _ _ _ => true
  | .getf _ _ _ _ => true
  | .chr _ _ => true
  | .extract _ _ => true
  | .lenS _ => true
  | .mm _ _ _ => true
  | _ => false
/-- looks at an object, and changes none -/
def looksB : VOp → Bool
  | .load _ _ _ => true
  | .nilck _ => true
  | .toStr _ => true
  | .cut _ _ _ _ _ => true
  | .fld _ _ => true
  | .idx _ _ _ => true
  | .idxA _ _ _ _ => true
  | .len _ => true
  | _ => false
/-- the temp that an object is looked at by -/
def lookT : VOp → List Nat
  | .load _ _ x => usesX x
  | .nilck x => usesX x
  | .toStr x => usesX x
  | .cut _ x _ _ _ => usesX x
  | .fld _ x => usesX x
  | .idx _ x _ => usesX x
  | .idxA _ _ x _ => usesX x
  | .len x => usesX x
  | _ => []
def writer (vos : List VO) (t : Nat) : Option VO := vos.find? fun vo => vo.d == some t
def rootOf (vos : List VO) : Nat → Nat → Nat
  | 0, t => t
  | k + 1, t => match writer vos t with
    | some vo => match lookT vo.op with
      | [u] => match vo.op with
        | .load _ _ _ => t
        | .toStr _ => t
        | .len _ => t
        | _ => rootOf vos k u
      | _ => t
    | none => t
def lookRoots (vos : List VO) (vo : VO) : List Nat := if looksB vo.op then (lookT vo.op).map (rootOf vos vos.length) else []
def afterB (ops : Array Oper) (j i : Nat) : Bool := match ops[j]? with
  | some o => o.after.any fun e => Region.binds .any e && e.on == i
  | none => false
/-- May it be taken ahead of all that can come ahead of it? -/
def lookable (ops : Array Oper) (vos : List VO) (i r : Nat) : Bool := (List.range vos.length).all fun j => match vos[j]? with
  | some vj => plainB vj.op || looksB vj.op || !((uses vj.op).map (rootOf vos vos.length)).contains r || afterB ops j i || afterB ops i j
  | none => true
/-- what an operation must not change: what is looked at by those that may come behind it, though they are taken ahead of it -/
def keepsOf (ops : Array Oper) (vos : List VO) (j : Nat) : List Nat := ((List.range vos.length).flatMap fun i => match vos[i]? with
  | some vi => if afterB ops j i || afterB ops i j then [] else (lookRoots vos vi).filter fun r => (writer vos r).isNone && lookable ops vos i r
  | none => []).eraseDups
def apartV (vi vj : VO) : Bool := match vi.d with
  | some d => !(uses vj.op ++ guardT vj.g).contains d && !(vj.d == some d) && (match vj.d with | some e => !(uses vi.op ++ guardT vi.g).contains e | none => true)
  | none => match vj.d with | some e => !(uses vi.op ++ guardT vi.g).contains e | none => true
def freeV (ops : Array Oper) (vos : List VO) (listed : Array Bool) (i : Nat) : Bool := match vos[i]? with
  | none => false
  | some vi => (List.range vos.length).all fun j => j == i || listed.getD j true || match ops[j]?, vos[j]? with
    | some oj, some vj => oj.after.any (fun e => Region.binds .any e && e.on == i) || apartV vi vj
    | _, _ => false
/-- Is it taken first? -/
def firstB (ops : Array Oper) (vos : List VO) (fresh : List Nat) (i : Nat) : Bool := match vos[i]? with
  | none => false
  | some vo => plainB vo.op || (looksB vo.op && (lookT vo.op).all fun t => !fresh.contains t && lookable ops vos i (rootOf vos vos.length t))
def plan (ops : Array Oper) (vos : List VO) : Nat → Array Bool → List Nat → Option DT
  | 0, listed, _ => if (Region.ready .any ops listed).isEmpty then some .done else none
  | n + 1, listed, fresh => match Region.ready .any ops listed with
    | [] => some .done
    | i0 :: rs => match (i0 :: rs).find? fun i => firstB ops vos fresh i && freeV ops vos listed i with
      | some i => match vos[i]? with
        | some vo => (plan ops vos n (listed.setIfInBounds i true) (if (uses vo.op).any fresh.contains then (vo.d.toList ++ fresh) else fresh)).map (.op true ((lookRoots vos vo).filter fun r => (writer vos r).isNone) vo)
        | none => none
      | none => planAll (fun i => match vos[i]? with
        | some vo => (plan ops vos n (listed.setIfInBounds i true) (vo.d.toList ++ fresh)).map (.op false (keepsOf ops vos i) vo)
        | none => none) (i0 :: rs)
where planAll (f : Nat → Option DT) : List Nat → Option DT
  | [] => none
  | [i] => f i
  | i :: r => match f i, planAll f r with
    | some a, some b => some (.both a b)
    | _, _ => none
def leaves : DT → Nat
  | .done => 1
  | .op _ _ _ r => leaves r
  | .both a b => leaves a + leaves b
def planOf (P : Program) (ops : Array Oper) (vos : List VO) : Option DT :=
  if P.follows .mixedOrders && vos.length == ops.size then (plan ops vos ops.size (Array.replicate ops.size false) []).filter fun t => decide (leaves t ≤ 24) else none
def stripT : DT → DT
  | .done => .done
  | .op true ts vo r => .op true ts vo (stripT r)
  | .op false ts vo r => .op false ts ⟨vo.d, vo.g, stripOp vo.op⟩ (stripT r)
  | .both a b => .both (stripT a) (stripT b)
def cregion (P : Program) (ops : Array Oper) (draw : Bool) : Option VCode := match cvos P ops ops.toList with
  | none => none
  | some vos => match draw with
    | false => some (.region false vos)
    | true => match planOf P ops vos with
      | some t => some (.draws [] t)
      | none => some .bad
theorem cregion_some {P : Program} {ops : Array Oper} {draw : Bool} {v : VCode} (h : cregion P ops draw = some v) : ∃ vos, cvos P ops ops.toList = some vos ∧ ((draw = false ∧ v = .region false vos) ∨ (draw = true ∧ ∃ t, planOf P ops vos = some t ∧ v = .draws [] t) ∨ v = .bad) := by
  unfold cregion at h
  split at h
  · cases h
  · rename_i vos hv
    refine ⟨vos, hv, ?_⟩
    cases draw with
    | false => simp only [Option.some.injEq] at h; exact .inl ⟨rfl, h.symm⟩
    | true =>
      simp only at h
      split at h
      · rename_i t ht
        simp only [Option.some.injEq] at h
        exact .inr (.inl ⟨rfl, t, ht, h.symm⟩)
      · simp only [Option.some.injEq] at h; exact .inr (.inr h.symm)
theorem cregion_ne {P : Program} {ops : Array Oper} {draw : Bool} {v : VCode} (h : cregion P ops draw = some v) (h1 : ∀ vos, v ≠ .region false vos) (h2 : ∀ t, v ≠ .draws [] t) (h3 : v ≠ .bad) : False := by
  obtain ⟨vos, _, h | ⟨_, t, _, h⟩ | h⟩ := cregion_some h
  · exact h1 _ h.2
  · exact h2 _ h
  · exact h3 h
def ccode (P : Program) : Code → Option VCode
  | .skip => some .skip
  | .label _ => some .skip
  | .seq a b => match ccode P a, ccode P b with
    | some a, some b => some (.seq a b)
    | _, _ => none
  | .cond c a b => match xOf c, ccode P a, ccode P b with
    | some c, some a, some b => some (.cond c a b)
    | _, _, _ => none
  | .block id a => (ccode P a).map (.block id)
  | .loop a => (ccode P a).map .loop
  | .scope a => (ccode P a).map .scope
  | .exit id => some (.exit id)
  | .ret => some .ret
  | .region _ ops draw => cregion P ops draw
  | _ => some .bad

def isFrz : VOp → Bool
  | .mv _ => false
  | .nilRow _ _ => false
  | .pick _ _ _ => false
  | .box _ _ => false
  | .alloc _ _ => false
  | .build _ _ => false
  | .lit _ _ _ _ _ _ => false
  | .load _ _ _ => false
  | .store _ _ _ => false
  | .nilck _ => false
  | .bin _ _ _ => false
  | .beq _ _ _ => false
  | .eqs _ _ _ _ => false
  | .isnil _ _ _ => false
  | .un _ _ => false
  | .cvInt _ _ => false
  | .cvStr _ => false
  | .toStr _ => false
  | .toBytes _ _ => false
  | .mkIfc _ _ => false
  | .mkFn _ _ _ => false
  | .make _ _ _ _ _ _ => false
  | .cutS _ _ _ => false
  | .cut _ _ _ _ _ => false
  | .cutA _ _ _ _ _ => false
  | .fld _ _ => false
  | .getf _ _ _ _ => false
  | .idx _ _ _ => false
  | .idxA _ _ _ _ => false
  | .chr _ _ => false
  | .extract _ _ => false
  | .call _ _ _ => false
  | .callV _ _ _ => false
  | .len _ => false
  | .lenS _ => false
  | .app _ _ _ _ _ => false
  | .appS _ _ _ => false
  | .copy _ _ _ => false
  | .mm _ _ _ => false
  | .bad => false
  | .frz _ => true
  | .kp _ => true
def stripOps : List VO → List VO
  | [] => []
  | ⟨d, g, op⟩ :: r => if isFrz op then stripOps r else ⟨d, g, stripOp op⟩ :: stripOps r
def strip : VCode → VCode
  | .seq a b => .seq (strip a) (strip b)
  | .cond x a b => .cond x (strip a) (strip b)
  | .block id a => .block id (strip a)
  | .loop a => .loop (strip a)
  | .scope a => .scope (strip a)
  | .region dr ops => .region dr (stripOps ops)
  | .draws _ t => .draws [] (stripT t)
  | .keep _ c => strip c
  | .join c => strip c
  | .stop _ c => strip c
  | c => c

/-! ### what is known of a function -/
def Entered (P : Program) (f : FuncId) : Prop := ∃ fn, P.funcs[f]? = some fn ∧ (fn.name == "runtime.NumGoroutine") = false ∧ fn.body.isNone = false
/-- The function, called with what stands for the arguments, does what the specification says. -/
def Contract (P : Program) (f : FuncId) (R : Spec) : Prop := Entered P f ∧
  ∀ (w : World) (objs : List VObj) (β : List (Option Nat)) (Z : Nat → Prop) (vs : List Value) (as : List AV) (K : AV → St → Prop),
    RepS w (objs.map some) β Z → RepAs w (mem (objs.map some) β Z) false as vs → R as objs K →
    Calls P f vs.toArray w fun e w' => ∃ v β' r τ, e = .returned v ∧ Step w (mem (objs.map some) β Z) w' (mem τ β' Z) ∧ RepS w' τ β' Z ∧ RepA w' (mem τ β' Z) r v ∧ K r τ
/-- A function without a Go body: its answer is given at once. -/
def XContract (P : Program) (f : FuncId) (R : Spec) : Prop :=
  ∀ (w : World) (objs : List VObj) (β : List (Option Nat)) (Z : Nat → Prop) (vs : List Value) (as : List AV) (K : AV → St → Prop),
    RepS w (objs.map some) β Z → RepAs w (mem (objs.map some) β Z) false as vs → R as objs K →
    ∃ v w' β' r τ, (callFunc f vs.toArray).run P w = .ok (.value v) w' ∧ Step w (mem (objs.map some) β Z) w' (mem τ β' Z) ∧ RepS w' τ β' Z ∧ RepA w' (mem τ β' Z) r v ∧ K r τ
def Known (P : Program) (Γ : FuncId → Spec) : Prop := ∀ f, (∀ as objs K, ¬ Γ f as objs K) ∨ Contract P f (Γ f) ∨ XContract P f (Γ f)

section
variable {P : Program} {o : Oper} {a : Act} {w : World} {σ : St} {β : List (Option Nat)} {Z : Nat → Prop} {Q : AV → St → Prop} {env : Env}

/-- What one operation comes to: an outcome at once, or a call. -/
def Outs (P : Program) (o : Oper) (a : Act) (w : World) (σ : St) (β : List (Option Nat)) (Z : Nat → Prop) (Q : AV → St → Prop) : Prop :=
  Outc P o a w σ β Z Q ∨ ∃ f args, (execOp a.eval o).run P w = .ok (.enter f args) w ∧
    Calls P f args w fun e w' => ∃ v β' x σ', e = .returned v ∧ Step w (mem σ β Z) w' (mem σ' β' Z) ∧ RepS w' σ' β' Z ∧ RepA w' (mem σ' β' Z) x v ∧ Q x σ'

theorem RepAs.app {M : Mem} {one : Bool} {cs ds : List AV} {vs us : List Value} (h : RepAs w M one cs vs) (k : RepAs w M one ds us) : RepAs w M one (cs ++ ds) (vs ++ us) := h.append k

theorem killAll_none : ∀ (l : List Nat) (σ : St) (id : Nat), (id ∈ l → id < σ.length → (killAll σ l)[id]? = some none) ∧ (id ∉ l → (killAll σ l)[id]? = σ[id]?) ∧ (killAll σ l).length = σ.length
  | [], σ, id => by simp [killAll]
  | x :: l, σ, id => by
    obtain ⟨h1, h2, h3⟩ := killAll_none l (σ.set x none) id
    refine ⟨fun hm hl => ?_, fun hm => ?_, by rw [killAll, h3]; simp⟩
    · rw [killAll]
      by_cases hl' : id ∈ l
      · exact h1 hl' (by simpa using hl)
      · rw [h2 hl']
        have : id = x := by
          rcases List.mem_cons.1 hm with h | h
          · exact h
          · exact absurd h hl'
        subst this
        rw [List.getElem?_set_self hl]
    · simp only [List.mem_cons, not_or] at hm
      rw [killAll, h2 hm.2, List.getElem?_set_ne (Ne.symm hm.1)]

theorem kill_al {σ : St} {β : List (Option Nat)} {l : List Nat} {id g : Nat} {B : Option Nat} : (mem (killAll σ l) β Z).al id = some (g, B) ↔ id ∉ l ∧ (mem σ β Z).al id = some (g, B) := by
  rw [mem_al, mem_al]
  obtain ⟨h1, h2, h3⟩ := killAll_none l σ id
  constructor
  · rintro ⟨o, k1, k2, k3⟩
    have hid : id < σ.length := by rw [← h3]; exact (List.getElem?_eq_some_iff.1 k1).1
    by_cases hm : id ∈ l
    · rw [h1 hm hid] at k1; cases k1
    · rw [h2 hm] at k1
      exact ⟨hm, o, k1, k2, k3⟩
  · rintro ⟨hm, o, k1, k2, k3⟩
    exact ⟨o, by rw [h2 hm]; exact k1, k2, k3⟩

/-- Some objects are for good from here on. -/
theorem kill_rep {w : World} {σ : St} {β : List (Option Nat)} (hS : RepS w σ β Z) (l : List Nat) : Step w (mem σ β Z) w (mem (killAll σ l) β Z) ∧ RepS w (killAll σ l) β Z := by
  have hlive : ∀ b, (mem (killAll σ l) β Z).live b → (mem σ β Z).live b := by
    rintro b ⟨id, g, h⟩
    exact ⟨id, g, (kill_al.1 h).2⟩
  have hst : Step w (mem σ β Z) w (mem (killAll σ l) β Z) := by
    refine ⟨rfl, rfl, rfl, Nat.le_refl _, fun _ _ _ => rfl, fun b h => .inr (hlive b h), by rw [mem_n, mem_n, (killAll_none l σ 0).2.2]; exact Nat.le_refl _, ?_, fun _ _ h => h⟩
    intro id g' B' _ h
    exact ⟨g', B', (kill_al.1 h).2, Nat.le_refl _, fun _ => ⟨rfl, fun b arr e _ hw => ⟨arr, hw, rfl⟩⟩⟩
  refine ⟨hst, ⟨by rw [hS.len, (killAll_none l σ 0).2.2], ?_, ?_, hS.avd, fun b h => hS.nav b (hlive b h)⟩⟩
  · intro id o ho
    obtain ⟨h1, h2, h3⟩ := killAll_none l σ id
    have hid : id < σ.length := by rw [← h3]; exact (List.getElem?_eq_some_iff.1 ho).1
    by_cases hm : id ∈ l
    · rw [h1 hm hid] at ho; cases ho
    · rw [h2 hm] at ho
      rcases hS.obj id o ho with h | ⟨b, arr, k1, k2, k3⟩
      · exact .inl h
      · exact .inr ⟨b, arr, k1, k2, RepAs.mono hst _ _ k3⟩
  · intro id id' b hne g g' k1 k2
    exact hS.inj id id' b hne g g' (kill_al.1 k1).2 (kill_al.1 k2).2

/-- A value's snapshot, where what it leads to is for good. -/
theorem frz_rep {w : World} {σ : St} {β : List (Option Nat)} {x : AV} {p : PV} {v : Value} {l : List Nat} (hS : RepS w σ β Z) (hl : ∀ id ∈ ids x, id ∈ l) (hs : snap σ x = some p) (hr : RepA w (mem σ β Z) x v) : RepP w ((mem (killAll σ l) β Z).imm w) p v := by
  refine snap_rep hS ?_ x p v hs hr ?_
  · intro b ⟨h1, h2, h3⟩
    exact ⟨h1, fun ⟨id, g, h⟩ => h2 ⟨id, g, (kill_al.1 h).2⟩, h3⟩
  · intro id hid g b hal
    refine ⟨hS.lt ⟨id, g, hal⟩, fun ⟨id', g', h⟩ => ?_, hS.nav b ⟨id, g, hal⟩⟩
    obtain ⟨hm, h⟩ := kill_al.1 h
    exact hS.inj id id' b (fun e => hm (e ▸ hl id hid)) g g' hal h

theorem frzs_rep {w : World} {σ : St} {β : List (Option Nat)} {as : List AV} {ps : List PV} {vs : List Value} (hS : RepS w σ β Z) (hs : snaps σ as = some ps) (hr : RepAs w (mem σ β Z) false as vs) : RepAs w (mem (killAll σ (idss as)) β Z) false (ps.map .pu) vs := by
  refine RepAs.of_pu (snaps_rep hS ?_ as ps vs hs hr ?_)
  · intro b ⟨h1, h2, h3⟩
    exact ⟨h1, fun ⟨id, g, h⟩ => h2 ⟨id, g, (kill_al.1 h).2⟩, h3⟩
  · intro id hid g b hal
    refine ⟨hS.lt ⟨id, g, hal⟩, fun ⟨id', g', h⟩ => ?_, hS.nav b ⟨id, g, hal⟩⟩
    obtain ⟨hm, h⟩ := kill_al.1 h
    exact hS.inj id id' b (fun e => hm (e ▸ hid)) g g' hal h

theorem vcall_sound1 {Γ : FuncId → Spec} {f : FuncId} {by_ : List Bool} {as : List AV} {vs : List Value} {d : Deferred} (hΓ : Known P Γ) (hres : (execOp a.eval o) = (callFunc f vs.toArray)) (hS : RepS w σ β Z) (has : RepAs w (mem σ β Z) false as vs) (h : vcall (Γ f) by_ as σ Q) : Outs P o a w σ β Z Q := by
  unfold vcall at h
  obtain ⟨hn, h⟩ := h
  generalize hI : closeN σ 6 (addNew [] (refIds by_ as)) = I at hn h
  split at h
  · rename_i objs args bor ho hp
    obtain ⟨K, h, hK⟩ := h
    have k1 := sub_rep (bor := bor) hS hn ho
    have k2 := pass_rep hS hn ho by_ as args bor vs hp has bor (fun h => h)
    have back : ∀ {w' : World} {β' : List (Option Nat)} {r : AV} {τ : St} {v : Value}, Step w (mem (objs.map some) (subBlocks β I) (avoid σ β Z I bor)) w' (mem τ β' (avoid σ β Z I bor)) → RepS w' τ β' (avoid σ β Z I bor) → RepA w' (mem τ β' (avoid σ β Z I bor)) r v → K r τ →
        ∃ β'' x σ', Step w (mem σ β Z) w' (mem σ' β'' Z) ∧ RepS w' σ' β'' Z ∧ RepA w' (mem σ' β'' Z) x v ∧ Q x σ' := by
      intro w' β' r τ v h1 h2 h3 h4
      obtain ⟨hk, hal, h4⟩ := hK r τ h4
      split at h4
      · rename_i r' τ' hr' hτ'
        obtain ⟨β'', q1, q2, q3⟩ := call_back hS hn ho h1 h2 h3 hk hal hr' hτ'
        exact ⟨β'', r', _, q1, q2, q3, h4⟩
      · exact h4.elim
    rcases hΓ f with hno | ⟨⟨fn, hf, hname, hbody⟩, hC⟩ | hX
    · exact absurd h (hno _ _ _)
    · right
      refine ⟨f, vs.toArray, ?_, ?_⟩
      · rw [hres]
        simp only [callFunc, Sem.run_bind, run_program, Result.andThen_ok, hf, hname, hbody, Bool.false_eq_true, if_false, Sem.run_pure]
      · refine (hC w objs _ _ vs args _ k1 k2 h).mono fun e w' h' => ?_
        obtain ⟨v, β', r, τ, rfl, h1, h2, h3, h4⟩ := h'
        obtain ⟨β'', x, σ', q1, q2, q3, q4⟩ := back h1 h2 h3 h4
        exact ⟨v, β'', x, σ', rfl, q1, q2, q3, q4⟩
    · left
      obtain ⟨v, w', β', r, τ, hrun, h1, h2, h3, h4⟩ := hX w objs _ _ vs args _ k1 k2 h
      obtain ⟨β'', x, σ', q1, q2, q3, q4⟩ := back h1 h2 h3 h4
      exact ⟨v, w', β'', x, σ', .inl (by rw [hres]; exact hrun), q1, q2, q3, q4⟩
  · exact h.elim

theorem vcall_sound {Γ : FuncId → Spec} {f : FuncId} {by_ : List Bool} {as : List AV} {vs : List Value} {d : Deferred} (hΓ : Known P Γ) (hres : (execOp a.eval o) = (callFunc f vs.toArray)) (hS : RepS w σ β Z) (has : RepAs w (mem σ β Z) false as vs) (h : VCall (Γ f) by_ as σ Q) : Outs P o a w σ β Z Q := by
  cases h with
  | mk h => exact vcall_sound1 (d := d) hΓ hres hS has h
  | frz ps hs h =>
    obtain ⟨k1, k2⟩ := kill_rep hS (idss as)
    rcases vcall_sound1 (d := d) hΓ hres k2 (frzs_rep hS hs has) h with ⟨r, w', β', x, σ', hr, h1, h2, h3, h4⟩ | ⟨g, args, hr, hC⟩
    · exact .inl ⟨r, w', β', x, σ', hr, k1.trans h1, h2, h3, h4⟩
    · refine .inr ⟨g, args, hr, hC.mono fun e w' h => ?_⟩
      obtain ⟨v, β', x, σ', rfl, h1, h2, h3, h4⟩ := h
      exact ⟨v, β', x, σ', rfl, k1.trans h1, h2, h3, h4⟩

def isCall : VOp → Bool
  | .call _ _ _ => true
  | .callV _ _ _ => true
  | _ => false
theorem map_not {γ : Type} {f : γ → VOp} {x : Option γ} {v : VOp} (hf : ∀ z, isCall (f z) = false) (h : x.map f = some v) : isCall v = false := by
  obtain ⟨z, _, rfl⟩ := map_some h
  exact hf z

theorem call_inv {v : VOp} (h : cop P o = some v) (hc : isCall v = true) : ∃ c, o.op = .call c ∧ copCall P c = some v := by
  unfold cop at h
  split at h <;> rename_i ho
  case h_23 c => exact ⟨c, ho, h⟩
  all_goals exfalso
  all_goals (first
    | (have := map_not (fun z => by rfl) h; rw [this] at hc; cases hc; done)
    | (try simp only [copBuild, copLit, copFld, copGetf, copIdx, copCut, copMake, copConv, copBin] at h
       repeat' (split at h)
       all_goals (first
         | (cases h; done)
         | (have := map_not (fun z => by rfl) h; rw [this] at hc; cases hc; done)
         | (simp only [Option.some.injEq] at h; subst h; cases hc; done))))

theorem call_form {c : Go.Call} {v : VOp} (h : copCall P c = some v) (hc : isCall v = true) :
    (∃ f xs, c.callee = .value (.func f) ∧ xsOf c.args.toList = some xs ∧ v = .call f [] xs) ∨ ∃ x f xs, c.callee = .value x ∧ xOf x = some f ∧ xsOf c.args.toList = some xs ∧ v = .callV f [] xs := by
  obtain ⟨callee, args, tys⟩ := c
  unfold copCall at h
  simp only at h
  split at h
  · obtain ⟨xs, h1, rfl⟩ := map_some h
    exact .inl ⟨_, xs, rfl, h1, rfl⟩
  · split at h
    · rename_i f xs h1 h2
      simp only [Option.some.injEq] at h
      exact .inr ⟨_, f, xs, rfl, h1, h2, h.symm⟩
    · cases h
  all_goals exfalso
  all_goals try simp only [copAppend] at h
  all_goals repeat' (split at h)
  all_goals (first
    | (cases h; done)
    | (have := map_not (fun z => by rfl) h; rw [this] at hc; cases hc; done)
    | (simp only [Option.some.injEq] at h; subst h; cases hc; done))

theorem vop1_sound {Γ : FuncId → Spec} {vo : VOp} (hΓ : Known P Γ) (h : cop P o = some (stripOp vo)) (hS : RepS w σ β Z) (hE : RepE w (mem σ β Z) env a.tmps) (hv : vop1 Γ env σ Q vo) : Outs P o a w σ β Z Q := by
  by_cases hc : isCall vo = true
  · have hc' : isCall (stripOp vo) = true := by cases vo <;> first | rfl | exact absurd hc (by simp [isCall])
    obtain ⟨c, ho, hcc⟩ := call_inv h hc'
    obtain ⟨callee, args, tys⟩ := c
    rcases call_form hcc hc' with ⟨f, xs, hcal, hxs, hst⟩ | ⟨x, f, xs, hcal, hx, hxs, hst⟩
    · cases vo <;> simp only [stripOp, reduceCtorEq, VOp.call.injEq] at hst
      rename_i f' b' xs'
      obtain ⟨rfl, _, rfl⟩ := hst
      simp only at hcal hxs
      subst hcal
      simp only [vop1] at hv
      obtain ⟨as, hk, hr⟩ := withAs_rep hE hxs hv
      refine vcall_sound (d := ⟨.nil, #[]⟩) hΓ ?_ hS hr hk
      simp only [execOp, ho, resolve, Act.eval]
      show (do let d ← Deferred.ofValue (.func (.func f') #[] #[]) (args.map a.eval); invoke d.target d.args) = _
      simp [Deferred.ofValue, invoke]
      congr 1
      apply Array.ext'
      simp
    · cases vo <;> simp only [stripOp, reduceCtorEq, VOp.callV.injEq] at hst
      rename_i f' b' xs'
      obtain ⟨rfl, _, rfl⟩ := hst
      simp only at hcal hxs
      subst hcal
      simp only [vop1] at hv
      have fin : ∀ {g : FuncId} {fi ca : List AV} {u v : Array Value} {by_ : List Bool}, a.eval x = .func (.func g) u v → RepAs w (mem σ β Z) false fi u.toList → RepAs w (mem σ β Z) false ca v.toList →
          (withAs env xs' fun as => VCall (Γ g) by_ (fi ++ as ++ ca) σ Q) → Outs P o a w σ β Z Q := by
        intro g fi ca u v by_ hval h1 h2 hk
        obtain ⟨as, hk, hr⟩ := withAs_rep hE hxs hk
        refine vcall_sound (d := ⟨.nil, #[]⟩) (vs := u.toList ++ args.toList.map a.eval ++ v.toList) hΓ ?_ hS ((h1.append hr).append h2) hk
        have hr : resolve a.eval ⟨.value x, args, tys⟩ o.type = Deferred.ofValue (a.eval x) (args.map a.eval) := rfl
        simp only [execOp, ho, hr, hval]
        simp [Deferred.ofValue, invoke]
        congr 1
        apply Array.ext'
        simp
      split at hv
      · rename_i g fi ca hg
        have hr := rep_opnd hE hx hg
        simp only [RepA, RepP] at hr
        obtain ⟨u, v, hval, h1, h2⟩ := hr
        exact fin hval (RepAs.of_pu h1) (RepAs.of_pu h2) hv
      · rename_i g fi ca hg
        have hr := rep_opnd hE hx hg
        simp only [RepA] at hr
        obtain ⟨u, v, hval, h1, h2⟩ := hr
        exact fin hval h1 h2 hv
      · exact hv.elim
  · refine .inl (vop_sound h (fun f b xs e => hc (by rw [e]; rfl)) (fun f b xs e => hc (by rw [e]; rfl)) hS hE ?_)
    cases vo <;> first | exact hv | exact absurd rfl hc

end

/-! ### one behind the other -/
/-- The machine's state stands for abstract ones that Q takes. -/
def Post (w0 : World) (M0 : Mem) (N : Nat) (Z : Nat → Prop) (Q : Env → St → Prop) (a : Act) (w : World) : Prop :=
  ∃ env σ β, RepS w σ β Z ∧ RepE w (mem σ β Z) env a.tmps ∧ Step w0 M0 w (mem σ β Z) ∧ a.tmps.size = N ∧ a.defers = [] ∧ Q env σ

section
variable {P : Program} {Γ : FuncId → Spec} {w0 : World} {M0 : Mem} {N : Nat} {Z : Nat → Prop}

theorem get_put : ∀ (env : Env) (d i : Nat) (x : AV), get (put env d x) i = if d = i then some x else get env i
  | [], d, i, x => by rw [put, get_cons]
  | (j, y) :: r, d, i, x => by
    rw [put_cons]
    split
    · rename_i h
      subst h
      simp only [get_cons]
      split <;> simp_all
    · rename_i h
      simp only [get_cons, get_put r d i x]
      split
      · rename_i h2
        subst h2
        rw [if_neg (fun e => h e.symm)]
      · rfl

theorem get_restrict : ∀ (l : List Nat) (env : Env) (i : Nat) (a : AV), get (restrict env l) i = some a → get env i = some a
  | [], env, i, a, h => by simp [restrict, get] at h
  | j :: l, env, i, a, h => by
    simp only [restrict] at h
    split at h
    · rename_i b hb
      simp only [get_cons] at h
      split at h
      · rename_i hj
        subst hj
        rw [hb]
        exact h
      · exact get_restrict l env i a h
    · exact get_restrict l env i a h

theorem repE_putd {w : World} {M : Mem} {env : Env} {a : Act} {d : Option Nat} {x : AV} {v : Value} (h : RepE w M env a.tmps) (hd : ∀ i, d = some i → i < a.tmps.size) (hx : RepA w M x v) : RepE w M (putd env d x) (a.put d v).tmps := by
  cases d with
  | none => exact h
  | some d =>
    intro i y hi
    simp only [putd, get_put] at hi
    simp only [Act.put]
    split at hi
    · rename_i he
      subst he
      simp only [Option.some.injEq] at hi
      subst hi
      exact ⟨v, by simp [hd d rfl], hx⟩
    · rename_i he
      obtain ⟨u, h1, h2⟩ := h i y hi
      exact ⟨u, by rw [Array.getElem?_setIfInBounds_ne he]; exact h1, h2⟩

theorem put_size (a : Act) (d : Option Nat) (v : Value) : (a.put d v).tmps.size = a.tmps.size := by cases d <;> simp [Act.put]
theorem put_defers' (a : Act) (d : Option Nat) (v : Value) : (a.put d v).defers = a.defers := by cases d <;> rfl

theorem outs_wp {o : Oper} {a : Act} {w : World} {σ : St} {β : List (Option Nat)} {Q : AV → St → Prop} {next : Act → World → Prop} {Q' : Exit → Act → World → Prop} (h : Outs P o a w σ β Z Q)
    (hn : ∀ v w' β' x σ', Step w (mem σ β Z) w' (mem σ' β' Z) → RepS w' σ' β' Z → RepA w' (mem σ' β' Z) x v → Q x σ' → next (a.put o.dst v) w') : o.wp P a w next Q' := by
  unfold Oper.wp
  rcases h with ⟨r, w', β', x, σ', hr, h1, h2, h3, h4⟩ | ⟨f, args, hr, hC⟩
  · rcases hr with hr | ⟨hr, rfl⟩
    · rw [hr]; exact hn r w' β' x σ' h1 h2 h3 h4
    · rw [hr]; exact hn undef w' β' x σ' h1 h2 h3 h4
  · rw [hr]
    refine hC.mono fun e w' h => ?_
    obtain ⟨v, β', x, σ', rfl, h1, h2, h3, h4⟩ := h
    exact hn v w' β' x σ' h1 h2 h3 h4

theorem cvo_some {ops : Array Oper} {o : Oper} {vo : VO} (h : cvo P ops o = some vo) : (cop P o = some vo.op ∨ vo.op = .bad) ∧ vo.d = o.dst ∧
    ((o.guard = none ∧ vo.g = none) ∨ ∃ j want s, o.guard = some (j, want) ∧ (ops[j]?).bind (·.dst) = some s ∧ vo.g = some (s, want)) := by
  unfold cvo at h
  split at h
  · split at h
    · rename_i hg
      simp only [Option.some.injEq] at h
      subst h
      exact ⟨.inr rfl, rfl, .inl ⟨hg, rfl⟩⟩
    · rename_i j want hg
      split at h
      · rename_i s hs
        simp only [Option.some.injEq] at h
        subst h
        exact ⟨.inr rfl, rfl, .inr ⟨j, want, s, hg, hs, rfl⟩⟩
      · cases h
  · rename_i op hop
    split at h
    · rename_i hg
      simp only [Option.some.injEq] at h
      subst h
      exact ⟨.inl hop, rfl, .inl ⟨hg, rfl⟩⟩
    · rename_i j want hg
      split at h
      · rename_i s hs
        simp only [Option.some.injEq] at h
        subst h
        exact ⟨.inl hop, rfl, .inr ⟨j, want, s, hg, hs, rfl⟩⟩
      · cases h

theorem vops_sound {ops : Array Oper} (hΓ : Known P Γ) {Q : Env → St → Prop} {Q' : Exit → Act → World → Prop} (hQ : ∀ a w, Post w0 M0 N Z Q a w → Q' .normal a w) :
    ∀ (vos : List VO) (l : List Oper) (k : Nat) (env : Env) (σ : St) (β : List (Option Nat)) (a : Act) (w : World), cvos P ops l = some (stripOps vos) → (∀ j, l[j]? = ops[k + j]?) → (∀ vo ∈ vos, ∀ d, vo.d = some d → d < N) →
    RepS w σ β Z → RepE w (mem σ β Z) env a.tmps → Step w0 M0 w (mem σ β Z) → a.tmps.size = N → a.defers = [] → vops Γ vos env σ Q → wpOps P ops Q' (List.range' k l.length) a w
  | [], l, k, env, σ, β, a, w, hc, _, _, hS, hE, hst, hN, hd, h => by
    have hl : l = [] := by
      cases l with
      | nil => rfl
      | cons o l => simp only [stripOps, cvos] at hc; split at hc <;> simp at hc
    subst hl
    simp only [List.length_nil, List.range'_zero, wpOps]
    exact hQ _ _ ⟨env, σ, β, hS, hE, hst, hN, hd, h⟩
  | ⟨d, g, op⟩ :: vos, l, k, env, σ, β, a, w, hc, hl, hdst, hS, hE, hst, hN, hd, h => by
    by_cases hfz : isFrz op = true
    · cases op <;> simp only [isFrz, Bool.false_eq_true] at hfz
      rotate_left
      · rename_i lk
        simp only [stripOps, isFrz, if_true] at hc
        simp only [vops, force_eq] at h
        exact vops_sound hΓ hQ vos l k _ σ β a w hc hl (fun vo hv => hdst vo (by simp [hv])) hS (fun i x hi => hE i x (get_restrict lk env i x hi)) hst hN hd h
      rename_i x
      simp only [stripOps, isFrz, if_true] at hc
      cases x with
      | c p => simp only [vops] at h
      | t i =>
        simp only [vops] at h
        split at h
        · rename_i x hx
          split at h
          · rename_i p hp
            obtain ⟨k1, k2⟩ := kill_rep hS (ids x)
            refine vops_sound hΓ hQ vos l k _ _ β a w hc hl (fun vo hv => hdst vo (by simp [hv])) k2 ?_ (hst.trans k1) hN hd h
            intro j y hj
            rw [get_put] at hj
            split at hj
            · rename_i he
              subst he
              simp only [Option.some.injEq] at hj
              subst hj
              obtain ⟨v, h1, h2⟩ := hE i x hx
              refine ⟨v, h1, ?_⟩
              simp only [RepA]
              exact frz_rep hS (fun _ h => h) hp h2
            · obtain ⟨v, h1, h2⟩ := hE j y hj
              exact ⟨v, h1, RepA.mono k1 _ _ h2⟩
          · exact h.elim
        · exact h.elim
    · simp only [stripOps, hfz, Bool.false_eq_true, if_false] at hc
      cases l with
      | nil => simp [cvos] at hc
      | cons o l =>
        simp only [cvos] at hc
        split at hc
        · rename_i vo r hvo hr
          simp only [Option.some.injEq, List.cons.injEq] at hc
          obtain ⟨rfl, rfl⟩ := hc
          obtain ⟨hop, hdd, hg⟩ := cvo_some hvo
          simp only at hop hdd hg
          have hk : ops[k]? = some o := by simpa using (hl 0).symm
          have hl' : ∀ j, l[j]? = ops[k + 1 + j]? := by
            intro j
            have := hl (j + 1)
            simp at this
            rw [this]
            congr 1
            omega
          rw [List.length_cons, List.range'_succ]
          simp only [wpOps, hk]
          have hdst' : ∀ vo ∈ vos, ∀ d, vo.d = some d → d < N := fun vo hv => hdst vo (by simp [hv])
          have hdd' : ∀ i, o.dst = some i → i < a.tmps.size := fun i hi => by rw [hN]; exact hdst ⟨d, g, op⟩ (by simp) i (hdd.trans hi)
          have h' : guardQ env g (vop1 Γ env σ (fun a σ' => vops Γ vos (putd env d a) σ' Q) op) (vops Γ vos (putd env d noV) σ Q) := by
            cases op <;> first | (simp only [vops, force_eq] at h; exact h) | exact absurd rfl hfz
          have yes : Region.wanted o (yielded ops a.tmps) = true → vop1 Γ env σ (fun a σ' => vops Γ vos (putd env d a) σ' Q) op →
              (if Region.wanted o (yielded ops a.tmps) then o.wp P a w (wpOps P ops Q' (List.range' (k + 1) l.length)) Q' ∨ (o.asks P a w ∧ LetsOut Q') else wpOps P ops Q' (List.range' (k + 1) l.length) (a.put o.dst undef) w) := by
            intro hw hv
            rw [if_pos hw]
            left
            have hop : cop P o = some (stripOp op) := by
              rcases hop with hop | hop
              · exact hop
              · cases op <;> simp only [stripOp, reduceCtorEq] at hop
                exact hv.elim
            refine outs_wp (vop1_sound hΓ hop hS hE hv) fun v w' β' x σ' h1 h2 h3 h4 => ?_
            refine vops_sound hΓ hQ vos l (k + 1) _ σ' β' _ w' hr hl' hdst' h2 ?_ (hst.trans h1) (by rw [put_size]; exact hN) (by rw [put_defers']; exact hd) h4
            rw [hdd]
            exact repE_putd (hE.mono h1) hdd' h3
          have no : Region.wanted o (yielded ops a.tmps) = false → vops Γ vos (putd env d noV) σ Q →
              (if Region.wanted o (yielded ops a.tmps) then o.wp P a w (wpOps P ops Q' (List.range' (k + 1) l.length)) Q' ∨ (o.asks P a w ∧ LetsOut Q') else wpOps P ops Q' (List.range' (k + 1) l.length) (a.put o.dst undef) w) := by
            intro hw hv
            rw [if_neg (by simp [hw])]
            refine vops_sound hΓ hQ vos l (k + 1) _ σ β _ w hr hl' hdst' hS ?_ hst (by rw [put_size]; exact hN) (by rw [put_defers']; exact hd) hv
            rw [hdd]
            exact repE_putd hE hdd' (rep_val_mk _)
          rcases hg with ⟨hg1, rfl⟩ | ⟨j, want, s, hg1, hs, rfl⟩
          · exact yes (by simp [Region.wanted, hg1]) h'
          · by_cases hno : ∃ u, get env s = some (.pu (.val (.tuple u)))
            · obtain ⟨u, hu⟩ := hno
              have h1 : vops Γ vos (putd env d noV) σ Q := by
                cases want <;> simp only [guardQ, hu] at h' <;> exact h'
              obtain ⟨v, hv1, hv2⟩ := hE s _ hu
              have := rep_val hv2
              subst this
              have hy : yielded ops a.tmps j = none := by simp [yielded, hs, hv1]
              exact no (by simp [Region.wanted, hg1, hy]) h1
            have h'' : ∃ b, get env s = some (.pu (.val (.bool b))) ∧ (if b = want then vop1 Γ env σ (fun a σ' => vops Γ vos (putd env d a) σ' Q) op else vops Γ vos (putd env d noV) σ Q) := by
              cases want <;> simp only [guardQ] at h' <;> split at h' <;> first | exact h'.elim | exact absurd ⟨_, by assumption⟩ hno | (rename_i b hb; refine ⟨b, hb, ?_⟩; rw [br_eq] at h'; cases b <;> simpa using h')
            obtain ⟨b, hb, h'⟩ := h''
            · obtain ⟨v, hv1, hv2⟩ := hE s _ hb
              have := rep_val hv2
              subst this
              have hy : yielded ops a.tmps j = some b := by simp [yielded, hs, hv1]
              by_cases hbw : b = want
              · rw [if_pos hbw] at h'
                exact yes (by simp [Region.wanted, hg1, hy, hbw]) h'
              · rw [if_neg hbw] at h'
                exact no (by simp [Region.wanted, hg1, hy, hbw]) h'
        · cases hc
termination_by vos => vos.length

end

end Go.Vm
