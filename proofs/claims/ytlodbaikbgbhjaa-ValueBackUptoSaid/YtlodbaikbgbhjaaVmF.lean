/- Vm, part F: soundness of operators, conversions, cuts, addresses. -/
import Derived.Test.YtlodbaikbgbhjaaVmE
set_option linter.unusedVariables false
set_option linter.unusedSimpArgs false
namespace Go.Vm
open Go Go.RowKit

section
variable {P : Program} {o : Oper} {a : Act} {w : World} {σ : St} {β : List (Option Nat)} {Z : Nat → Prop} {Q : AV → St → Prop} {env : Env}

theorem run_eqGuard {op : BinOp} {t : TypeId} {x y : Operand} {u v : Value} (hu : u ≠ .nilIface) (ha : ∀ cs, u ≠ .agg cs) : (eqGuard op t x y u v).run P w = .ok () w := by
  cases u <;> first
    | exact absurd rfl hu
    | exact absurd rfl (ha _)
    | (cases op <;> rfl)

theorem binI_run {op : BinOp} {t : TypeId} {k : IntKind} {x y : Int} {K : AV → Prop} (hs : op ≠ .shl ∧ op ≠ .shr) (h : binI op k x y K) : ∃ r, K (.val r) ∧ (binOp op t (.int k x) (.int k y)).run P w = .ok r w := by
  cases op <;> simp only [binI] at h <;> first
    | exact h.elim
    | (obtain ⟨h0, h⟩ := h
       refine ⟨_, h, ?_⟩; simp [binOp, Op.intDiv, h0]; done)
    | (refine ⟨_, h, ?_⟩; simp [binOp, Op.intArith]; done)
    | (refine ⟨_, h, ?_⟩; simp [binOp, Op.intBits, bitsI]; done)
    | (refine ⟨_, h, ?_⟩; simp [binOp, Op.intCmp]; done)

theorem binS_run {op : BinOp} {t : TypeId} {x y : ByteArray} {K : AV → Prop} (h : binS op x y K) : ∃ r, K (.val r) ∧ (binOp op t (.string x) (.string y)).run P w = .ok r w := by
  cases op <;> simp only [binS] at h <;> first
    | exact h.elim
    | (obtain ⟨h0, h⟩ := h
       refine ⟨_, h, ?_⟩
       have : ¬ (9223372036854775807 < ((x.size + y.size : Nat) : Int)) := by omega
       simp only [binOp, Op.stringOp, Sem.run_ite]
       rw [if_neg (by simp [IntKind.max, IntKind.bits, IntKind.signed]; omega)]
       rfl)
    | (refine ⟨_, h, ?_⟩; simp [binOp, Op.stringOp, strLt, strEq]; done)

theorem equal_unf (t : TypeId) (x y : Value) : Op.equal t x y = Op.equalIn (9999 + 1) t x y := rfl
theorem eq_bool {t : TypeId} (ht : P.underlying t = some .bool) (p q : Bool) : (Op.equal t (.bool p) (.bool q)).run P w = .ok (p == q) w := by
  rw [equal_unf, Op.equalIn, Sem.run_bind, run_underlying ht]; rfl
theorem eq_ptr_nil {t e : TypeId} (ht : P.underlying t = some (.pointer e)) (p : Option Addr) : (Op.equal t (.pointer p) (.pointer none)).run P w = .ok p.isNone w := by
  rw [equal_unf, Op.equalIn, Sem.run_bind, run_underlying ht]; cases p <;> rfl
theorem eq_slice_nil {t e : TypeId} (ht : P.underlying t = some (.slice e)) (p : Option Addr) (n c : Nat) : (Op.equal t (.slice p n c) (.slice none 0 0)).run P w = .ok p.isNone w := by
  rw [equal_unf, Op.equalIn, Sem.run_bind, run_underlying ht]; cases p <;> rfl
theorem eq_iface_nil {t : TypeId} {ms : Array (String × TypeId)} (ht : P.underlying t = some (.interface ms)) : (Op.equal t .nilIface .nilIface).run P w = .ok true w ∧ ∀ s u, (Op.equal t (.iface s u) .nilIface).run P w = .ok false w := by
  constructor
  · rw [equal_unf, Op.equalIn, Sem.run_bind, run_underlying ht]; rfl
  · intro s u; rw [equal_unf, Op.equalIn, Sem.run_bind, run_underlying ht]; rfl
theorem eq_func_nil {t : TypeId} {ps rs : Array TypeId} {vd : Bool} (ht : P.underlying t = some (.func ps rs vd)) : (Op.equal t .nilFunc .nilFunc).run P w = .ok true w ∧ ∀ f u v, (Op.equal t (.func f u v) .nilFunc).run P w = .ok false w := by
  constructor
  · rw [equal_unf, Op.equalIn, Sem.run_bind, run_underlying ht]; rfl
  · intro f u v; rw [equal_unf, Op.equalIn, Sem.run_bind, run_underlying ht]; rfl

theorem binF_run {op : BinOp} {t : TypeId} {k : FloatKind} {a b : Nat} {K : AV → Prop} {w : World} (h : binF op k a b K) : ∃ r, K (.val r) ∧ (binOp op t (.float k a) (.float k b)).run P w = .ok r w := by
  unfold binF at h
  split at h
  · exact ⟨_, h, by simp [binOp, Op.floatCmp]⟩
  · exact ⟨_, h, by simp [binOp, Op.floatCmp]⟩
  · exact ⟨_, h, by simp [binOp, Op.floatCmp]⟩
  · exact ⟨_, h, by simp [binOp, Op.floatCmp]⟩
  · exact h.elim
theorem o_bin {op : BinOp} {t t' : TypeId} {x y : Operand} {x' y' : X} (hS : RepS w σ β Z) (hE : RepE w (mem σ β Z) env a.tmps) (ho : o.op = .binOp op t x y t') (hx : xOf x = some x') (hy : xOf y = some y')
    (h : vop env σ Q (.bin op x' y')) : Outc P o a w σ β Z Q := by
  obtain ⟨u, hu, h⟩ := withA_some h
  obtain ⟨v, hv, h⟩ := withA_some h
  have ru := rep_opnd hE hx hu
  have rv := rep_opnd hE hy hv
  unfold binQ at h
  split at h
  · rename_i k p k' q
    have e1 := rep_val ru
    have e2 := rep_val rv
    split at h
    · obtain ⟨h0, h⟩ := h
      refine outc_same hS ?_ (rep_val_mk _) h
      have hq0 := Int.not_lt.2 h0
      simp [execOp, ho, e1, e2, run_eqGuard, binOp, Op.shift, hq0]
    · obtain ⟨h0, h⟩ := h
      refine outc_same hS ?_ (rep_val_mk _) h
      have hq0 := Int.not_lt.2 h0
      simp [execOp, ho, e1, e2, run_eqGuard, binOp, Op.shift, hq0]
    · rename_i h1 h2
      obtain ⟨rfl, h⟩ := h
      obtain ⟨r, hr, hrun⟩ := binI_run (P := P) (w := w) (t := t) ⟨fun e => h1 e, fun e => h2 e⟩ h
      exact outc_same hS (by simp [execOp, ho, e1, e2, run_eqGuard, hrun]) (rep_val_mk _) hr
  · have e1 := rep_val ru
    have e2 := rep_val rv
    obtain ⟨r, hr, hrun⟩ := binS_run (P := P) (w := w) (t := t) h
    exact outc_same hS (by simp [execOp, ho, e1, e2, run_eqGuard, hrun]) (rep_val_mk _) hr
  · rename_i k p k' q
    have e1 := rep_val ru
    have e2 := rep_val rv
    obtain ⟨rfl, h⟩ := h
    obtain ⟨r, hr, hrun⟩ := binF_run (P := P) (w := w) (t := t) h
    exact outc_same hS (by simp [execOp, ho, e1, e2, run_eqGuard, hrun]) (rep_val_mk _) hr
  · exact h.elim

theorem o_beq {op : BinOp} {t t' : TypeId} {x y : Operand} {x' y' : X} (hop : op = .eql ∨ op = .neq) (ht : P.underlying t = some .bool) (hS : RepS w σ β Z) (hE : RepE w (mem σ β Z) env a.tmps)
    (ho : o.op = .binOp op t x y t') (hx : xOf x = some x') (hy : xOf y = some y') (h : vop env σ Q (.beq (op == .neq) x' y')) : Outc P o a w σ β Z Q := by
  simp only [vop] at h
  split at h
  · rename_i p q hp hq
    have e1 := rep_val (rep_opnd hE hx hp)
    have e2 := rep_val (rep_opnd hE hy hq)
    have h : Q (.val (.bool (if (op == .neq) = true then !(p == q) else (p == q)))) σ := by rcases hop with rfl | rfl <;> exact h
    refine outc_same hS ?_ (rep_val_mk _) h
    rcases hop with rfl | rfl
    · simp [execOp, ho, e1, e2, run_eqGuard, binOp, eq_bool ht]
    · simp [execOp, ho, e1, e2, run_eqGuard, binOp, eq_bool ht]
  · exact h.elim

def nkOf (P : Program) (t : TypeId) (y : Operand) : Option NK := match y with
  | .const (.pointer none) => match P.underlying t with
    | some (.pointer _) => some .p
    | _ => none
  | .const (.slice none 0 0) => match P.underlying t with
    | some (.slice _) => some .s
    | _ => none
  | .const .nilIface => match P.underlying t with
    | some (.interface _) => some .i
    | _ => none
  | .const .nilFunc => match P.underlying t with
    | some (.func _ _ _) => some .f
    | _ => none
  | _ => none

/-- what a comparison with nil comes to -/
theorem isnil_run {t : TypeId} {y : Operand} {nk : NK} {u : AV} {x : Operand} {op : BinOp} {K : Bool → Prop} (hn : nkOf P t y = some nk) (hS : RepS w σ β Z) (hu : RepA w (mem σ β Z) u (a.eval x)) (h : isnilQ σ nk u K) :
    ∃ b, K b ∧ (Op.equal t (a.eval x) (a.eval y)).run P w = .ok b w ∧ (eqGuard op t x y (a.eval x) (a.eval y)).run P w = .ok () w := by
  unfold nkOf at hn
  have fin : ∀ {v : Value} {b : Bool}, a.eval x = v → (Op.equal t v (a.eval y)).run P w = .ok b w → (v ≠ .nilIface ∧ (∀ cs, v ≠ .agg cs)) ∨ (v = .nilIface ∧ y = .const .nilIface) →
      (Op.equal t (a.eval x) (a.eval y)).run P w = .ok b w ∧ (eqGuard op t x y (a.eval x) (a.eval y)).run P w = .ok () w := by
    intro v b hv hr hg
    rw [hv]
    refine ⟨hr, ?_⟩
    rcases hg with ⟨h1, h2⟩ | ⟨rfl, rfl⟩
    · exact run_eqGuard h1 h2
    · unfold eqGuard
      simp [Act.eval]
  split at hn
  · -- pointers
    split at hn <;> simp only [Option.some.injEq, reduceCtorEq] at hn
    rename_i e ht
    subst hn
    unfold isnilQ at h
    split at h <;> rename_i hnk <;> try (first | cases hnk | exact h.elim)
    · have e1 := rep_val hu
      exact ⟨true, h, fin e1 (by simp [Act.eval, eq_ptr_nil ht]) (.inl ⟨by simp, by simp⟩)⟩
    · obtain ⟨ob, hob, rfl, hq⟩ := withO_some h
      obtain ⟨b, arr, hb, hv, _⟩ := rep_ptr hS hob hu
      exact ⟨false, hq, fin hv (by simp [Act.eval, eq_ptr_nil ht]) (.inl ⟨by simp, by simp⟩)⟩
    · simp only [RepA, RepP] at hu
      obtain ⟨ad, vs, hv, _⟩ := hu
      exact ⟨false, h, fin hv (by simp [Act.eval, eq_ptr_nil ht]) (.inl ⟨by simp, by simp⟩)⟩
  · -- slices
    split at hn <;> simp only [Option.some.injEq, reduceCtorEq] at hn
    rename_i e ht
    subst hn
    have key : ∀ {A : Option Addr} {n c : Nat}, a.eval x = .slice A n c → (A.isNone = true → K true) → (A.isNone = false → K false) →
        ∃ b, K b ∧ (Op.equal t (a.eval x) (a.eval (.const (.slice none 0 0)))).run P w = .ok b w ∧ (eqGuard op t x (.const (.slice none 0 0)) (a.eval x) (a.eval (.const (.slice none 0 0)))).run P w = .ok () w := by
      intro A n c hv h1 h2
      cases A with
      | none => exact ⟨true, h1 rfl, fin hv (by simp [Act.eval, eq_slice_nil ht]) (.inl ⟨by simp, by simp⟩)⟩
      | some ad => exact ⟨false, h2 rfl, fin hv (by simp [Act.eval, eq_slice_nil ht]) (.inl ⟨by simp, by simp⟩)⟩
    unfold isnilQ at h
    split at h <;> rename_i hnk <;> try (first | cases hnk | exact h.elim)
    · have e1 := rep_val hu
      exact key e1 (fun _ => h) (by simp)
    · rename_i n cs
      simp only [RepA, RepP] at hu
      obtain ⟨A, c, hv, h1, h2, h3⟩ := hu
      rw [br_dec] at h
      split at h
      · exact key hv (fun _ => h.1) (fun _ => h.2)
      · obtain ⟨hne, h⟩ := h
        rcases h3 with h3 | ⟨ad, vs, rfl, _⟩
        · exact absurd h3 hne
        · exact key hv (by simp) (fun _ => h)
    · rename_i id g off n sz
      obtain ⟨ob, hob, rfl, hq⟩ := withO_some h
      rw [br_dec] at hq
      simp only [RepA] at hu
      obtain ⟨_, hid, hal⟩ := hu
      have hlt : id < β.length := by rw [hS.len]; exact hid
      have hB : β[id]? = some β[id] := List.getElem?_eq_getElem hlt
      rcases (hal _ _ (al_obj hob hB)).2 rfl with ⟨h1, h2, h3, h4⟩ | ⟨b, c, arr, e, h1, h2, h3⟩
      · subst h3
        rw [if_pos rfl] at hq
        exact key h2 (fun _ => hq.1) (fun _ => hq.2)
      · split at hq
        · exact key h2 (fun _ => hq.1) (fun _ => hq.2)
        · exact key h2 (by simp) (fun _ => hq)
  · -- interfaces
    split at hn <;> simp only [Option.some.injEq, reduceCtorEq] at hn
    rename_i e ht
    subst hn
    unfold isnilQ at h
    split at h <;> rename_i hnk <;> try (first | cases hnk | exact h.elim)
    · have e1 := rep_val hu
      exact ⟨true, h, fin e1 (by simp [Act.eval, eq_iface_nil ht]) (.inr ⟨rfl, rfl⟩)⟩
    · simp only [RepA, RepP] at hu
      obtain ⟨u, hv, _⟩ := hu
      exact ⟨false, h, fin hv (by simp [Act.eval, eq_iface_nil ht]) (.inl ⟨by simp, by simp⟩)⟩
    · simp only [RepA] at hu
      obtain ⟨u, hv, _⟩ := hu
      exact ⟨false, h, fin hv (by simp [Act.eval, eq_iface_nil ht]) (.inl ⟨by simp, by simp⟩)⟩
  · -- functions
    split at hn <;> simp only [Option.some.injEq, reduceCtorEq] at hn
    rename_i e ht
    subst hn
    unfold isnilQ at h
    split at h <;> rename_i hnk <;> try (first | cases hnk | exact h.elim)
    · have e1 := rep_val hu
      exact ⟨true, h, fin e1 (by simp [Act.eval, eq_func_nil ht]) (.inl ⟨by simp, by simp⟩)⟩
    · simp only [RepA, RepP] at hu
      obtain ⟨u, v, hv, _⟩ := hu
      exact ⟨false, h, fin hv (by simp [Act.eval, eq_func_nil ht]) (.inl ⟨by simp, by simp⟩)⟩
    · simp only [RepA] at hu
      obtain ⟨u, v, hv, _⟩ := hu
      exact ⟨false, h, fin hv (by simp [Act.eval, eq_func_nil ht]) (.inl ⟨by simp, by simp⟩)⟩
  · cases hn

theorem o_isnil {op : BinOp} {t t' : TypeId} {x y : Operand} {x' : X} {nk : NK} (hop : op = .eql ∨ op = .neq) (hn : nkOf P t y = some nk) (hS : RepS w σ β Z) (hE : RepE w (mem σ β Z) env a.tmps)
    (ho : o.op = .binOp op t x y t') (hx : xOf x = some x') (h : vop env σ Q (.isnil nk (op == .neq) x')) : Outc P o a w σ β Z Q := by
  obtain ⟨u, hu, h⟩ := withA_some h
  obtain ⟨b, hb, hr, hg⟩ := isnil_run (P := P) (op := op) (y := y) hn hS (rep_opnd hE hx hu) h
  have hb : Q (.val (.bool (if (op == .neq) = true then !b else b))) σ := by rcases hop with rfl | rfl <;> exact hb
  refine outc_same hS ?_ (rep_val_mk _) hb
  have hne : ∀ v : Value, binOp .eql t (a.eval x) (a.eval y) = (do pure (.bool (← Op.equal t (a.eval x) (a.eval y)))) ∧ binOp .neq t (a.eval x) (a.eval y) = (do pure (.bool (!(← Op.equal t (a.eval x) (a.eval y))))) := by
    intro v
    have hy : a.eval y = .pointer none ∨ a.eval y = .slice none 0 0 ∨ a.eval y = .nilIface ∨ a.eval y = .nilFunc := by
      unfold nkOf at hn
      split at hn <;> simp_all [Act.eval]
    rcases hy with hy | hy | hy | hy <;> rw [hy] <;> constructor <;> cases a.eval x <;> rfl
  obtain ⟨n1, n2⟩ := hne undef
  rcases hop with rfl | rfl
  · simp [execOp, ho, hg, n1, hr]
  · simp [execOp, ho, hg, n2, hr]

theorem o_un {op : UnOp} {t : TypeId} {x : Operand} {x' : X} (hS : RepS w σ β Z) (hE : RepE w (mem σ β Z) env a.tmps) (ho : o.op = .unOp op t x) (hx : xOf x = some x') (h : vop env σ Q (.un op x')) : Outc P o a w σ β Z Q := by
  obtain ⟨u, hu, h⟩ := withA_some h
  have ru := rep_opnd hE hx hu
  unfold unQ at h
  split at h
  · have e1 := rep_val ru
    exact outc_same hS (by simp [execOp, ho, e1, Op.unary]) (rep_val_mk _) h
  · have e1 := rep_val ru
    exact outc_same hS (by simp [execOp, ho, e1, Op.unary, Op.intArith]) (rep_val_mk _) h
  · have e1 := rep_val ru
    exact outc_same hS (by simp [execOp, ho, e1, Op.unary, Op.intBits, bitsI]) (rep_val_mk _) h
  · exact h.elim

theorem o_cvInt {s t : TypeId} {k : IntKind} {x : Operand} {x' : X} (hs : (P.underlying s).isSome = true) (ht : P.underlying t = some (.int k)) (hS : RepS w σ β Z) (hE : RepE w (mem σ β Z) env a.tmps) (ho : o.op = .convert s t x) (hx : xOf x = some x')
    (h : vop env σ Q (.cvInt k x')) : Outc P o a w σ β Z Q := by
  obtain ⟨k0, n, hn, h⟩ := withI_some h
  have e1 := rep_val (rep_opnd hE hx hn)
  obtain ⟨d, hd⟩ := Option.isSome_iff_exists.1 hs
  refine outc_same hS ?_ (rep_val_mk _) h
  simp [execOp, ho, e1, convert, run_underlying hd, run_underlying ht, Conv.intToInt]

end

end Go.Vm
