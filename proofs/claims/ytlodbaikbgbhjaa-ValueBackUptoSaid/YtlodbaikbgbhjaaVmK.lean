/- Vm, part K: compilation, whole; every operation but calls is sound. -/
import Derived.Test.YtlodbaikbgbhjaaVmJ
import Derived.Laws.StructEq
set_option linter.unusedVariables false
set_option linter.unusedSimpArgs false
namespace Go.Vm
open Go Go.RowKit

def isIface : TypeDesc → Bool
  | .interface _ => true
  | _ => false

def copBuild (P : Program) (t : TypeId) (parts : List (Nat × Operand)) : Option VOp := match P.underlying t, zeroB P t with
  | some (.struct fs), some z => if fs.toList.all (fun f => (szB P f.type).isSome) then (partsOf (structPl P fs) parts).map (.build z) else none
  | some (.array _ e), some z => match szB P e with
    | some sz => (partsOf (fun j => some (j * sz, sz)) parts).map (.build z)
    | none => none
  | _, _ => none
def copLit (P : Program) (t : TypeId) (n : Nat) (parts : List (Nat × Operand)) : Option VOp := match P.underlying t with
  | some (.slice e) => match szB P e, zeroB P e with
    | some sz, some z => if z.length = sz ∧ n * sz ≤ 16777216 ∧ n ≤ 16777216 then (partsOf (fun j => some (j * sz, sz)) parts).map (.lit false e sz n (List.replicate n z).flatten) else none
    | _, _ => none
  | _ => none
def copFld (P : Program) (t : TypeId) (x : Operand) (j : Nat) : Option VOp := match P.underlying t, xOf x with
  | some (.struct fs), some y => match fs[j]? with
    | some f => match szB P f.type with
      | some sz => if sz = 0 then none else some (.fld f.offset y)
      | none => none
    | none => none
  | _, _ => none
def copGetf (P : Program) (t : TypeId) (x : Operand) (j : Nat) : Option VOp := match P.underlying t, xOf x with
  | some (.struct fs), some y => match fs[j]? with
    | some f => match agB P f.type, szB P f.type with
      | some ag, some sz => some (.getf ag f.offset sz y)
      | _, _ => none
    | none => none
  | _, _ => none
def copIdx (P : Program) (t : TypeId) (x i : Operand) : Option VOp := match xOf x, xOf i with
  | some x, some i => match P.underlying t with
    | some (.slice e) => (szB P e).map fun sz => .idx sz x i
    | some (.array len e) => (szB P e).map fun sz => .idxA len sz x i
    | _ => none
  | _, _ => none
def copCut (P : Program) (t : TypeId) (x : Operand) (lo hi mx : Option Operand) : Option VOp := match xOf x, optX lo, optX hi, optX mx with
  | some x, some lo', some hi', some mx' => match P.underlying t with
    | some (.slice e) => if hi.isNone && mx.isSome then none else (szB P e).map fun sz => .cut sz x lo' hi' mx'
    | some .string => if mx.isSome then none else some (.cutS x lo' hi')
    | some (.array len e) => if mx.isSome then none else (szB P e).map fun sz => .cutA len sz x lo' hi'
    | _ => none
  | _, _, _, _ => none
def copMake (P : Program) (t : TypeId) (n c : Operand) : Option VOp := match P.underlying t, xOf n, xOf c with
  | some (.slice e), some n, some c => match P.info? e, zeroB P e with
    | some i, some z => if z.length = i.size then some (.make e i.bytes i.size z n c) else none
    | _, _ => none
  | _, _, _ => none
def copConv (P : Program) (s t : TypeId) (x : Operand) : Option VOp := match xOf x, P.underlying s, P.underlying t with
  | some x, some _, some (.int k) => some (.cvInt k x)
  | some x, some .string, some .string => some (.cvStr x)
  | some x, some (.slice e), some .string => match P.underlying e with
    | some (.int .u8) => some (.toStr x)
    | _ => none
  | some x, some .string, some (.slice e) => match P.underlying e with
    | some (.int .u8) => some (.toBytes e x)
    | _ => none
  | _, _, _ => none
/-- a struct of plain cells, in their order -/
def eqsK (P : Program) : Nat → List Field → Option (List Nat)
  | _, [] => some []
  | i, f :: fs => if (f.name == "_") = false ∧ f.offset = i ∧ agB P f.type = some false ∧ szB P f.type = some 1 then
      match P.underlying f.type, eqsK P (i + 1) fs with
      | some (.int _), some l => some (0 :: l)
      | some .string, some l => some (1 :: l)
      | some .bool, some l => some (2 :: l)
      | _, _ => none
    else none
def eqsB (P : Program) (t : TypeId) (fs : List Field) : Option (List Nat) := if P.stoodInHeld t = false ∧ P.eqGuardType P.depth t = false then eqsK P 0 fs else none
def copBin (P : Program) (op : BinOp) (t : TypeId) (x y : Operand) : Option VOp := match xOf x, xOf y with
  | some x', some y' => if op = .eql ∨ op = .neq then
      match nkOf P t y with
      | some nk => some (.isnil nk (op == .neq) x')
      | none => match P.underlying t with
        | some .bool => some (.beq (op == .neq) x' y')
        | some (.struct fs) => match eqsB P t fs.toList with
          | some ks => some (.eqs (op == .neq) ks x' y')
          | none => some (.bin op x' y')
        | _ => some (.bin op x' y')
    else some (.bin op x' y')
  | _, _ => none
def copAppend (P : Program) (t u : TypeId) (x y : Operand) : Option VOp := match xOf x, xOf y, P.underlying t with
  | some x, some y, some (.slice e) => match P.info? e with
    | some i => if u = t then match zeroB P e with
        | some z => if z.length = i.size then some (.app e i.bytes i.size x y) else none
        | none => none
      else match P.underlying u, i.zero with
        | some .string, some (.int .u8 n) => if i.bytes = 1 ∧ i.size = 1 ∧ n = 0 then some (.appS e x y) else none
        | _, _ => none
    | none => none
  | _, _, _ => none
def copCall (P : Program) (c : Go.Call) : Option VOp := match c.callee with
  | .value (.func f) => (xsOf c.args.toList).map (.call f [])
  | .value f => match xOf f, xsOf c.args.toList with
    | some f, some xs => some (.callV f [] xs)
    | _, _ => none
  | .builtin .len => match c.args.toList, c.argTypes.toList with
    | [x], [t] => match xOf x, P.underlying t with
      | some x, some .string => some (.lenS x)
      | some x, some (.slice _) => some (.len x)
      | _, _ => none
    | _, _ => none
  | .builtin .append => match c.args.toList, c.argTypes.toList with
    | [x, y], [t, u] => copAppend P t u x y
    | _, _ => none
  | .builtin .copy => match c.args.toList, c.argTypes.toList with
    | [x, y], [t, _] => match xOf x, xOf y, P.underlying t with
      | some x, some y, some (.slice e) => (szB P e).map fun sz => .copy sz x y
      | _, _, _ => none
    | _, _ => none
  | .builtin .max => match c.args.toList with
    | [x, y] => match xOf x, xOf y with
      | some x, some y => some (.mm true x y)
      | _, _ => none
    | _ => none
  | .builtin .min => match c.args.toList with
    | [x, y] => match xOf x, xOf y with
      | some x, some y => some (.mm false x y)
      | _, _ => none
    | _ => none
  | _ => none

def cop (P : Program) (o : Oper) : Option VOp := match o.op with
  | .move x => (xOf x).map .mv
  | .assign x => (xOf x).map .mv
  | .pick c a b => match xOf c, xOf a, xOf b with
    | some c, some a, some b => some (.pick c a b)
    | _, _, _ => none
  | .alloc e => (zeroB P e).map (.alloc e)
  | .box e x => (xOf x).map (.box e)
  | .build t parts => copBuild P t parts.toList
  | .buildSlice t n parts => copLit P t n parts.toList
  | .load t x => match agB P t, szB P t, xOf x with
    | some ag, some sz, some x => some (.load ag sz x)
    | _, _, _ => none
  | .store t x y => match szB P t, xOf x, xOf y with
    | some sz, some x, some y => some (.store sz x y)
    | _, _, _ => none
  | .nilCheck x => (xOf x).map .nilck
  | .binOp op t x y _ => copBin P op t x y
  | .unOp op _ x => (xOf x).map (.un op)
  | .convert s t x => copConv P s t x
  | .makeInterface t x => match P.underlying t, xOf x with
    | some d, some x => if isIface d then none else some (.mkIfc t x)
    | _, _ => none
  | .makeFunc f fi ca => match xsOf fi.toList, xsOf ca.toList with
    | some a, some b => some (.mkFn f a b)
    | _, _ => none
  | .makeSlice t n c => copMake P t n c
  | .slice t x lo hi mx => copCut P t x lo hi mx
  | .fieldAddr t x j => copFld P t x j
  | .field t x j => copGetf P t x j
  | .indexAddr t x i => copIdx P t x i
  | .index t x i => match P.underlying t, xOf x, xOf i with
    | some .string, some x, some i => some (.chr x i)
    | _, _, _ => none
  | .extract x i => (xOf x).map fun x => .extract x i
  | .call c => copCall P c
  | _ => none

/-- What an operation is without the hints. -/
def stripOp : VOp → VOp
  | .nilRow _ _ => .mv (.c (.val (.slice none 0 0)))
  | .lit _ e sz n z ps => .lit false e sz n z ps
  | .call f _ xs => .call f [] xs
  | .callV f _ xs => .callV f [] xs
  | op => op

section
variable {P : Program} {o : Oper} {a : Act} {w : World} {σ : St} {β : List (Option Nat)} {Z : Nat → Prop} {Q : AV → St → Prop} {env : Env}

theorem o_cvStr {s t : TypeId} {x : Operand} {x' : X} {d : TypeDesc} (hs : P.underlying s = some d) (ht : P.underlying t = some .string) (hS : RepS w σ β Z) (hE : RepE w (mem σ β Z) env a.tmps) (ho : o.op = .convert s t x) (hx : xOf x = some x')
    (h : vop env σ Q (.cvStr x')) : Outc P o a w σ β Z Q := by
  simp only [vop] at h
  split at h
  · rename_i str hstr
    have e1 := rep_val (rep_opnd hE hx hstr)
    refine outc_same hS ?_ (rep_val_mk _) h
    simp [execOp, ho, e1, convert, run_underlying hs, run_underlying ht]
  · exact h.elim

theorem map_some {γ δ : Type} {f : γ → δ} {x : Option γ} {y : δ} (h : x.map f = some y) : ∃ z, x = some z ∧ y = f z := by
  obtain ⟨z, h1, h2⟩ := Option.map_eq_some_iff.1 h
  exact ⟨z, h1, h2.symm⟩

theorem strip_mv {vo : VOp} {x : Operand} {y : X} (hx : xOf x = some y) (h : stripOp vo = .mv y) : vo = .mv y ∨ ∃ e sz, vo = .nilRow e sz ∧ x = .const (.slice none 0 0) := by
  cases vo <;> simp only [stripOp, reduceCtorEq, VOp.mv.injEq] at h
  · exact .inl (by rw [h])
  · rename_i e sz
    refine .inr ⟨e, sz, rfl, ?_⟩
    subst h
    cases x with
    | const v =>
      simp only [xOf] at hx
      split at hx
      · split at hx <;> simp at hx
      · simp at hx; rw [hx]
    | _ => simp [xOf] at hx

theorem aggPs_rep {M : Mem} {a : AV} {u : List PV} {v : Value} (h : aggPs a = some u) (r : RepA w M a v) : ∃ vs, v = .agg vs ∧ RepPs w (M.imm w) true u vs.toList := by
  unfold aggPs at h
  split at h
  · obtain rfl := Option.some.inj h
    simpa only [RepA, RepP] using r
  · simp only [RepA] at r
    obtain ⟨vs, rfl, r⟩ := r
    exact ⟨vs, rfl, by rw [unpus_some h] at r; exact RepAs.to_pu r⟩
  · cases h
theorem eqFields_run {I : Nat → Prop} {us vs : Array Value} (d : Nat) : ∀ (fs : List Field) (i : Nat) (ks : List Nat) (u v : List PV) (r : Bool), eqsK P i fs = some ks → RepPs w I true u (us.toList.drop i) → RepPs w I true v (vs.toList.drop i) → plainEq ks u v = some r →
    (Op.eqFields (d + 1) us vs fs).run P w = .ok r w
  | [], i, ks, u, v, r, hk, hu, hv, h => by
    simp only [eqsK, Option.some.injEq] at hk
    subst hk
    unfold plainEq at h
    split at h
    · obtain rfl := Option.some.inj h
      rfl
    · contradiction
    · cases h
  | f :: fs, i, ks, u, v, r, hk, hu, hv, h => by
    simp only [eqsK] at hk
    split at hk
    · rename_i hc
      obtain ⟨hn, rfl, ha, hz⟩ := hc
      have step : ∀ (k : Nat) (l : List Nat), eqsK P (f.offset + 1) fs = some l → ks = k :: l → (∀ a b q x y, scEq k a b = some q → RepP w I a x → RepP w I b y → (Op.equalIn (d + 1) f.type x y).run P w = .ok q w) → (Op.eqFields (d + 1) us vs (f :: fs)).run P w = .ok r w := by
        rintro k l hl rfl hq
        unfold plainEq at h
        split at h
        · contradiction
        · rename_i k' ks' a u' b v' h1
          obtain ⟨rfl, rfl⟩ := List.cons.inj h1
          split at h
          · rename_i q1 q2 e1 e2
            obtain rfl := Option.some.inj h
            simp only [RepPs] at hu hv
            obtain ⟨x, xs, hx, _, rx, hu⟩ := hu
            obtain ⟨y, ys, hy, _, ry, hv⟩ := hv
            have gx : us.toList[f.offset]? = some x := by rw [← List.head?_drop, hx]; rfl
            have gy : vs.toList[f.offset]? = some y := by rw [← List.head?_drop, hy]; rfl
            have lx : f.offset + 1 ≤ us.size := by have := (List.getElem?_eq_some_iff.1 gx).1; rw [Array.length_toList] at this; omega
            have ly : f.offset + 1 ≤ vs.size := by have := (List.getElem?_eq_some_iff.1 gy).1; rw [Array.length_toList] at this; omega
            have dx : us.toList.drop (f.offset + 1) = xs := by rw [← List.drop_drop, hx]; rfl
            have dy : vs.toList.drop (f.offset + 1) = ys := by rw [← List.drop_drop, hy]; rfl
            have ih := eqFields_run d fs (f.offset + 1) _ _ _ _ hl (dx ▸ hu) (dy ▸ hv) e2
            simp only [Op.eqFields]
            rw [if_pos (by simpa using hn), Sem.run_bind, (run_part ha hz lx).2 rfl _ gx, Result.andThen_ok, Sem.run_bind, (run_part ha hz ly).2 rfl _ gy, Result.andThen_ok, Sem.run_bind, hq _ _ _ _ _ e1 rx ry, Result.andThen_ok]
            cases q1
            · rfl
            · simpa using ih
          · cases h
        · cases h
      split at hk
      · rename_i k l hf hl
        refine step 0 l hl (Option.some.inj hk).symm ?_
        intro a b q x y hs rx ry
        unfold scEq at hs
        split at hs
        · split at hs
          · rename_i e
            subst e
            obtain rfl := Option.some.inj hs
            simp only [RepP] at rx ry
            subst rx ry
            exact run_equalIn_int w d f.type _ _ _ _ hf
          · cases hs
        · contradiction
        · contradiction
        · cases hs
      · rename_i l hf hl
        refine step 1 l hl (Option.some.inj hk).symm ?_
        intro a b q x y hs rx ry
        unfold scEq at hs
        split at hs
        · contradiction
        · obtain rfl := Option.some.inj hs
          simp only [RepP] at rx ry
          subst rx ry
          exact run_equalIn_string w d f.type _ _ hf
        · contradiction
        · cases hs
      · rename_i l hf hl
        refine step 2 l hl (Option.some.inj hk).symm ?_
        intro a b q x y hs rx ry
        unfold scEq at hs
        split at hs
        · contradiction
        · contradiction
        · obtain rfl := Option.some.inj hs
          simp only [RepP] at rx ry
          subst rx ry
          exact run_equalIn_bool' w d f.type _ _ hf
        · cases hs
      · cases hk
    · cases hk
theorem o_eqs {op : BinOp} {t t' : TypeId} {x y : Operand} {x' y' : X} {fs : Array Field} {ks : List Nat} (hop : op = .eql ∨ op = .neq) (ht : P.underlying t = some (.struct fs)) (hb : eqsB P t fs.toList = some ks) (hS : RepS w σ β Z) (hE : RepE w (mem σ β Z) env a.tmps)
    (ho : o.op = .binOp op t x y t') (hx : xOf x = some x') (hy : xOf y = some y') (h : vop env σ Q (.eqs (op == .neq) ks x' y')) : Outc P o a w σ β Z Q := by
  obtain ⟨u, hu, h⟩ := withA_some h
  obtain ⟨v, hv, h⟩ := withA_some h
  have ru := rep_opnd hE hx hu
  have rv := rep_opnd hE hy hv
  unfold eqsB at hb
  split at hb
  · rename_i hg
    split at h
    · rename_i us vs h1 h2
      split at h
      · rename_i r hr
        have h : Q (.val (.bool (if (op == .neq) = true then !r else r))) σ := by rcases hop with rfl | rfl <;> exact h
        obtain ⟨au, e1, pu⟩ := aggPs_rep h1 ru
        obtain ⟨av, e2, pv⟩ := aggPs_rep h2 rv
        have hf : P.fieldsOf t = fs := by simp [Program.fieldsOf, ht]
        have hr' : (Op.equalIn 10000 t (.agg au) (.agg av)).run P w = .ok r w := by
          rw [show (10000 : Nat) = 9999 + 1 from rfl, run_equalIn_struct w 9999 t au av (by rw [hf]; exact ht) hg.1, hf]
          exact eqFields_run (I := (mem σ β Z).imm w) 9998 fs.toList 0 ks us vs r hb (by simpa using pu) (by simpa using pv) hr
        refine outc_same hS ?_ (rep_val_mk _) h
        rcases hop with rfl | rfl
        · simp [execOp, ho, e1, e2, run_eqGuard_agg w _ t x y au av hg.2, run_eql_struct, hr']
        · simp [execOp, ho, e1, e2, run_eqGuard_agg w _ t x y au av hg.2, run_neq_struct, hr']
      · exact h.elim
    · exact h.elim
  · cases hb
theorem case_mv {vo : VOp} {x : Operand} (ho : o.op = .move x ∨ o.op = .assign x) (h : (xOf x).map .mv = some (stripOp vo)) (hS : RepS w σ β Z) (hE : RepE w (mem σ β Z) env a.tmps) (hv : vop env σ Q vo) : Outc P o a w σ β Z Q := by
  obtain ⟨y, hx, hy⟩ := map_some h
  rcases strip_mv hx hy with rfl | ⟨e, sz, rfl, hc⟩
  · exact o_mv hS hE ho hx hv
  · exact o_nilRow hS ho hc hv

set_option maxHeartbeats 1000000 in
theorem case_call {vo : VOp} {c : Go.Call} (ho : o.op = .call c) (h : copCall P c = some (stripOp vo)) (hnc : ∀ f b xs, vo ≠ .call f b xs) (hnv : ∀ f b xs, vo ≠ .callV f b xs) (hS : RepS w σ β Z) (hE : RepE w (mem σ β Z) env a.tmps) (hv : vop env σ Q vo) : Outc P o a w σ β Z Q := by
  obtain ⟨callee, args, tys⟩ := c
  unfold copCall at h
  simp only at h
  split at h
  · obtain ⟨xs, _, hy⟩ := map_some h
    cases vo <;> simp only [stripOp, reduceCtorEq] at hy
    exact absurd rfl (hnc _ _ _)
  · split at h
    · simp only [Option.some.injEq] at h
      cases vo <;> simp only [stripOp, reduceCtorEq] at h
      exact absurd rfl (hnv _ _ _)
    · cases h
  · split at h
    · rename_i x t ha ht
      have ea : args = #[x] := by apply Array.ext'; simpa using ha
      have et : tys = #[t] := by apply Array.ext'; simpa using ht
      subst ea et
      split at h
      · rename_i hx hu
        simp only [Option.some.injEq] at h
        cases vo <;> simp only [stripOp, reduceCtorEq, VOp.lenS.injEq] at h
        subst h
        exact o_lenS hu hS hE ho hx hv
      · rename_i hx hu
        simp only [Option.some.injEq] at h
        cases vo <;> simp only [stripOp, reduceCtorEq, VOp.len.injEq] at h
        subst h
        exact o_len hu hS hE ho hx hv
      · cases h
    · cases h
  · split at h
    · rename_i x y t u ha ht
      have ea : args = #[x, y] := by apply Array.ext'; simpa using ha
      have et : tys = #[t, u] := by apply Array.ext'; simpa using ht
      subst ea et
      unfold copAppend at h
      split at h
      · rename_i x' y' e hx hy hu
        split at h
        · rename_i i hi
          split at h
          · rename_i hut
            subst hut
            split at h
            · rename_i z hz
              split at h
              · rename_i hzl
                simp only [Option.some.injEq] at h
                cases vo <;> simp only [stripOp, reduceCtorEq, VOp.app.injEq] at h
                obtain ⟨rfl, rfl, rfl, rfl, rfl⟩ := h
                exact o_app hu hi rfl rfl hz hzl hS hE ho hx hy hv
              · cases h
            · cases h
          · split at h
            · rename_i n hus hz
              split at h
              · rename_i hb
                obtain ⟨h1, h2, rfl⟩ := hb
                simp only [Option.some.injEq] at h
                cases vo <;> simp only [stripOp, reduceCtorEq, VOp.appS.injEq] at h
                obtain ⟨rfl, rfl, rfl⟩ := h
                exact o_appS hu hus hi h1 h2 hz hS hE ho hx hy hv
              · cases h
            · cases h
        · cases h
      · cases h
    · cases h
  · split at h
    · rename_i x y t u ha ht
      have ea : args = #[x, y] := by apply Array.ext'; simpa using ha
      have et : tys = #[t, u] := by apply Array.ext'; simpa using ht
      subst ea et
      split at h
      · rename_i x' y' e hx hy hu
        obtain ⟨sz, hsz, hy'⟩ := map_some h
        cases vo <;> simp only [stripOp, reduceCtorEq, VOp.copy.injEq] at hy'
        obtain ⟨rfl, rfl, rfl⟩ := hy'
        exact o_copy hu hsz hS hE ho hx hy hv
      · cases h
    · cases h
  · split at h
    · rename_i x y ha
      have ea : args = #[x, y] := by apply Array.ext'; simpa using ha
      subst ea
      split at h
      · rename_i hx hy
        simp only [Option.some.injEq] at h
        cases vo <;> simp only [stripOp, reduceCtorEq, VOp.mm.injEq] at h
        obtain ⟨rfl, rfl, rfl⟩ := h
        exact o_mm (mx := true) hS hE ho hx hy hv
      · cases h
    · cases h
  · split at h
    · rename_i x y ha
      have ea : args = #[x, y] := by apply Array.ext'; simpa using ha
      subst ea
      split at h
      · rename_i hx hy
        simp only [Option.some.injEq] at h
        cases vo <;> simp only [stripOp, reduceCtorEq, VOp.mm.injEq] at h
        obtain ⟨rfl, rfl, rfl⟩ := h
        exact o_mm (mx := false) hS hE ho hx hy hv
      · cases h
    · cases h
  · cases h

set_option maxHeartbeats 2000000 in
theorem vop_sound {vo : VOp} (h : cop P o = some (stripOp vo)) (hnc : ∀ f b xs, vo ≠ .call f b xs) (hnv : ∀ f b xs, vo ≠ .callV f b xs) (hS : RepS w σ β Z) (hE : RepE w (mem σ β Z) env a.tmps) (hv : vop env σ Q vo) : Outc P o a w σ β Z Q := by
  unfold cop at h
  split at h <;> rename_i ho
  · exact case_mv (.inl ho) h hS hE hv
  · exact case_mv (.inr ho) h hS hE hv
  · split at h
    · rename_i h1 h2 h3
      simp only [Option.some.injEq] at h
      cases vo <;> simp only [stripOp, reduceCtorEq, VOp.pick.injEq] at h
      obtain ⟨rfl, rfl, rfl⟩ := h
      exact o_pick hS hE ho h1 h2 h3 hv
    · cases h
  · obtain ⟨z, hz, hy⟩ := map_some h
    cases vo <;> simp only [stripOp, reduceCtorEq, VOp.alloc.injEq] at hy
    obtain ⟨rfl, rfl⟩ := hy
    exact o_alloc hS ho hz hv
  · obtain ⟨y, hx, hy⟩ := map_some h
    cases vo <;> simp only [stripOp, reduceCtorEq, VOp.box.injEq] at hy
    obtain ⟨rfl, rfl⟩ := hy
    exact o_box hS hE ho hx hv
  · unfold copBuild at h
    split at h
    · rename_i fs z ht hz
      split at h
      · rename_i hall
        obtain ⟨qs, hq, hy⟩ := map_some h
        cases vo <;> simp only [stripOp, reduceCtorEq, VOp.build.injEq] at hy
        obtain ⟨rfl, rfl⟩ := hy
        exact o_buildS ht hall hz hq hS hE ho hv
      · cases h
    · rename_i len e z ht hz
      split at h
      · rename_i sz hsz
        obtain ⟨qs, hq, hy⟩ := map_some h
        cases vo <;> simp only [stripOp, reduceCtorEq, VOp.build.injEq] at hy
        obtain ⟨rfl, rfl⟩ := hy
        exact o_buildA ht hsz hz hq hS hE ho hv
      · cases h
    · cases h
  · unfold copLit at h
    split at h
    · rename_i e ht
      split at h
      · rename_i sz z hsz hz
        split at h
        · rename_i hb
          obtain ⟨hzl, hn, hn2⟩ := hb
          obtain ⟨qs, hq, hy⟩ := map_some h
          cases vo <;> simp only [stripOp, reduceCtorEq, VOp.lit.injEq] at hy
          obtain ⟨_, rfl, rfl, rfl, rfl, rfl⟩ := hy
          exact o_lit ht hsz hz hzl hn hn2 hq hS hE ho hv
        · cases h
      · cases h
    · cases h
  · split at h
    · rename_i ag sz y h1 h2 h3
      simp only [Option.some.injEq] at h
      cases vo <;> simp only [stripOp, reduceCtorEq, VOp.load.injEq] at h
      obtain ⟨rfl, rfl, rfl⟩ := h
      exact o_load hS hE ho h1 h2 h3 hv
    · cases h
  · split at h
    · rename_i sz y z h1 h2 h3
      simp only [Option.some.injEq] at h
      cases vo <;> simp only [stripOp, reduceCtorEq, VOp.store.injEq] at h
      obtain ⟨rfl, rfl, rfl⟩ := h
      exact o_store hS hE ho h1 h2 h3 hv
    · cases h
  · obtain ⟨y, hx, hy⟩ := map_some h
    cases vo <;> simp only [stripOp, reduceCtorEq, VOp.nilck.injEq] at hy
    subst hy
    exact o_nilck hS hE ho hx hv
  · unfold copBin at h
    split at h
    · rename_i x' y' hx hy
      split at h
      · rename_i hop
        split at h
        · rename_i nk hnk
          simp only [Option.some.injEq] at h
          cases vo <;> simp only [stripOp, reduceCtorEq, VOp.isnil.injEq] at h
          obtain ⟨rfl, rfl, rfl⟩ := h
          exact o_isnil hop hnk hS hE ho hx hv
        · split at h
          · rename_i ht
            simp only [Option.some.injEq] at h
            cases vo <;> simp only [stripOp, reduceCtorEq, VOp.beq.injEq] at h
            obtain ⟨rfl, rfl, rfl⟩ := h
            exact o_beq hop ht hS hE ho hx hy hv
          · rename_i fs ht
            split at h
            · rename_i ks hb
              simp only [Option.some.injEq] at h
              cases vo <;> simp only [stripOp, reduceCtorEq, VOp.eqs.injEq] at h
              obtain ⟨rfl, rfl, rfl, rfl⟩ := h
              exact o_eqs hop ht hb hS hE ho hx hy hv
            · simp only [Option.some.injEq] at h
              cases vo <;> simp only [stripOp, reduceCtorEq, VOp.bin.injEq] at h
              obtain ⟨rfl, rfl, rfl⟩ := h
              exact o_bin hS hE ho hx hy hv
          · simp only [Option.some.injEq] at h
            cases vo <;> simp only [stripOp, reduceCtorEq, VOp.bin.injEq] at h
            obtain ⟨rfl, rfl, rfl⟩ := h
            exact o_bin hS hE ho hx hy hv
      · simp only [Option.some.injEq] at h
        cases vo <;> simp only [stripOp, reduceCtorEq, VOp.bin.injEq] at h
        obtain ⟨rfl, rfl, rfl⟩ := h
        exact o_bin hS hE ho hx hy hv
    · cases h
  · obtain ⟨y, hx, hy⟩ := map_some h
    cases vo <;> simp only [stripOp, reduceCtorEq, VOp.un.injEq] at hy
    obtain ⟨rfl, rfl⟩ := hy
    exact o_un hS hE ho hx hv
  · unfold copConv at h
    split at h
    · rename_i x' d k hx hs ht
      simp only [Option.some.injEq] at h
      cases vo <;> simp only [stripOp, reduceCtorEq, VOp.cvInt.injEq] at h
      obtain ⟨rfl, rfl⟩ := h
      exact o_cvInt (by rw [hs]; rfl) ht hS hE ho hx hv
    · rename_i x' hx hs ht
      simp only [Option.some.injEq] at h
      cases vo <;> simp only [stripOp, reduceCtorEq, VOp.cvStr.injEq] at h
      subst h
      exact o_cvStr hs ht hS hE ho hx hv
    · rename_i x' e hx hs ht
      split at h
      · rename_i he
        simp only [Option.some.injEq] at h
        cases vo <;> simp only [stripOp, reduceCtorEq, VOp.toStr.injEq] at h
        subst h
        exact o_toStr hs he ht hS hE ho hx hv
      · cases h
    · rename_i x' e hx hs ht
      split at h
      · rename_i he
        simp only [Option.some.injEq] at h
        cases vo <;> simp only [stripOp, reduceCtorEq, VOp.toBytes.injEq] at h
        obtain ⟨rfl, rfl⟩ := h
        exact o_toBytes (by rw [hs]; rfl) he ht hS hE ho hx hv
      · cases h
    · cases h
  · split at h
    · rename_i d x' ht hx
      split at h
      · cases h
      · rename_i hd
        simp only [Option.some.injEq] at h
        cases vo <;> simp only [stripOp, reduceCtorEq, VOp.mkIfc.injEq] at h
        obtain ⟨rfl, rfl⟩ := h
        exact o_mkIfc ht (fun ms e => hd (by rw [e]; rfl)) hS hE ho hx hv
    · cases h
  · split at h
    · rename_i fi' ca' h1 h2
      simp only [Option.some.injEq] at h
      cases vo <;> simp only [stripOp, reduceCtorEq, VOp.mkFn.injEq] at h
      obtain ⟨rfl, rfl, rfl⟩ := h
      exact o_mkFn hS hE ho h1 h2 hv
    · cases h
  · unfold copMake at h
    split at h
    · rename_i e x' y' ht hx hy
      split at h
      · rename_i i z hi hz
        split at h
        · rename_i hzl
          simp only [Option.some.injEq] at h
          cases vo <;> simp only [stripOp, reduceCtorEq, VOp.make.injEq] at h
          obtain ⟨rfl, rfl, rfl, rfl, rfl, rfl⟩ := h
          exact o_make ht hi rfl rfl hz hzl hS hE ho hx hy hv
        · cases h
      · cases h
    · cases h
  · rename_i t x lo hi mx
    unfold copCut at h
    split at h
    · rename_i x' lo' hi' mx' hx hlo hhi hmx
      split at h
      · rename_i e ht
        split at h
        · cases h
        · rename_i hm
          obtain ⟨sz, hsz, hy⟩ := map_some h
          cases vo <;> simp only [stripOp, reduceCtorEq, VOp.cut.injEq] at hy
          obtain ⟨rfl, rfl, rfl, rfl, rfl⟩ := hy
          exact o_cut ht hsz hS hE ho hx hlo hhi hmx (fun e => by subst e; simpa using hm) hv
      · rename_i ht
        split at h
        · cases h
        · rename_i hm
          simp only [Option.some.injEq] at h
          cases vo <;> simp only [stripOp, reduceCtorEq, VOp.cutS.injEq] at h
          obtain ⟨rfl, rfl, rfl⟩ := h
          have hm' : mx = none := by simpa using hm
          exact o_cutS ht hS hE (by rw [ho, hm']) hx hlo hhi hv
      · rename_i len e ht
        split at h
        · cases h
        · rename_i hm
          obtain ⟨sz, hsz, hy⟩ := map_some h
          cases vo <;> simp only [stripOp, reduceCtorEq, VOp.cutA.injEq] at hy
          obtain ⟨rfl, rfl, rfl, rfl, rfl⟩ := hy
          have hm' : mx = none := by simpa using hm
          exact o_cutA ht hsz hS hE (by rw [ho, hm']) hx hlo hhi hv
      · cases h
    · cases h
  · unfold copFld at h
    split at h
    · rename_i fs x' ht hx
      split at h
      · rename_i f hf
        split at h
        · rename_i sz hsz
          split at h
          · cases h
          · rename_i hz0
            simp only [Option.some.injEq] at h
            cases vo <;> simp only [stripOp, reduceCtorEq, VOp.fld.injEq] at h
            obtain ⟨rfl, rfl⟩ := h
            exact o_fld ht hf hsz hz0 hS hE ho hx hv
        · cases h
      · cases h
    · cases h
  · unfold copGetf at h
    split at h
    · rename_i fs x' ht hx
      split at h
      · rename_i f hf
        split at h
        · rename_i ag sz ha hsz
          simp only [Option.some.injEq] at h
          cases vo <;> simp only [stripOp, reduceCtorEq, VOp.getf.injEq] at h
          obtain ⟨rfl, rfl, rfl, rfl⟩ := h
          exact o_getf ht hf ha hsz hS hE ho hx hv
        · cases h
      · cases h
    · cases h
  · unfold copIdx at h
    split at h
    · rename_i x' i' hx hi
      split at h
      · rename_i e ht
        obtain ⟨sz, hsz, hy⟩ := map_some h
        cases vo <;> simp only [stripOp, reduceCtorEq, VOp.idx.injEq] at hy
        obtain ⟨rfl, rfl, rfl⟩ := hy
        exact o_idx ht hsz hS hE ho hx hi hv
      · rename_i len e ht
        obtain ⟨sz, hsz, hy⟩ := map_some h
        cases vo <;> simp only [stripOp, reduceCtorEq, VOp.idxA.injEq] at hy
        obtain ⟨rfl, rfl, rfl, rfl⟩ := hy
        exact o_idxA ht hsz hS hE ho hx hi hv
      · cases h
    · cases h
  · split at h
    · rename_i x' i' ht hx hi
      simp only [Option.some.injEq] at h
      cases vo <;> simp only [stripOp, reduceCtorEq, VOp.chr.injEq] at h
      obtain ⟨rfl, rfl⟩ := h
      exact o_chr ht hS hE ho hx hi hv
    · cases h
  · obtain ⟨y, hx, hy⟩ := map_some h
    cases vo <;> simp only [stripOp, reduceCtorEq, VOp.extract.injEq] at hy
    obtain ⟨rfl, rfl⟩ := hy
    exact o_extract hS hE ho hx hv
  · exact case_call ho h hnc hnv hS hE hv
  · cases h

end

end Go.Vm
