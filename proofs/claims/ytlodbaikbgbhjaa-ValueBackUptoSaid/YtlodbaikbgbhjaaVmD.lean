/- Vm, part D: from the machine's operations to the abstract ones; soundness of each operation but for calls. -/
import Derived.Test.YtlodbaikbgbhjaaVmC
import Derived.Laws.Slices
import Derived.Laws.MakeOwn
import Derived.Laws.CopyOwn
import Derived.Lib.AppendStr
import Derived.Lib.ConvBytes
import Derived.Deep.MidRow
set_option linter.unusedVariables false
set_option linter.unusedSimpArgs false
namespace Go.Vm
open Go Go.RowKit

/-! ### compilation -/
def xOf : Operand → Option X
  | .tmp t => some (.t t)
  | .const v => match v with
    | .agg cs => if cs.toList.all (·.oneCell') then some (.c (.agg (cs.toList.map .val))) else none
    | v => some (.c (.val v))
  | .func f => some (.c (.fn (.func f) [] []))
  | .global _ => none
def xsOf : List Operand → Option (List X)
  | [] => some []
  | x :: r => match xOf x, xsOf r with
    | some a, some b => some (a :: b)
    | _, _ => none
def agB (P : Program) (t : TypeId) : Option Bool := match P.underlying t with
  | some (.struct _) => some true
  | some (.array _ _) => some true
  | some _ => some false
  | none => none
def szB (P : Program) (t : TypeId) : Option Nat := (P.info? t).map (·.size)
def zeroB (P : Program) (t : TypeId) : Option (List PV) := match P.info? t with
  | some i => match i.zero with
    | some z => if z.cells.toList.all (·.oneCell') then some (z.cells.toList.map .val) else none
    | none => none
  | none => none
def optX : Option Operand → Option (Option X)
  | none => some none
  | some x => (xOf x).map some

/-! ### what operands, cells stand for -/
def RepE (w : World) (M : Mem) (env : Env) (tmps : Array Value) : Prop := ∀ i a, get env i = some a → ∃ v, tmps[i]? = some v ∧ RepA w M a v

theorem RepE.mono {w w' : World} {M M' : Mem} {env : Env} {tmps : Array Value} (h : RepE w M env tmps) (hs : Step w M w' M') : RepE w' M' env tmps := by
  intro i a hi
  obtain ⟨v, h1, h2⟩ := h i a hi
  exact ⟨v, h1, RepA.mono hs _ _ h2⟩

theorem repPs_vals {w : World} {I : Nat → Prop} : ∀ (l : List Value), (∀ v ∈ l, v.oneCell' = true) → RepPs w I true (l.map .val) l
  | [], _ => by simp [RepPs]
  | v :: l, h => by simp only [List.map_cons, RepPs]; exact ⟨v, l, rfl, fun _ => h v (by simp), by simp [RepP], repPs_vals l fun u hu => h u (by simp [hu])⟩

theorem rep_opnd {w : World} {M : Mem} {env : Env} {a : Act} {x : Operand} {y : X} {v : AV} (hE : RepE w M env a.tmps) (hx : xOf x = some y) (hv : opnd env y = some v) : RepA w M v (a.eval x) := by
  cases x with
  | tmp t =>
    simp only [xOf, Option.some.injEq] at hx
    subst hx
    obtain ⟨u, h1, h2⟩ := hE t v hv
    simpa [Act.eval, Array.getD_eq_getD_getElem?, h1] using h2
  | const c =>
    simp only [xOf] at hx
    split at hx
    · rename_i cs
      split at hx
      · rename_i hall
        simp only [Option.some.injEq] at hx
        subst hx
        simp only [opnd, Option.some.injEq] at hv
        subst hv
        simp only [RepA, RepP]
        exact ⟨cs, rfl, repPs_vals _ fun v hv => by simpa using (List.all_eq_true.1 hall) v hv⟩
      · cases hx
    · simp only [Option.some.injEq] at hx
      subst hx
      simp only [opnd, Option.some.injEq] at hv
      subst hv
      simp [RepA, RepP, Act.eval]
  | func f =>
    simp only [xOf, Option.some.injEq] at hx
    subst hx
    simp only [opnd, Option.some.injEq] at hv
    subst hv
    simp [RepA, RepP, RepPs, Act.eval]
  | global g => simp [xOf] at hx

theorem unpus_some : ∀ {cs : List AV} {ps : List PV}, unpus cs = some ps → cs = ps.map .pu
  | [], ps, h => by simp [unpus] at h; subst h; rfl
  | .pu p :: r, ps, h => by
    simp only [unpus, Option.map_eq_some_iff] at h
    obtain ⟨qs, h1, rfl⟩ := h
    simp [← unpus_some h1]
  | .agg _ :: _, _, h => by simp [unpus] at h
  | .tup _ :: _, _, h => by simp [unpus] at h
  | .own .. :: _, _, h => by simp [unpus] at h
  | .ptr .. :: _, _, h => by simp [unpus] at h
  | .ifc .. :: _, _, h => by simp [unpus] at h
  | .fn .. :: _, _, h => by simp [unpus] at h
theorem unpus_map (ps : List PV) : unpus (ps.map .pu) = some ps := by
  induction ps with
  | nil => rfl
  | cons p ps ih => simp [unpus, ih]
theorem unpus_append {cs ds : List AV} {ps qs : List PV} (h : unpus cs = some ps) (k : unpus ds = some qs) : unpus (cs ++ ds) = some (ps ++ qs) := by
  rw [unpus_some h, unpus_some k, ← List.map_append, unpus_map]

theorem repA_mkAgg {w : World} {M : Mem} {cs : List AV} {vs : List Value} (h : RepAs w M true cs vs) : RepA w M (mkAgg cs) (.agg vs.toArray) := by
  unfold mkAgg
  split
  · rename_i ps hp
    rw [unpus_some hp] at h
    simp only [RepA, RepP]
    exact ⟨_, rfl, by simpa using h.to_pu⟩
  · simp only [RepA]
    exact ⟨_, rfl, by simpa using h⟩

theorem rep_cells {w : World} {M : Mem} {K : List AV → Prop} : ∀ {x : AV} {v : Value}, RepA w M x v → withC x K → ∃ cs, K cs ∧ RepAs w M true cs v.cells.toList := by
  have one : ∀ {x : AV} {v : Value}, RepA w M x v → v.oneCell' = true → K [x] → ∃ cs, K cs ∧ RepAs w M true cs v.cells.toList := by
    intro x v h hv hk
    refine ⟨[x], hk, ?_⟩
    have : v.cells = #[v] := by cases v <;> simp_all [Value.cells, Value.oneCell']
    rw [this]
    simp only [RepAs]
    exact ⟨v, [], rfl, fun _ => hv, h, rfl⟩
  intro x v h hk
  cases x with
  | pu p =>
    cases p with
    | agg ps =>
      simp only [RepA, RepP] at h
      obtain ⟨vs, rfl, h⟩ := h
      exact ⟨_, hk, RepAs.of_pu h⟩
    | val u =>
      have hu : v = u := by simpa [RepA, RepP] using h
      subst hu
      cases v <;> first | exact hk.elim | exact one h rfl hk
    | tup _ => exact hk.elim
    | sl _ _ => exact one h (by simp only [RepA, RepP] at h; obtain ⟨vs, c, rfl, _⟩ := h; rfl) hk
    | rp _ => exact one h (by simp only [RepA, RepP] at h; obtain ⟨vs, c, rfl, _⟩ := h; rfl) hk
    | ifc _ _ => exact one h (by simp only [RepA, RepP] at h; obtain ⟨vs, rfl, _⟩ := h; rfl) hk
    | fn _ _ _ => exact one h (by simp only [RepA, RepP] at h; obtain ⟨vs, c, rfl, _⟩ := h; rfl) hk
  | agg cs =>
    simp only [RepA] at h
    obtain ⟨vs, rfl, h⟩ := h
    exact ⟨_, hk, h⟩
  | tup _ => exact hk.elim
  | ifc _ _ => exact one h (by simp only [RepA] at h; obtain ⟨vs, rfl, _⟩ := h; rfl) hk
  | fn _ _ _ => exact one h (by simp only [RepA] at h; obtain ⟨vs, c, rfl, _⟩ := h; rfl) hk
  | own id g off n sz => exact one h (by simp only [RepA] at h; obtain ⟨⟨A, m, c, rfl⟩, _⟩ := h; rfl) hk
  | ptr id g off => exact one h (by simp only [RepA] at h; obtain ⟨⟨A, rfl⟩, _⟩ := h; rfl) hk

/-! ### outcomes -/
def Outc (P : Program) (o : Oper) (a : Act) (w : World) (σ : St) (β : List (Option Nat)) (Z : Nat → Prop) (Q : AV → St → Prop) : Prop :=
  ∃ r w' β' x σ', ((execOp a.eval o).run P w = .ok (.value r) w' ∨ ((execOp a.eval o).run P w = .ok .skip w' ∧ r = undef)) ∧
    Step w (mem σ β Z) w' (mem σ' β' Z) ∧ RepS w' σ' β' Z ∧ RepA w' (mem σ' β' Z) x r ∧ Q x σ'

section
variable {P : Program} {o : Oper} {a : Act} {w : World} {σ : St} {β : List (Option Nat)} {Z : Nat → Prop} {Q : AV → St → Prop} {env : Env}

theorem outc_same {r : Value} {x : AV} (hS : RepS w σ β Z) (hr : (execOp a.eval o).run P w = .ok (.value r) w) (hx : RepA w (mem σ β Z) x r) (hq : Q x σ) : Outc P o a w σ β Z Q :=
  ⟨r, w, β, x, σ, .inl hr, Step.refl _ _, hS, hx, hq⟩

theorem withA_some {x : Option AV} {K : AV → Prop} (h : withA x K) : ∃ b, x = some b ∧ K b := by
  unfold withA at h
  split at h
  · exact ⟨_, rfl, h⟩
  · exact h.elim
theorem withI_some {x : Option AV} {K : IntKind → Int → Prop} (h : withI x K) : ∃ k n, x = some (.pu (.val (.int k n))) ∧ K k n := by
  unfold withI at h
  split at h
  · exact ⟨_, _, rfl, h⟩
  · exact h.elim
theorem withO_some {id g : Nat} {K : VObj → Prop} (h : withO σ id g K) : ∃ ob : VObj, σ[id]? = some (some ob) ∧ g = ob.g ∧ K ob := by
  unfold withO at h
  split at h
  · rename_i ob ho
    exact ⟨ob, ho, h.1, h.2⟩
  · exact h.elim
theorem rep_val {M : Mem} {u v : Value} (h : RepA w M (.pu (.val u)) v) : v = u := by simpa [RepA, RepP] using h
theorem rep_val_mk {M : Mem} (u : Value) : RepA w M (.pu (.val u)) u := by simp [RepA, RepP]

theorem o_mv {x : Operand} {y : X} (hS : RepS w σ β Z) (hE : RepE w (mem σ β Z) env a.tmps) (ho : o.op = .move x ∨ o.op = .assign x) (hx : xOf x = some y) (h : vop env σ Q (.mv y)) : Outc P o a w σ β Z Q := by
  obtain ⟨b, hb, hq⟩ := withA_some h
  refine outc_same hS ?_ (rep_opnd hE hx hb) hq
  rcases ho with ho | ho <;> simp [execOp, ho]

theorem o_nilRow {x : Operand} {e : TypeId} {sz : Nat} (hS : RepS w σ β Z) (ho : o.op = .move x ∨ o.op = .assign x) (hx : x = .const (.slice none 0 0)) (h : vop env σ Q (.nilRow e sz)) : Outc P o a w σ β Z Q := by
  subst hx
  obtain ⟨h1, h2⟩ := new_obj (w' := w) (o' := ⟨e, 0, []⟩) (B' := none) hS rfl rfl rfl (Nat.le_refl _) (fun _ _ => rfl) (.inl rfl) (.inl ⟨rfl, rfl⟩)
  refine ⟨.slice none 0 0, w, _, _, _, .inl (by rcases ho with ho | ho <;> simp [execOp, ho, Act.eval]), h1, h2, ?_, h⟩
  simp only [RepA]
  refine ⟨⟨_, _, _, rfl⟩, by simp [mem], fun g' B hal => ?_⟩
  obtain ⟨ob, ho1, ho2, ho3⟩ := mem_al.1 hal
  refine ⟨Nat.zero_le _, fun _ => .inl ⟨?_, rfl, rfl, rfl⟩⟩
  rw [← ho3, ← hS.len]
  simp

theorem o_pick {c x y : Operand} {c' x' y' : X} (hS : RepS w σ β Z) (hE : RepE w (mem σ β Z) env a.tmps) (ho : o.op = .pick c x y) (hc : xOf c = some c') (hx : xOf x = some x') (hy : xOf y = some y')
    (h : vop env σ Q (.pick c' x' y')) : Outc P o a w σ β Z Q := by
  simp only [vop] at h
  split at h
  · rename_i t ht
    have hcv := rep_val (rep_opnd hE hc ht)
    rw [br_eq] at h
    cases t
    · simp only [Bool.false_eq_true, if_false] at h
      obtain ⟨b, hb, hq⟩ := withA_some h
      exact outc_same hS (by simp [execOp, ho, hcv, asBool]) (rep_opnd hE hy hb) hq
    · simp only [if_true] at h
      obtain ⟨b, hb, hq⟩ := withA_some h
      exact outc_same hS (by simp [execOp, ho, hcv, asBool]) (rep_opnd hE hx hb) hq
  · exact h.elim

/-- A new block that is an object. -/
theorem rep_new {e : TypeId} {cs : List AV} {arr : Array Value} (hS : RepS w σ β Z) (hcs : RepAs w (mem σ β Z) true cs (arr.toList.take cs.length)) :
    Step w (mem σ β Z) (w.alloc (.cells arr e)) (mem (σ ++ [some ⟨e, 0, cs⟩]) (β ++ [some w.heap.size]) Z) ∧ RepS (w.alloc (.cells arr e)) (σ ++ [some ⟨e, 0, cs⟩]) (β ++ [some w.heap.size]) Z :=
  new_obj (o' := ⟨e, 0, cs⟩) (B' := some w.heap.size) hS rfl rfl rfl (by simp) (fun b hb => Below.heap_alloc w _ b hb) (.inr ⟨_, rfl, Nat.le_refl _⟩)
    (.inr ⟨_, arr, rfl, heap_alloc_new w _, hcs⟩)

theorem al_new {ob : VObj} {B : Option Nat} (hl : β.length = σ.length) {g' : Nat} {B' : Option Nat} (h : (mem (σ ++ [some ob]) (β ++ [B]) Z).al σ.length = some (g', B')) : g' = ob.g ∧ B' = B := by
  obtain ⟨ob', h1, h2, h3⟩ := mem_al.1 h
  have e : ob = ob' := by simpa using h1
  subst e
  refine ⟨h2.symm, ?_⟩
  rw [← h3, ← hl]
  simp

theorem rep_ptr_new {ob : VObj} {b : Nat} (hl : β.length = σ.length) (hg : ob.g = 0) : RepA w (mem (σ ++ [some ob]) (β ++ [some b]) Z) (.ptr σ.length 0 0) (.pointer (some ⟨b, 0, none⟩)) := by
  simp only [RepA]
  refine ⟨⟨_, rfl⟩, by simp [mem], fun g' B h => ?_⟩
  obtain ⟨h1, h2⟩ := al_new hl h
  exact ⟨Nat.zero_le _, fun _ => ⟨b, h2, rfl⟩⟩

theorem repAs_vals : ∀ (l : List Value) (M : Mem), (∀ v ∈ l, v.oneCell' = true) → RepAs w M true (l.map fun v => .pu (.val v)) l
  | [], M, _ => by simp [RepAs]
  | v :: l, M, h => by simp only [List.map_cons, RepAs]; exact ⟨v, l, rfl, fun _ => h v (by simp), rep_val_mk v, repAs_vals l M fun u hu => h u (by simp [hu])⟩

theorem zeroB_some {e : TypeId} {z : List PV} (hz : zeroB P e = some z) : ∃ i zv, P.info? e = some i ∧ i.zero = some zv ∧ z = zv.cells.toList.map .val ∧ ∀ v ∈ zv.cells.toList, v.oneCell' = true := by
  unfold zeroB at hz
  split at hz
  · rename_i i hi
    split at hz
    · rename_i zv hzv
      split at hz
      · rename_i hall
        simp only [Option.some.injEq] at hz
        exact ⟨i, zv, hi, hzv, hz.symm, fun v hv => by simpa using (List.all_eq_true.1 hall) v hv⟩
      · cases hz
    · cases hz
  · cases hz

theorem o_alloc {e : TypeId} {z : List PV} (hS : RepS w σ β Z) (ho : o.op = .alloc e) (hz : zeroB P e = some z) (h : vop env σ Q (.alloc e z)) : Outc P o a w σ β Z Q := by
  obtain ⟨i, zv, hi, hzv, rfl, hall⟩ := zeroB_some hz
  have hcs : RepAs w (mem σ β Z) true ((zv.cells.toList.map PV.val).map AV.pu) (zv.cells.toList.take ((zv.cells.toList.map PV.val).map AV.pu).length) := by
    rw [List.map_map, List.length_map, List.take_length]
    exact repAs_vals _ _ hall
  obtain ⟨h1, h2⟩ := rep_new (e := e) hS hcs
  refine ⟨_, _, _, _, _, .inl ?_, h1, h2, rep_ptr_new hS.len rfl, h⟩
  simp [execOp, ho, Instr.alloc, zeroValue, typeInfo, hi, hzv, newVar, newRow]

theorem o_box {e : TypeId} {x : Operand} {y : X} (hS : RepS w σ β Z) (hE : RepE w (mem σ β Z) env a.tmps) (ho : o.op = .box e x) (hx : xOf x = some y) (h : vop env σ Q (.box e y)) : Outc P o a w σ β Z Q := by
  obtain ⟨b, hb, hk⟩ := withA_some h
  obtain ⟨cs, hq, hr⟩ := rep_cells (rep_opnd hE hx hb) hk
  have hcs : RepAs w (mem σ β Z) true cs ((a.eval x).cells.toList.take cs.length) := by
    rw [List.take_of_length_le (by rw [hr.length]; exact Nat.le_refl _)]
    exact hr
  obtain ⟨h1, h2⟩ := rep_new (e := e) hS hcs
  refine ⟨_, _, _, _, _, .inl ?_, h1, h2, rep_ptr_new hS.len rfl, hq⟩
  simp [execOp, ho, Instr.box, newVar, newRow]

end

end Go.Vm
