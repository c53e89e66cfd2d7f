/- Vm, part J: literals; the operations put together. -/
import Derived.Test.YtlodbaikbgbhjaaVmI
set_option linter.unusedVariables false
set_option linter.unusedSimpArgs false
namespace Go.Vm
open Go Go.RowKit

def partsOf (pl : Nat → Option (Nat × Nat)) : List (Nat × Operand) → Option (List (Nat × Nat × X))
  | [] => some []
  | (j, x) :: r => match pl j, xOf x, partsOf pl r with
    | some (off, sz), some y, some l => some ((off, sz, y) :: l)
    | _, _, _ => none

section
variable {P : Program} {o : Oper} {a : Act} {w : World} {σ : St} {β : List (Option Nat)} {Z : Nat → Prop} {Q : AV → St → Prop} {env : Env}

theorem foldl_set : ∀ (l : List Value) (k off : Nat) (cells : Array Value), off + k + l.length ≤ cells.size →
    ((l.zipIdx k).foldl (fun cs (p : Value × Nat) => cs.setIfInBounds (off + p.2) p.1) cells).toList = cells.toList.take (off + k) ++ l ++ cells.toList.drop (off + k + l.length)
  | [], k, off, cells, h => by simp
  | v :: l, k, off, cells, h => by
    rw [List.zipIdx_cons, List.foldl_cons, foldl_set l (k + 1) off _ (by simp at h ⊢; omega)]
    simp only [Array.toList_setIfInBounds, List.length_cons] at h ⊢
    have h1 : off + k < cells.toList.length := by simpa using (by omega : off + k < cells.size)
    rw [List.drop_set_of_lt (by omega)]
    have h2 : (cells.toList.set (off + k) v).take (off + (k + 1)) = cells.toList.take (off + k) ++ [v] := by
      rw [← Nat.add_assoc, List.take_add_one, List.take_set_of_le (Nat.le_refl _), List.getElem?_set_self h1]
      rfl
    rw [h2]
    simp [Nat.add_assoc, Nat.add_comm 1, List.append_assoc]

theorem fill_step (vs cells : Array Value) (off : Nat) (h : off + vs.size ≤ cells.size) :
    (vs.zipIdx.foldl (fun cs (p : Value × Nat) => cs.setIfInBounds (off + p.2) p.1) cells).toList = cells.toList.take off ++ vs.toList ++ cells.toList.drop (off + vs.size) := by
  have := foldl_set vs.toList 0 off cells (by simpa using h)
  rw [← Array.foldl_toList, Array.toList_zipIdx]
  simpa using this

theorem fill_rep {M : Mem} (pl : Nat → Option (Nat × Nat)) (hE : RepE w M env a.tmps) : ∀ (parts : List (Nat × Operand)) (qs : List (Nat × Nat × X)) (cells : Array Value) (cs : List AV) (K : List (Nat × List AV) → Prop),
    partsOf pl parts = some qs → RepAs w M true cs cells.toList → withParts env cells.size qs K →
    ∃ ps cells', K ps ∧ Instr.fill pl cells (parts.map fun p => (p.1, a.eval p.2)) = some cells' ∧ RepAs w M true (fillP cs ps) cells'.toList
  | [], qs, cells, cs, K, hq, hr, h => by
    simp only [partsOf, Option.some.injEq] at hq
    subst hq
    exact ⟨[], cells, h, by simp [Instr.fill], by simpa [fillP] using hr⟩
  | (j, x) :: r, qs, cells, cs, K, hq, hr, h => by
    simp only [partsOf] at hq
    split at hq
    · rename_i off sz y l h1 h2 h3
      simp only [Option.some.injEq] at hq
      subst hq
      simp only [withParts] at h
      obtain ⟨b, hb, h⟩ := withA_some h
      obtain ⟨ys, ⟨hl, hfit, hk⟩, hys⟩ := rep_cells (rep_opnd hE h2 hb) h
      have hvl : (a.eval x).cells.size = sz := by have := hys.length; simp at this; omega
      have hcl : cs.length = cells.size := by have := hr.length; simp at this; omega
      have hst := fill_step (a.eval x).cells cells off (by omega)
      have hsz : ((a.eval x).cells.zipIdx.foldl (fun cs (p : Value × Nat) => cs.setIfInBounds (off + p.2) p.1) cells).size = cells.size := by
        have := congrArg List.length hst
        rw [Array.length_toList] at this
        rw [this]
        simp only [List.length_append, List.length_take, List.length_drop, Array.length_toList]
        omega
      have hr' : RepAs w M true (splice cs off ys) ((a.eval x).cells.zipIdx.foldl (fun cs (p : Value × Nat) => cs.setIfInBounds (off + p.2) p.1) cells).toList := by
        rw [hst, hvl, ← hl]
        exact ((hr.take off).append hys).append (hr.drop (off + ys.length))
      rw [← hsz] at hk
      obtain ⟨ps, cells', k1, k2, k3⟩ := fill_rep pl hE r l _ (splice cs off ys) _ h3 hr' hk
      refine ⟨(off, ys) :: ps, cells', k1, ?_, by simpa [fillP] using k3⟩
      simp only [List.map_cons, Instr.fill, h1]
      rw [if_neg (by simp [hvl]; omega)]
      exact k2
    · cases hq

def structPl (P : Program) (fs : Array Field) (j : Nat) : Option (Nat × Nat) := match fs[j]? with
  | some f => match szB P f.type with
    | some sz => some (f.offset, sz)
    | none => none
  | none => none

theorem mapM_places (fs : List Field) (hall : ∀ f ∈ fs, (szB P f.type).isSome = true) : ∃ pls, (fs.mapM fun (f : Field) => (do pure (f.offset, ← sizeOf f.type) : Sem (Nat × Nat))).run P w = .ok pls w ∧ pls.length = fs.length ∧ ∀ (j : Nat) (f : Field), fs[j]? = some f → ∃ sz, szB P f.type = some sz ∧ pls[j]? = some (f.offset, sz) := by
  induction fs with
  | nil => exact ⟨[], by simp, rfl, by simp⟩
  | cons f fs ih =>
    obtain ⟨pls, h1, h2, h3⟩ := ih fun g hg => hall g (by simp [hg])
    obtain ⟨sz, hsz⟩ := Option.isSome_iff_exists.1 (hall f (by simp))
    refine ⟨(f.offset, sz) :: pls, ?_, by simp [h2], ?_⟩
    · simp only [List.mapM_cons, Sem.run_bind, run_sizeOf hsz, Result.andThen_ok, Sem.run_pure]
      rw [show (fs.mapM fun (f : Field) => (do pure (f.offset, ← sizeOf f.type) : Sem (Nat × Nat))).run P w = .ok pls w from h1]
      rfl
    · intro j g hj
      cases j with
      | zero => simp at hj; subst hj; exact ⟨sz, hsz, by simp⟩
      | succ j => simp at hj; obtain ⟨s, k1, k2⟩ := h3 j g hj; exact ⟨s, k1, by simpa using k2⟩

theorem fill_congr {pl pl' : Nat → Option (Nat × Nat)} : ∀ (l : List (Nat × Value)) (cells : Array Value), (∀ p ∈ l, pl p.1 = pl' p.1) → Instr.fill pl cells l = Instr.fill pl' cells l
  | [], cells, h => rfl
  | (j, v) :: l, cells, h => by
    simp only [Instr.fill]
    rw [h (j, v) (by simp)]
    cases pl' j with
    | none => rfl
    | some p =>
      obtain ⟨off, sz⟩ := p
      simp only
      split
      · rfl
      · exact fill_congr l _ fun q hq => h q (by simp [hq])

theorem o_buildS {t : TypeId} {parts : Array (Nat × Operand)} {fs : Array Field} {z : List PV} {qs : List (Nat × Nat × X)} (ht : P.underlying t = some (.struct fs)) (hall : fs.toList.all (fun f => (szB P f.type).isSome) = true) (hz : zeroB P t = some z) (hq : partsOf (structPl P fs) parts.toList = some qs)
    (hS : RepS w σ β Z) (hE : RepE w (mem σ β Z) env a.tmps) (ho : o.op = .build t parts) (h : vop env σ Q (.build z qs)) : Outc P o a w σ β Z Q := by
  obtain ⟨i, zv, hi, hzv, rfl, hone⟩ := zeroB_some hz
  obtain ⟨pls, p1, p2, p3⟩ := mapM_places (P := P) (w := w) fs.toList (fun f hf => (List.all_eq_true.1 hall) f hf)
  have hcs : RepAs w (mem σ β Z) true ((zv.cells.toList.map PV.val).map AV.pu) zv.cells.toList := by
    rw [List.map_map]
    exact repAs_vals _ _ hone
  simp only [vop] at h
  rw [show (zv.cells.toList.map PV.val).length = zv.cells.size by simp] at h
  obtain ⟨ps, cells', k1, k2, k3⟩ := fill_rep (structPl P fs) hE parts.toList qs zv.cells _ _ hq hcs h
  refine outc_same hS (r := .agg cells') ?_ (by simpa using repA_mkAgg k3) k1
  have hpl : ∀ j, structPl P fs j = pls.toArray[j]? := by
    intro j
    unfold structPl
    cases hf : fs[j]? with
    | none =>
      have : fs.size ≤ j := by simpa using hf
      simp [p2, this]
    | some f =>
      obtain ⟨sz, h1, h2⟩ := p3 j f (by simpa using hf)
      simp [h1, h2]
  have hfill : Instr.fill (pls.toArray[·]?) zv.cells ((parts.map fun p => (p.1, a.eval p.2)).toList) = some cells' := by
    rw [← k2, Array.toList_map]
    exact fill_congr _ _ fun p _ => (hpl p.1).symm
  have hm : (fs.mapM fun (f : Field) => (do pure (f.offset, ← sizeOf f.type) : Sem (Nat × Nat))).run P w = .ok pls.toArray w := by
    rw [Array.mapM_eq_mapM_toList]
    simp only [Sem.run_map]
    rw [p1]
    rfl
  simp only [execOp, ho, Instr.build, Sem.run_bind, zeroValue, typeInfo, run_program, Result.andThen_ok, hi, hzv, Sem.run_pure, run_underlying ht]
  rw [hm]
  simp only [Result.andThen_ok]
  rw [hfill]
  rfl


theorem o_buildA {t e : TypeId} {len sz : Nat} {parts : Array (Nat × Operand)} {z : List PV} {qs : List (Nat × Nat × X)} (ht : P.underlying t = some (.array len e)) (hsz : szB P e = some sz) (hz : zeroB P t = some z) (hq : partsOf (fun j => some (j * sz, sz)) parts.toList = some qs)
    (hS : RepS w σ β Z) (hE : RepE w (mem σ β Z) env a.tmps) (ho : o.op = .build t parts) (h : vop env σ Q (.build z qs)) : Outc P o a w σ β Z Q := by
  obtain ⟨i, zv, hi, hzv, rfl, hone⟩ := zeroB_some hz
  have hcs : RepAs w (mem σ β Z) true ((zv.cells.toList.map PV.val).map AV.pu) zv.cells.toList := by
    rw [List.map_map]
    exact repAs_vals _ _ hone
  simp only [vop] at h
  rw [show (zv.cells.toList.map PV.val).length = zv.cells.size by simp] at h
  obtain ⟨ps, cells', k1, k2, k3⟩ := fill_rep (fun j => some (j * sz, sz)) hE parts.toList qs zv.cells _ _ hq hcs h
  refine outc_same hS (r := .agg cells') ?_ (by simpa using repA_mkAgg k3) k1
  have hfill : Instr.fill (fun i => some (i * sz, sz)) zv.cells ((parts.map fun p => (p.1, a.eval p.2)).toList) = some cells' := by
    rw [← k2, Array.toList_map]
  simp only [execOp, ho, Instr.build, Sem.run_bind, zeroValue, typeInfo, run_program, Result.andThen_ok, hi, hzv, Sem.run_pure, run_underlying ht, run_sizeOf hsz]
  rw [hfill]
  rfl

theorem made_all {z : Array Value} {n : Nat} : (madeCells z (n * z.size)).toList = (List.replicate n z.toList).flatten := by
  rw [← made_prefix (Nat.le_refl n), List.take_of_length_le (by simp [madeCells])]

theorem o_lit {own : Bool} {t e : TypeId} {n sz : Nat} {parts : Array (Nat × Operand)} {z : List PV} {qs : List (Nat × Nat × X)} (ht : P.underlying t = some (.slice e)) (hsz : szB P e = some sz) (hz : zeroB P e = some z) (hzl : z.length = sz) (hn : n * sz ≤ 16777216) (hn2 : n ≤ 16777216)
    (hq : partsOf (fun j => some (j * sz, sz)) parts.toList = some qs) (hS : RepS w σ β Z) (hE : RepE w (mem σ β Z) env a.tmps) (ho : o.op = .buildSlice t n parts) (h : vop env σ Q (.lit own e sz n (List.replicate n z).flatten qs)) : Outc P o a w σ β Z Q := by
  obtain ⟨i, zv, hi, hzv, rfl, hone⟩ := zeroB_some hz
  have hzs : zv.cells.size = sz := by simpa using hzl
  have hcs : RepAs w (mem σ β Z) true (((List.replicate n (zv.cells.toList.map PV.val)).flatten).map AV.pu) (madeCells zv.cells (n * sz)).toList := by
    rw [← hzs, made_all, map_flatten_rep, List.map_map]
    exact repAs_rep (repAs_vals _ _ hone) n
  simp only [vop] at h
  rw [show n * sz = (madeCells zv.cells (n * sz)).size by simp [madeCells]] at h
  obtain ⟨ps, cells', k1, k2, k3⟩ := fill_rep (fun j => some (j * sz, sz)) hE parts.toList qs (madeCells zv.cells (n * sz)) _ _ hq hcs h
  have hfill : Instr.fill (fun i => some (i * sz, sz)) (madeCells zv.cells (n * sz)) ((parts.map fun p => (p.1, a.eval p.2)).toList) = some cells' := by
    rw [← k2, Array.toList_map]
  have hsize : (fillP (((List.replicate n (zv.cells.toList.map PV.val)).flatten).map AV.pu) ps).length = cells'.size := by have := k3.length; rw [Array.length_toList] at this; exact this.symm
  have hfs : ∀ (l : List (Nat × Value)) (pl : Nat → Option (Nat × Nat)) (c c' : Array Value), Instr.fill pl c l = some c' → c'.size = c.size := by
    intro l pl
    induction l with
    | nil => intro c c' h; simp [Instr.fill] at h; subst h; rfl
    | cons p l ih =>
      intro c c' h
      obtain ⟨j, v⟩ := p
      simp only [Instr.fill] at h
      split at h
      · cases h
      · rename_i off s _
        split at h
        · cases h
        · rename_i hb
          have := ih _ _ h
          rw [this]
          have hst := fill_step v.cells c off (by simp at hb; omega)
          have := congrArg List.length hst
          rw [Array.length_toList] at this
          rw [this]
          simp only [List.length_append, List.length_take, List.length_drop, Array.length_toList]
          simp at hb
          omega
  have hcsz : cells'.size = n * sz := by rw [hfs _ _ _ _ hfill]; simp [madeCells]
  have hrun : (execOp a.eval o).run P w = .ok (.value (.slice (some ⟨w.heap.size, 0, none⟩) n n)) (w.alloc (.cells cells' e)) := by
    have hle : ¬ (2 ^ 24 < n * sz) := by omega
    by_cases h0 : n * sz = 0
    · have hfill' := hfill
      simp only [madeCells, h0] at hfill'
      simp only [execOp, ho, Instr.buildSlice, Sem.run_bind, run_underlying ht, Result.andThen_ok, run_sizeOf hsz, Sem.run_ite]
      rw [if_neg (by omega)]
      simp only [h0, if_true, Sem.run_pure, Result.andThen_ok, Sem.run_bind]
      simp only [Array.range_zero', Array.map_empty] at hfill' ⊢
      rw [hfill']
      simp [newRow]
    · simp only [execOp, ho, Instr.buildSlice, Sem.run_bind, run_underlying ht, Result.andThen_ok, run_sizeOf hsz, Sem.run_ite]
      rw [if_neg (by omega)]
      simp only [h0, if_false, Sem.run_pure, Result.andThen_ok, Sem.run_bind, zeroValue, typeInfo, run_program, hi, hzv]
      have hfill' : Instr.fill (fun i => some (i * sz, sz)) ((Array.range (n * sz)).map (zv.cells[· % zv.cells.size]!)) ((parts.map fun p => (p.1, a.eval p.2)).toList) = some cells' := hfill
      rw [hfill']
      simp [newRow]
  cases own
  · simp only [Bool.false_eq_true, if_false] at k1
    split at k1
    · rename_i rs hrs
      rw [unpus_some hrs] at k3
      have k3' := k3.to_pu
      obtain ⟨s1, s2⟩ := step_alloc (o := .cells cells' e) hS
      refine ⟨_, _, β, _, σ, .inl hrun, s1, s2, ?_, k1⟩
      simp only [RepA, RepP]
      refine ⟨_, _, rfl, Nat.le_refl _, maxLen_big (by omega), ?_⟩
      by_cases hnil : rs = []
      · exact .inl hnil
      · refine .inr ⟨_, cells'.toList, rfl, ⟨by simp, fun hl => ?_, fun hz => ?_⟩, ?_, RepPs.mono (fun b hb => s1.imm b hb) _ _ k3'⟩
        · have := hS.lt hl; simp at this
        · have := hS.avd _ hz; simp at this
        · have := reads_block (w := w.alloc (.cells cells' e)) (b := w.heap.size) 0 (heap_alloc_new w _)
          simpa using this
    · exact k1.elim
  · simp only [if_true] at k1
    obtain ⟨q1, q2⟩ := rep_new (e := e) (arr := cells') (cs := fillP (((List.replicate n (zv.cells.toList.map PV.val)).flatten).map AV.pu) ps) hS (by rw [List.take_of_length_le (by rw [hsize, Array.length_toList]; exact Nat.le_refl _)]; exact k3)
    refine ⟨_, _, _, _, _, .inl hrun, q1, q2, ?_, k1⟩
    simp only [RepA]
    refine ⟨⟨_, _, _, rfl⟩, by simp [mem], fun g' B hal => ?_⟩
    obtain ⟨_, hB⟩ := al_new hS.len hal
    exact ⟨Nat.zero_le _, fun _ => .inr ⟨_, n, _, e, hB, rfl, Nat.le_refl _, maxLen_big (by omega), heap_alloc_new w _, by omega, fun _ => hcsz.symm⟩⟩

end

end Go.Vm
