/- Vm, part E: soundness of loads, stores, literals. -/
import Derived.Test.YtlodbaikbgbhjaaVmD
set_option linter.unusedVariables false
set_option linter.unusedSimpArgs false
namespace Go.Vm
open Go Go.RowKit

section
variable {P : Program} {o : Oper} {a : Act} {w : World} {σ : St} {β : List (Option Nat)} {Z : Nat → Prop} {Q : AV → St → Prop} {env : Env}

theorem reads_block {b : Nat} {arr : Array Value} {e : TypeId} {f : Nat × Nat} (off : Nat) (h : w.heap[b]? = some (.cells arr e f)) : Reads w ⟨b, off, none⟩ (arr.toList.drop off) := by
  intro j u hj
  rw [Addr.add_mid, cell_of_row w b (off + j) arr e f h]
  simpa [List.getElem?_drop] using hj

theorem run_isAgg {t : TypeId} {ag : Bool} (h : agB P t = some ag) : (isAgg t).run P w = .ok ag w := by
  unfold agB at h
  cases hu : P.underlying t with
  | none => rw [hu] at h; cases h
  | some d =>
    rw [hu] at h
    unfold isAgg
    simp only [Sem.run_bind, run_underlying hu, Result.andThen_ok]
    cases d <;> simp_all
theorem run_sizeOf {t : TypeId} {sz : Nat} (h : szB P t = some sz) : (sizeOf t).run P w = .ok sz w := by
  unfold szB at h
  obtain ⟨i, hi, rfl⟩ := Option.map_eq_some_iff.1 h
  simp [sizeOf, typeInfo, hi]

theorem run_loadVar {t : TypeId} {ag : Bool} {sz : Nat} {ad : Addr} {vs : List Value} (ha : agB P t = some ag) (hz : szB P t = some sz) (hr : Reads w ad vs) (hl : sz ≤ vs.length) :
    (ag = true → (loadVar t ad).run P w = .ok (.agg (vs.take sz).toArray) w) ∧ (ag = false → ∀ v, vs[0]? = some v → (loadVar t ad).run P w = .ok v w) := by
  constructor
  · rintro rfl
    have h1 : (loadCells ad (vs.take sz).length).run P w = .ok (vs.take sz).toArray w := run_loadCells_list (P := P) w ad (vs.take sz) (fun j v hv => hr.take sz j v hv)
    rw [List.length_take, Nat.min_eq_left hl] at h1
    simp [loadVar, run_isAgg ha, run_sizeOf hz, h1]
  · rintro rfl v hv
    have h1 := hr 0 v hv
    have h2 : ad.add 0 = ad := by simp [Addr.add]
    rw [h2] at h1
    simp [loadVar, run_isAgg ha, h1]

/-- A living object, its block. -/
theorem obj_block (hS : RepS w σ β Z) {id : Nat} {ob : VObj} (hid : σ[id]? = some (some ob)) :
    (β[id]? = some none ∧ ob.cs = []) ∨ ∃ b arr, β[id]? = some (some b) ∧ w.heap[b]? = some (.cells arr ob.e (0, 0)) ∧ RepAs w (mem σ β Z) true ob.cs (arr.toList.take ob.cs.length) ∧ ob.cs.length ≤ arr.size := by
  rcases hS.obj id ob hid with h | ⟨b, arr, h1, h2, h3⟩
  · exact .inl h
  · refine .inr ⟨b, arr, h1, h2, h3, ?_⟩
    have := h3.length
    simp at this
    omega
theorem al_obj {id : Nat} {ob : VObj} {B : Option Nat} (hid : σ[id]? = some (some ob)) (hB : β[id]? = some B) : (mem σ β Z).al id = some (ob.g, B) :=
  mem_al.2 ⟨ob, hid, rfl, by simp [hB]⟩
/-- A pointer into a living object. -/
theorem rep_ptr {id off : Nat} {ob : VObj} {v : Value} (hS : RepS w σ β Z) (hid : σ[id]? = some (some ob)) (h : RepA w (mem σ β Z) (.ptr id ob.g off) v) :
    ∃ b arr, β[id]? = some (some b) ∧ v = .pointer (some ⟨b, off, none⟩) ∧ w.heap[b]? = some (.cells arr ob.e (0, 0)) ∧ RepAs w (mem σ β Z) true ob.cs (arr.toList.take ob.cs.length) ∧ ob.cs.length ≤ arr.size := by
  simp only [RepA] at h
  obtain ⟨_, _, h⟩ := h
  have hlt : id < β.length := by rw [hS.len]; exact (List.getElem?_eq_some_iff.1 hid).1
  have hB : β[id]? = some β[id] := List.getElem?_eq_getElem hlt
  obtain ⟨b, hb, hv⟩ := (h _ _ (al_obj hid hB)).2 rfl
  rw [hb] at hB
  rcases obj_block hS hid with ⟨h1, _⟩ | ⟨b', arr, h1, h2, h3, h4⟩
  · rw [hB] at h1; cases h1
  · rw [hB] at h1; cases h1
    exact ⟨b, arr, hB, hv, h2, h3, h4⟩
theorem rep_ptr_mk {id g off : Nat} {B : Nat} (hid : id < σ.length) (hal : ∀ g' B', (mem σ β Z).al id = some (g', B') → g ≤ g' ∧ (g = g' → B' = some B)) : RepA w (mem σ β Z) (.ptr id g off) (.pointer (some ⟨B, off, none⟩)) := by
  simp only [RepA]
  exact ⟨⟨_, rfl⟩, hid, fun g' B' h => ⟨(hal g' B' h).1, fun e => ⟨B, (hal g' B' h).2 e, rfl⟩⟩⟩
theorem rep_ptr_at {id off : Nat} {ob : VObj} {b : Nat} (hid : σ[id]? = some (some ob)) (hb : β[id]? = some (some b)) : RepA w (mem σ β Z) (.ptr id ob.g off) (.pointer (some ⟨b, off, none⟩)) :=
  rep_ptr_mk (List.getElem?_eq_some_iff.1 hid).1 fun g' B' h => by
    rw [al_obj hid hb] at h
    cases h
    exact ⟨Nat.le_refl _, fun _ => rfl⟩

theorem mkV_rep {M : Mem} {ag : Bool} {cs : List AV} {vs : List Value} {K : AV → Prop} (hr : RepAs w M true cs vs) (h : mkV ag cs K) :
    ∃ x, K x ∧ (ag = true → RepA w M x (.agg vs.toArray)) ∧ (ag = false → ∃ v, vs = [v] ∧ RepA w M x v) := by
  unfold mkV at h
  cases ag
  · simp only [Bool.false_eq_true, if_false] at h
    split at h
    · rename_i x
      simp only [RepAs] at hr
      obtain ⟨u, us, rfl, h0, h1, rfl⟩ := hr
      exact ⟨x, h, by simp, fun _ => ⟨u, rfl, h1⟩⟩
    · exact h.elim
  · simp only [if_true] at h
    exact ⟨_, h, fun _ => repA_mkAgg hr, by simp⟩

theorem o_load {t : TypeId} {x : Operand} {y : X} {ag : Bool} {sz : Nat} (hS : RepS w σ β Z) (hE : RepE w (mem σ β Z) env a.tmps) (ho : o.op = .load t x) (ha : agB P t = some ag) (hz : szB P t = some sz) (hx : xOf x = some y)
    (h : vop env σ Q (.load ag sz y)) : Outc P o a w σ β Z Q := by
  simp only [vop] at h
  split at h
  · rename_i cs hcs
    have hv := rep_opnd hE hx hcs
    simp only [RepA, RepP] at hv
    obtain ⟨ad, vs, hv, hI, hR, hP⟩ := hv
    obtain ⟨hl, h⟩ := h
    obtain ⟨k1, k2⟩ := run_loadVar (P := P) ha hz hR (by rw [hP.length]; exact hl)
    cases ag
    · simp only [Bool.false_eq_true, if_false] at h
      split at h
      · rename_i c cs
        simp only [RepPs] at hP
        obtain ⟨u, us, rfl, h0, h1, h2⟩ := hP
        exact outc_same hS (r := u) (by simp [execOp, ho, hv, Instr.loadAt, Instr.sureAddr, k2 rfl u (by simp)]) (by simpa only [RepA] using h1) h
      · exact h.elim
    · simp only [if_true] at h
      refine outc_same hS (r := .agg (vs.take sz).toArray) (by simp [execOp, ho, hv, Instr.loadAt, Instr.sureAddr, k1 rfl]) ?_ h
      simp only [RepA, RepP]
      exact ⟨_, rfl, by simpa using hP.take sz⟩
  · rename_i id g off hp
    obtain ⟨ob, hob, rfl, hl, h⟩ := withO_some h
    obtain ⟨b, arr, hb, hv, hw, hcs, hsz⟩ := rep_ptr hS hob (rep_opnd hE hx hp)
    have hR : Reads w ⟨b, off, none⟩ ((arr.toList.take ob.cs.length).drop off) := by
      have := (reads_block off hw).take (ob.cs.length - off)
      rwa [← List.drop_take] at this
    have hr : RepAs w (mem σ β Z) true ((ob.cs.drop off).take sz) (((arr.toList.take ob.cs.length).drop off).take sz) := (hcs.drop off).take sz
    have hlen : ((arr.toList.take ob.cs.length).drop off).length = ob.cs.length - off := by simp; omega
    obtain ⟨k1, k2⟩ := run_loadVar (P := P) ha hz hR (by rw [hlen]; omega)
    obtain ⟨r, hq, q1, q2⟩ := mkV_rep hr h
    cases ag
    · obtain ⟨v, hv1, hv2⟩ := q2 rfl
      refine outc_same hS (r := v) ?_ hv2 hq
      have : ((arr.toList.take ob.cs.length).drop off)[0]? = some v := by
        have h0 : (((arr.toList.take ob.cs.length).drop off).take sz)[0]? = some v := by rw [hv1]; rfl
        rw [List.getElem?_take] at h0
        split at h0
        · exact h0
        · cases h0
      simp [execOp, ho, hv, Instr.loadAt, Instr.sureAddr, k2 rfl v this]
    · exact outc_same hS (by simp [execOp, ho, hv, Instr.loadAt, Instr.sureAddr, k1 rfl]) (q1 rfl) hq
  · exact h.elim


theorem take_splice {α : Type} (l vs : List α) (n off : Nat) (h : off + vs.length ≤ n) (hn : n ≤ l.length) :
    (l.take off ++ vs ++ l.drop (off + vs.length)).take n = (l.take n).take off ++ vs ++ (l.take n).drop (off + vs.length) := by
  rw [List.take_take, Nat.min_eq_left (by omega), List.take_append, List.take_of_length_le (l := l.take off ++ vs) (by simp; omega)]
  congr 1
  rw [List.drop_take]
  congr 1
  simp
  omega

theorem set_self {γ : Type} {l : List γ} {i : Nat} {x : γ} (h : l[i]? = some x) : l.set i x = l := by
  apply List.ext_getElem?
  intro j
  by_cases hj : i = j
  · subst hj
    rw [List.getElem?_set_self (List.getElem?_eq_some_iff.1 h).1, h]
  · rw [List.getElem?_set_ne hj]

theorem obj_set {id b : Nat} {ob : VObj} {arr arr' : Array Value} {e : TypeId} {cs' : List AV} (hS : RepS w σ β Z) (hid : σ[id]? = some (some ob)) (hb : β[id]? = some (some b)) (hw : w.heap[b]? = some (.cells arr ob.e (0, 0)))
    (hsz : arr'.size = arr.size) (hcs : RepAs w (mem σ β Z) true cs' (arr'.toList.take cs'.length)) :
    Step w (mem σ β Z) (w.setRow b arr') (mem (σ.set id (some ⟨ob.e, ob.g, cs'⟩)) β Z) ∧ RepS (w.setRow b arr') (σ.set id (some ⟨ob.e, ob.g, cs'⟩)) β Z := by
  have hh := setRow_heap w b arr arr' ob.e (0, 0) hw
  have := set_obj (w' := w.setRow b arr') (o' := ⟨ob.e, ob.g, cs'⟩) (B' := some b) hS hid hb rfl rfl rfl (by simp [World.setRow])
    (fun b' _ hne => setRow_other w b b' arr' (fun e => hne (by rw [e])))
    (.inl ⟨rfl, rfl, fun b' arr0 e hbe hw0 => by
      cases hbe
      rw [hw] at hw0
      cases hw0
      exact ⟨arr', hh, hsz⟩⟩) (.inr (.inl rfl)) (.inr ⟨b, arr', rfl, hh, hcs⟩)
  rwa [set_self hb] at this

theorem size_setRow (w : World) (b : Nat) (arr : Array Value) : (w.setRow b arr).heap.size = w.heap.size := by simp [World.setRow]

theorem o_store {t : TypeId} {x y : Operand} {x' y' : X} {sz : Nat} (hS : RepS w σ β Z) (hE : RepE w (mem σ β Z) env a.tmps) (ho : o.op = .store t x y) (hz : szB P t = some sz) (hx : xOf x = some x') (hy : xOf y = some y')
    (h : vop env σ Q (.store sz x' y')) : Outc P o a w σ β Z Q := by
  simp only [vop] at h
  split at h
  · rename_i id g off hp
    obtain ⟨c, hc, h⟩ := withA_some h
    obtain ⟨ys, hk, hys⟩ := rep_cells (rep_opnd hE hy hc) h
    obtain ⟨ob, hob, rfl, hl, hfit, hq⟩ := withO_some hk
    obtain ⟨b, arr, hb, hv, hw, hcs, hsz⟩ := rep_ptr hS hob (rep_opnd hE hx hp)
    have hlen : (a.eval y).cells.toList.length = ys.length := hys.length
    have h1 : ∀ v ∈ (a.eval y).cells.toList, v.oneCell' = true := by
      intro v hv
      obtain ⟨j, hj, hje⟩ := List.mem_iff_getElem.1 hv
      obtain ⟨u, hu, ho1, _⟩ := hys.get (j := j) (p := ys[j]'(by omega)) (by simp)
      rw [List.getElem?_eq_getElem hj, hje] at hu
      cases hu
      exact ho1 rfl
    have hst := run_storeCells_at (P := P) b off ob.e (a.eval y).cells.toList 0 arr w hw (by rw [Nat.add_zero, hlen]; omega) h1
    simp only [Nat.add_zero, hlen] at hst
    obtain ⟨k1, k2⟩ := obj_set (e := ob.e) (arr' := (arr.toList.take off ++ (a.eval y).cells.toList ++ arr.toList.drop (off + ys.length)).toArray) (cs' := splice ob.cs off ys) hS hob hb hw
      (by simp [hlen]; omega) (by
        have e1 : (splice ob.cs off ys).length = ob.cs.length := by simp [splice]; omega
        rw [e1]
        have e2 := take_splice arr.toList (a.eval y).cells.toList ob.cs.length off (by rw [hlen]; omega) (by simpa using hsz)
        rw [hlen] at e2
        simp only [e2]
        exact ((hcs.take off).append hys).append (hcs.drop (off + ys.length)))
    refine ⟨undef, _, _, _, _, .inr ⟨?_, rfl⟩, k1, k2, rep_val_mk _, hq⟩
    have hsize : (a.eval y).cells.size = sz := by rw [← hl, ← hlen]; simp
    simp [execOp, ho, hv, Instr.storeAt, Instr.sureAddr, storeVar, run_sizeOf hz, hsize, hst]
  · exact h.elim

theorem o_nilck {x : Operand} {y : X} (hS : RepS w σ β Z) (hE : RepE w (mem σ β Z) env a.tmps) (ho : o.op = .nilCheck x) (hx : xOf x = some y) (h : vop env σ Q (.nilck y)) : Outc P o a w σ β Z Q := by
  simp only [vop] at h
  split at h
  · rename_i id g off hp
    obtain ⟨ob, hob, rfl, hq⟩ := withO_some h
    have hr := rep_opnd hE hx hp
    obtain ⟨b, arr, hb, hv, _⟩ := rep_ptr hS hob hr
    exact outc_same hS (r := a.eval x) (by simp [execOp, ho, hv]) hr hq
  · rename_i cs hp
    have hr := rep_opnd hE hx hp
    have hr' := hr
    simp only [RepA, RepP] at hr'
    obtain ⟨ad, vs, hv, _⟩ := hr'
    exact outc_same hS (r := a.eval x) (by simp [execOp, ho, hv]) hr h
  · exact h.elim

end

end Go.Vm
