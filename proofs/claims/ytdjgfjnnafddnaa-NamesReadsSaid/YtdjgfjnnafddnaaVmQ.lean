/- Vm, part Q: functions that make a row, that append to one, that have a receiver. -/
import Derived.Test.YtdjgfjnnafddnaaVmP
set_option linter.unusedVariables false
set_option linter.unusedSimpArgs false
namespace Go.Vm
open Go Go.RowKit

/-- Pure values in, a new row out: its elements' type, how many, of how many cells, the cells. -/
def DetO (F : List PV → Option (TypeId × Nat × Nat × List PV)) : Spec := fun as objs r τ => objs = [] ∧ ∃ ps e n sz cs, unpus as = some ps ∧ F ps = some (e, n, sz, cs) ∧ r = .own 0 0 0 n sz ∧ τ = [some ⟨e, 0, cs.map .pu⟩]
/-- A row of one's own ahead, pure values behind: the row, grown: by how many generations, its elements, its cells. -/
def DetA (e : TypeId) (sz : Nat) (F : List PV → List PV → Option (Nat × Nat × List PV)) : Spec := fun as objs r τ => ∃ g n cs rest ps k n' cs', as = .own 0 g 0 n sz :: rest ∧ objs = [⟨e, g, cs.map .pu⟩] ∧ cs.length = n * sz ∧ unpus rest = some ps ∧ F cs ps = some (k, n', cs') ∧ r = .own 0 (g + k) 0 n' sz ∧ τ = [some ⟨e, g + k, cs'.map .pu⟩]
/-- A receiver, pure values behind: a pure result, the receiver's cells behind the call. -/
def DetM (e : TypeId) (F : List PV → List PV → Option (PV × List PV)) : Spec := fun as objs r τ => ∃ g cs rest ps p cs', as = .ptr 0 g 0 :: rest ∧ objs = [⟨e, g, cs.map .pu⟩] ∧ unpus rest = some ps ∧ F cs ps = some (p, cs') ∧ r = .pu p ∧ τ = [some ⟨e, g, cs'.map .pu⟩]

theorem rens_pu (ρ : Nat → Option Nat) : ∀ cs : List PV, rens ρ (cs.map .pu) = some (cs.map .pu)
  | [] => rfl
  | c :: cs => by simp only [List.map_cons, rens, ren, rens_pu ρ cs]
theorem rensG_pu (σ : St) (K : List Nat) (k : Nat) : ∀ cs : List PV, rensG σ K k (cs.map .pu) = some (cs.map .pu)
  | [] => rfl
  | c :: cs => by simp only [List.map_cons, rensG, renG, rensG_pu σ K k cs]
theorem idss_pu : ∀ cs : List PV, idss (cs.map .pu) = []
  | [] => rfl
  | c :: cs => by simp only [List.map_cons, idss, ids, idss_pu cs, List.append_nil]
theorem noSls_pu : ∀ cs : List PV, noSls (cs.map .pu) = noSlPs cs
  | [] => rfl
  | c :: cs => by simp only [List.map_cons, noSls, noSl, noSlPs, noSls_pu cs]

theorem call_own {F : List PV → Option (TypeId × Nat × Nat × List PV)} {as : List AV} {σ : St} {Q : AV → St → Prop} {ps : List PV} {e : TypeId} {n sz : Nat} {cs : List PV} (hs : snaps σ as = some ps) (hF : F ps = some (e, n, sz, cs)) (hb : as.all isPu = true ∨ noSlPs cs = true)
    (k : Q (.own σ.length 0 0 n sz) (σ ++ [some ⟨e, 0, cs.map .pu⟩])) : VCall (DetO F) [] as σ Q := by
  refine ⟨?_⟩
  unfold vcall
  simp only [refIds_nil, close_nil, passArgs_nil, nodupB, true_and, objsOf, hs, Option.map_some]
  refine ⟨.own 0 0 0 n sz, [some ⟨e, 0, cs.map .pu⟩], ⟨rfl, ps, e, n, sz, cs, unpus_map ps, hF, rfl, rfl⟩, by simp, ?_, ?_⟩
  · intro h
    rcases hb with hb | hb
    · simp [hb] at h
    · simp [noSl, noSlSt, noSls_pu, hb]
  · simp only [ren, renSt, rens_pu, back, List.length_nil, Nat.sub_zero, Nat.add_zero, Option.map_some, List.getElem?_nil, setAll, List.drop_zero]
    exact k

theorem close_one {σ : St} {id : Nat} {e : TypeId} {g : Nat} {cs : List PV} (h : σ[id]? = some (some ⟨e, g, cs.map .pu⟩)) : closeN σ 6 (addNew [] [id]) = [id] := by
  simp [closeN, addNew, growI, h, idss_pu]

theorem passArgs_rest {σ : St} {id : Nat} {rest : List AV} {ps : List PV} (h : rest = ps.map .pu) : passArgs σ [id] [] rest = some (ps.map .pu, false) := by
  subst h
  induction ps with
  | nil => rfl
  | cons p ps ih =>
    simp only [List.map_cons, passArgs, snap, ids, List.all_nil, if_true, ih, isPu, Bool.not_true, Bool.or_false]

theorem call_append {e : TypeId} {sz : Nat} {F : List PV → List PV → Option (Nat × Nat × List PV)} {id g n : Nat} {cs : List PV} {rest : List AV} {ps : List PV} {σ : St} {Q : AV → St → Prop} {k n' : Nat} {cs' : List PV}
    (ho : σ[id]? = some (some ⟨e, g, cs.map .pu⟩)) (hl : cs.length = n * sz) (hr : rest = ps.map .pu) (hF : F cs ps = some (k, n', cs')) (kk : Q (.own id (g + k) 0 n' sz) (σ.set id (some ⟨e, g + k, cs'.map .pu⟩))) :
    VCall (DetA e sz F) [true] (.own id g 0 n sz :: rest) σ Q := by
  refine ⟨?_⟩
  unfold vcall
  have e1 : refIds [true] (.own id g 0 n sz :: rest) = [id] := by cases rest <;> simp [refIds, ids]
  rw [e1, close_one ho]
  have e2 : objsOf σ [id] [id] = some [⟨e, g, cs.map .pu⟩] := by simp [objsOf, ho, rens_pu]
  have e3 : passArgs σ [id] [true] (.own id g 0 n sz :: rest) = some (.own 0 g 0 n sz :: rest, false) := by
    simp only [passArgs, passArgs_rest hr, ren, idx, if_true, Option.map_some]
    rw [hr]
  simp only [nodupB, e2, e3]
  refine ⟨by simp, .own 0 (g + k) 0 n' sz, [some ⟨e, g + k, cs'.map .pu⟩], ⟨g, n, cs, rest, ps, k, n', cs', rfl, rfl, hl, by rw [hr, unpus_map], hF, rfl, rfl⟩, by simp, by simp, ?_⟩
  simp only [ren, renSt, rens_pu, back, List.getElem?_cons_zero, Option.map_some, setAll, List.length_cons, List.length_nil, List.drop_succ_cons, List.drop_nil, List.append_nil]
  simpa using kk

theorem call_method {e : TypeId} {F : List PV → List PV → Option (PV × List PV)} {id g : Nat} {cs : List PV} {rest : List AV} {ps : List PV} {σ : St} {Q : AV → St → Prop} {p : PV} {cs' : List PV}
    (ho : σ[id]? = some (some ⟨e, g, cs.map .pu⟩)) (hr : rest = ps.map .pu) (hF : F cs ps = some (p, cs')) (kk : Q (.pu p) (σ.set id (some ⟨e, g, cs'.map .pu⟩))) :
    VCall (DetM e F) [true] (.ptr id g 0 :: rest) σ Q := by
  refine ⟨?_⟩
  unfold vcall
  have e1 : refIds [true] (.ptr id g 0 :: rest) = [id] := by cases rest <;> simp [refIds, ids]
  rw [e1, close_one ho]
  have e2 : objsOf σ [id] [id] = some [⟨e, g, cs.map .pu⟩] := by simp [objsOf, ho, rens_pu]
  have e3 : passArgs σ [id] [true] (.ptr id g 0 :: rest) = some (.ptr 0 g 0 :: rest, false) := by
    simp only [passArgs, passArgs_rest hr, ren, idx, if_true, Option.map_some]
    rw [hr]
  simp only [nodupB, e2, e3]
  refine ⟨by simp, .pu p, [some ⟨e, g, cs'.map .pu⟩], ⟨g, cs, rest, ps, p, cs', rfl, rfl, by rw [hr, unpus_map], hF, rfl, rfl⟩, by simp, by simp, ?_⟩
  simp only [ren, renSt, rens_pu, setAll, List.length_cons, List.length_nil, List.drop_succ_cons, List.drop_nil, List.append_nil, Option.map_some]
  simpa using kk

/-! ### results -/
/-- what is left of a new row -/
def ownFin (res : List RV) (e : TypeId) (n sz : Nat) (cs : List PV) : VExit → Env → St → Prop
  | .exit _, _, _ => False
  | _, env, σ => withRes env σ res fun as => ∃ id g, packRes as = .own id g 0 n sz ∧ σ[id]? = some (some ⟨e, g, cs.map .pu⟩)
def appFin (res : List RV) (e : TypeId) (g n sz : Nat) (cs : List PV) : VExit → Env → St → Prop
  | .exit _, _, _ => False
  | _, env, σ => withRes env σ res fun as => packRes as = .own 0 g 0 n sz ∧ σ[0]? = some (some ⟨e, g, cs.map .pu⟩)
def metFin (res : List RV) (e : TypeId) (g : Nat) (p : PV) (cs : List PV) : VExit → Env → St → Prop
  | .exit _, _, _ => False
  | _, env, σ => withRes env σ res fun as => packRes as = .pu p ∧ σ[0]? = some (some ⟨e, g, cs.map .pu⟩)

theorem fin_own {σ : St} {id g n sz : Nat} {e : TypeId} {cs : List PV} (h : σ[id]? = some (some ⟨e, g, cs.map .pu⟩)) : finOf σ 0 [id] (.own id g 0 n sz) = some (.own 0 0 0 n sz, [some ⟨e, 0, cs.map .pu⟩]) := by
  simp [finOf, renG, h, idx, keptG, rensG_pu, nodupB]
theorem fin_app {σ : St} {g n sz : Nat} {e : TypeId} {cs : List PV} (h : σ[0]? = some (some ⟨e, g, cs.map .pu⟩)) : finOf σ 1 [] (.own 0 g 0 n sz) = some (.own 0 g 0 n sz, [some ⟨e, g, cs.map .pu⟩]) := by
  simp [finOf, renG, h, idx, keptG, rensG_pu, nodupB]
theorem fin_met {σ : St} {g : Nat} {p : PV} {e : TypeId} {cs : List PV} (h : σ[0]? = some (some ⟨e, g, cs.map .pu⟩)) : finOf σ 1 [] (.pu p) = some (.pu p, [some ⟨e, g, cs.map .pu⟩]) := by
  simp [finOf, renG, h, idx, keptG, rensG_pu, nodupB]

section
variable {P : Program} {Γ : FuncId → Spec} {f : FuncId} {fn : Func} {c : Code} {vc : VCode} {res : List RV}
theorem contract_own {F : List PV → Option (TypeId × Nat × Nat × List PV)} (hΓ : Known P Γ) (hf : P.funcs[f]? = some fn) (hname : (fn.name == "runtime.NumGoroutine") = false) (hb : fn.body = some c)
    (hc : ccode P c = some (strip vc)) (hres : cres P fn.results.toList = some res) (hd : dstB fn.ntmps vc = true)
    (h : ∀ ps e n sz cs, F ps = some (e, n, sz, cs) → ps.length ≤ fn.ntmps ∧ BW Γ vc (ownFin res e n sz cs) (envFrom 0 (ps.map .pu)) []) : Contract P f (DetO F) := by
  simp only [bw_eq] at h
  refine contract_of_Q hΓ hf hname hb hc hres hd ?_
  rintro as objs r τ ⟨rfl, ps, e, n, sz, cs, h1, h2, rfl, rfl⟩
  have e1 := unpus_some h1
  subst e1
  obtain ⟨h3, h4⟩ := h ps e n sz cs h2
  refine ⟨by simpa using h3, _, h4, fun ex env σ k => ?_⟩
  have fin : (withRes env σ res fun as => ∃ id g, packRes as = .own id g 0 n sz ∧ σ[id]? = some (some ⟨e, g, cs.map .pu⟩)) → withRes env σ res fun as => ∃ J, finOf σ 0 J (packRes as) = some (.own 0 0 0 n sz, [some ⟨e, 0, cs.map .pu⟩]) := fun k => by
    refine withRes_mono (fun as ha => ?_) k
    obtain ⟨id, g, k1, k2⟩ := ha
    exact ⟨[id], by rw [k1, fin_own k2]⟩
  cases ex with
  | exit id => exact k
  | normal => exact fin k
  | ret => exact fin k
theorem contract_append {e : TypeId} {sz : Nat} {F : List PV → List PV → Option (Nat × Nat × List PV)} (hΓ : Known P Γ) (hf : P.funcs[f]? = some fn) (hname : (fn.name == "runtime.NumGoroutine") = false) (hb : fn.body = some c)
    (hc : ccode P c = some (strip vc)) (hres : cres P fn.results.toList = some res) (hd : dstB fn.ntmps vc = true)
    (h : ∀ g n cs ps k n' cs', cs.length = n * sz → F cs ps = some (k, n', cs') → ps.length + 1 ≤ fn.ntmps ∧ BW Γ vc (appFin res e (g + k) n' sz cs') (envFrom 0 (.own 0 g 0 n sz :: ps.map .pu)) [some ⟨e, g, cs.map .pu⟩]) : Contract P f (DetA e sz F) := by
  simp only [bw_eq] at h
  refine contract_of_Q hΓ hf hname hb hc hres hd ?_
  rintro as objs r τ ⟨g, n, cs, rest, ps, k, n', cs', rfl, rfl, hl, h1, h2, rfl, rfl⟩
  have e1 := unpus_some h1
  subst e1
  obtain ⟨h3, h4⟩ := h g n cs ps k n' cs' hl h2
  refine ⟨by simpa using h3, _, h4, fun ex env σ k0 => ?_⟩
  have fin : (withRes env σ res fun as => packRes as = .own 0 (g + k) 0 n' sz ∧ σ[0]? = some (some ⟨e, g + k, cs'.map .pu⟩)) → withRes env σ res fun as => ∃ J, finOf σ 1 J (packRes as) = some (.own 0 (g + k) 0 n' sz, [some ⟨e, g + k, cs'.map .pu⟩]) := fun k0 => by
    refine withRes_mono (fun as ha => ?_) k0
    exact ⟨[], by rw [ha.1, fin_app ha.2]⟩
  cases ex with
  | exit id => exact k0
  | normal => exact fin k0
  | ret => exact fin k0
theorem contract_method {e : TypeId} {F : List PV → List PV → Option (PV × List PV)} (hΓ : Known P Γ) (hf : P.funcs[f]? = some fn) (hname : (fn.name == "runtime.NumGoroutine") = false) (hb : fn.body = some c)
    (hc : ccode P c = some (strip vc)) (hres : cres P fn.results.toList = some res) (hd : dstB fn.ntmps vc = true)
    (h : ∀ g cs ps p cs', F cs ps = some (p, cs') → ps.length + 1 ≤ fn.ntmps ∧ BW Γ vc (metFin res e g p cs') (envFrom 0 (.ptr 0 g 0 :: ps.map .pu)) [some ⟨e, g, cs.map .pu⟩]) : Contract P f (DetM e F) := by
  simp only [bw_eq] at h
  refine contract_of_Q hΓ hf hname hb hc hres hd ?_
  rintro as objs r τ ⟨g, cs, rest, ps, p, cs', rfl, rfl, h1, h2, rfl, rfl⟩
  have e1 := unpus_some h1
  subst e1
  obtain ⟨h3, h4⟩ := h g cs ps p cs' h2
  refine ⟨by simpa using h3, _, h4, fun ex env σ k0 => ?_⟩
  have fin : (withRes env σ res fun as => packRes as = .pu p ∧ σ[0]? = some (some ⟨e, g, cs'.map .pu⟩)) → withRes env σ res fun as => ∃ J, finOf σ 1 J (packRes as) = some (.pu p, [some ⟨e, g, cs'.map .pu⟩]) := fun k0 => by
    refine withRes_mono (fun as ha => ?_) k0
    exact ⟨[], by rw [ha.1, fin_met ha.2]⟩
  cases ex with
  | exit id => exact k0
  | normal => exact fin k0
  | ret => exact fin k0
end
end Go.Vm
