/- Vm, part Q: functions that make a row, that append to one, that have a receiver. -/
import Derived.Test.YtlodbaikbgbhjaaVmP
set_option linter.unusedVariables false
set_option linter.unusedSimpArgs false
namespace Go.Vm
open Go Go.RowKit

/-- Pure values in, a new row out: its elements' type, how many, of how many cells, the cells. -/
def DetO (F : List PV → Option (TypeId × Nat × Nat × List PV)) : Spec := fun as objs K => Tag 8 (objs = [] ∧ ∃ ps e n sz cs, unpus as = some ps ∧ F ps = some (e, n, sz, cs) ∧ K (.own 0 0 0 n sz) [some ⟨e, 0, cs.map .pu⟩])
/-- A row of one's own ahead, pure values behind: the row, grown: by how many generations, its elements, its cells. -/
def DetA (e : TypeId) (sz : Nat) (F : List PV → List PV → Option (Nat × Nat × List PV)) : Spec := fun as objs K => Tag 9 (∃ g n cs rest ps k n' cs', as = .own 0 g 0 n sz :: rest ∧ objs = [⟨e, g, cs.map .pu⟩] ∧ cs.length = n * sz ∧ unpus rest = some ps ∧ F cs ps = some (k, n', cs') ∧ K (.own 0 (g + k) 0 n' sz) [some ⟨e, g + k, cs'.map .pu⟩])

theorem rens_pu (ρ : Nat → Option Nat) : ∀ cs : List PV, rens ρ (cs.map .pu) = some (cs.map .pu)
  | [] => rfl
  | c :: cs => by simp only [List.map_cons, rens, ren, rens_pu ρ cs]
theorem rensG_pu (σ : St) (K : List Nat) (k : Nat) : ∀ cs : List PV, rensG σ K k (cs.map .pu) = some (cs.map .pu)
  | [] => rfl
  | c :: cs => by simp only [List.map_cons, rensG, renG, rensG_pu σ K k cs]
theorem idss_pu : ∀ cs : List PV, idss (cs.map .pu) = []
  | [] => rfl
  | c :: cs => by simp only [List.map_cons, idss, ids, idss_pu cs, List.append_nil]
theorem noSls_pu : ∀ cs : List PV, noSls (cs.map .pu) = noSlPs cs
  | [] => rfl
  | c :: cs => by simp only [List.map_cons, noSls, noSl, noSlPs, noSls_pu cs]
theorem hasPtrs_pu : ∀ cs : List PV, hasPtrs (cs.map .pu) = false
  | [] => rfl
  | c :: cs => by simp only [List.map_cons, hasPtrs, hasPtr, hasPtrs_pu cs, Bool.or_self]

theorem backQ_own {σ : St} {bor : Bool} {Q : AV → St → Prop} {e : TypeId} {n sz : Nat} {cs : List PV} (h : bor = true → noSlPs cs = true) (k : Q (.own σ.length 0 0 n sz) (σ ++ [some ⟨e, 0, cs.map .pu⟩])) : backQ [] σ.length bor σ Q (.own 0 0 0 n sz) [some ⟨e, 0, cs.map .pu⟩] := by
  refine ⟨Nat.zero_le _, fun hb => ⟨rfl, by simp [noSlSt, noSls_pu, h hb]⟩, ?_⟩
  simp only [ren, renSt, rens_pu, back, List.length_nil, Nat.sub_zero, Nat.add_zero, Option.map_some, List.getElem?_nil, setAll, List.drop_zero]
  exact k
theorem backQ_new {σ : St} {bor : Bool} {Q : AV → St → Prop} {e : TypeId} {cs : List PV} (h : bor = true → noSlPs cs = true) (k : Q (.ptr σ.length 0 0) (σ ++ [some ⟨e, 0, cs.map .pu⟩])) : backQ [] σ.length bor σ Q (.ptr 0 0 0) [some ⟨e, 0, cs.map .pu⟩] := by
  refine ⟨Nat.zero_le _, fun hb => ⟨rfl, by simp [noSlSt, noSls_pu, h hb]⟩, ?_⟩
  simp only [ren, renSt, rens_pu, back, List.length_nil, Nat.sub_zero, Nat.add_zero, Option.map_some, List.getElem?_nil, setAll, List.drop_zero]
  exact k
theorem call_own {F : List PV → Option (TypeId × Nat × Nat × List PV)} {as : List AV} {σ : St} {Q : AV → St → Prop} {ps : List PV} {e : TypeId} {n sz : Nat} {cs : List PV} (hs : snaps σ as = some ps) (hF : F ps = some (e, n, sz, cs)) (hb : as.all isPu = true ∨ noSlPs cs = true)
    (k : Q (.own σ.length 0 0 n sz) (σ ++ [some ⟨e, 0, cs.map .pu⟩])) (hn : hasPtrs as = false := by rfl) : VCall (DetO F) [] as σ Q := by
  refine vcall_nil hn hs ⟨fun r τ => r = .own 0 0 0 n sz ∧ τ = [some ⟨e, 0, cs.map .pu⟩], ⟨rfl, ps, e, n, sz, cs, unpus_map ps, hF, rfl, rfl⟩, ?_⟩
  rintro r τ ⟨rfl, rfl⟩
  exact backQ_own (fun h => hb.resolve_left (by simpa using h)) k
theorem call_relO {α : Type} {pre : α → Prop} {args : α → List PV} {e : TypeId} {n sz : α → Nat} {cs : α → List PV} {as : List AV} {σ : St} {Q : AV → St → Prop} {x : α} (hs : snaps σ as = some (args x)) (hp : pre x) (hb : as.all isPu = true ∨ noSlPs (cs x) = true)
    (k : Q (.own σ.length 0 0 (n x) (sz x)) (σ ++ [some ⟨e, 0, (cs x).map .pu⟩])) (hn : hasPtrs as = false := by rfl) : VCall (RelO pre args e n sz cs) [] as σ Q := by
  refine vcall_nil hn hs ⟨fun r τ => r = .own 0 0 0 (n x) (sz x) ∧ τ = [some ⟨e, 0, (cs x).map .pu⟩], ⟨rfl, x, hp, rfl, rfl, rfl⟩, ?_⟩
  rintro r τ ⟨rfl, rfl⟩
  exact backQ_own (fun h => hb.resolve_left (by simpa using h)) k
theorem call_relN {α : Type} {pre : α → Prop} {args : α → List PV} {e : TypeId} {cs : α → List PV} {as : List AV} {σ : St} {Q : AV → St → Prop} {x : α} {o : List PV} (hs : snaps σ as = some (args x)) (hp : pre x) (ho : cs x = o) (hb : as.all isPu = true ∨ noSlPs o = true)
    (k : Q (.ptr σ.length 0 0) (σ ++ [some ⟨e, 0, o.map .pu⟩])) (hn : hasPtrs as = false := by rfl) : VCall (RelN e pre args cs) [] as σ Q := by
  subst ho
  refine vcall_nil hn hs ⟨fun r τ => r = .ptr 0 0 0 ∧ τ = [some ⟨e, 0, (cs x).map .pu⟩], ⟨rfl, x, hp, rfl, rfl, rfl⟩, ?_⟩
  rintro r τ ⟨rfl, rfl⟩
  exact backQ_new (fun h => hb.resolve_left (by simpa using h)) k

theorem close_one {σ : St} {id : Nat} {e : TypeId} {g : Nat} {cs : List PV} (h : σ[id]? = some (some ⟨e, g, cs.map .pu⟩)) : closeN σ 6 (addNew [] [id]) = [id] := by
  simp [closeN, addNew, growI, h, idss_pu]
theorem passArgs_rest {σ : St} {id : Nat} {rest : List AV} {ps : List PV} (h : rest = ps.map .pu) : passArgs σ [id] [] rest = some (ps.map .pu, false) := by
  subst h
  induction ps with
  | nil => rfl
  | cons p ps ih =>
    simp only [List.map_cons, passArgs, hasPtr, byVal, snap, ids, List.all_nil, if_true, ih, isPu, Bool.not_true, Bool.or_false]
theorem refIds_pu (ps : List PV) : refIds [] (ps.map .pu) = [] := refIds_none _ (hasPtrs_pu ps)

theorem call_append {e : TypeId} {sz : Nat} {F : List PV → List PV → Option (Nat × Nat × List PV)} {id g n : Nat} {cs : List PV} {rest : List AV} {ps : List PV} {σ : St} {Q : AV → St → Prop} {k n' : Nat} {cs' : List PV}
    (ho : σ[id]? = some (some ⟨e, g, cs.map .pu⟩)) (hl : cs.length = n * sz) (hr : rest = ps.map .pu) (hF : F cs ps = some (k, n', cs')) (kk : Q (.own id (g + k) 0 n' sz) (σ.set id (some ⟨e, g + k, cs'.map .pu⟩))) :
    VCall (DetA e sz F) [true] (.own id g 0 n sz :: rest) σ Q := by
  refine .mk ?_
  unfold vcall
  have e1 : refIds [true] (.own id g 0 n sz :: rest) = [id] := by simp [refIds, ids, hr, refIds_pu]
  rw [e1, close_one ho]
  have e2 : objsOf σ [id] [id] = some [⟨e, g, cs.map .pu⟩] := by simp [objsOf, ho, rens_pu]
  have e3 : passArgs σ [id] [true] (.own id g 0 n sz :: rest) = some (.own 0 g 0 n sz :: rest, false) := by
    simp only [passArgs, byRef, passArgs_rest hr, ren, idx, if_true, Option.map_some]
    rw [hr]
  simp only [nodupB, e2, e3]
  refine ⟨by simp, fun r τ => r = .own 0 (g + k) 0 n' sz ∧ τ = [some ⟨e, g + k, cs'.map .pu⟩], ⟨g, n, cs, rest, ps, k, n', cs', rfl, rfl, hl, by rw [hr, unpus_map], hF, rfl, rfl⟩, ?_⟩
  rintro r τ ⟨rfl, rfl⟩
  refine ⟨by simp, by simp, ?_⟩
  simp only [ren, renSt, rens_pu, back, List.getElem?_cons_zero, Option.map_some, setAll, List.length_cons, List.length_nil, List.drop_succ_cons, List.drop_nil, List.append_nil]
  simpa using kk

theorem call_relM {α : Type} {e : TypeId} {pre : α → Prop} {cells : α → List PV} {args : α → List PV} {res : α → PV} {cells' : α → List PV} {id g : Nat} {rest : List AV} {σ : St} {Q : AV → St → Prop} {x : α}
    (ho : σ[id]? = some (some ⟨e, g, (cells x).map .pu⟩)) (hr : rest = (args x).map .pu) (hp : pre x) {p : PV} {o : List PV} (h1 : res x = p) (h2 : cells' x = o) (kk : Q (.pu p) (σ.set id (some ⟨e, g, o.map .pu⟩))) :
    VCall (RelM e pre cells args res cells') [] (.ptr id g 0 :: rest) σ Q := by
  subst h1 h2
  refine .mk ?_
  unfold vcall
  have e1 : refIds [] (.ptr id g 0 :: rest) = [id] := by simp [refIds, hasPtr, ids, hr, refIds_pu]
  rw [e1, close_one ho]
  have e2 : objsOf σ [id] [id] = some [⟨e, g, (cells x).map .pu⟩] := by simp [objsOf, ho, rens_pu]
  have e3 : passArgs σ [id] [] (.ptr id g 0 :: rest) = some (.ptr 0 g 0 :: rest, false) := by
    simp only [passArgs, hasPtr, byRef, passArgs_rest hr, ren, idx, if_true, Option.map_some]
    rw [hr]
  simp only [nodupB, e2, e3]
  refine ⟨by simp, fun r τ => r = .pu (res x) ∧ τ = [some ⟨e, g, (cells' x).map .pu⟩], ⟨g, x, hp, by rw [hr], rfl, rfl, rfl⟩, ?_⟩
  rintro r τ ⟨rfl, rfl⟩
  refine ⟨by simp, by simp, ?_⟩
  simp only [ren, renSt, rens_pu, setAll, List.length_cons, List.length_nil, List.drop_succ_cons, List.drop_nil, List.append_nil, Option.map_some]
  simpa using kk
/-- Where a call goes by reference: the parts are found by reckoning. -/
theorem vcall_mk {R : Spec} {by_ : List Bool} {as : List AV} {σ : St} {Q : AV → St → Prop} {I : List Nat} {objs : List VObj} {args : List AV} {bor : Bool} (hI : closeN σ 6 (addNew [] (refIds by_ as)) = I) (hn : nodupB I = true) (ho : objsOf σ I I = some objs) (hp : passArgs σ I by_ as = some (args, bor))
    (h : ∃ K, R args objs K ∧ ∀ r τ, K r τ → backQ I σ.length bor σ Q r τ) : VCall R by_ as σ Q := by
  refine .mk ?_
  unfold vcall
  subst hI
  refine ⟨hn, ?_⟩
  rw [ho, hp]
  exact h
theorem vcall_inl {Γ : FuncId → Spec} {vc : VCode} {res : List RV} {nt : Nat} {by_ : List Bool} {as : List AV} {σ : St} {Q : AV → St → Prop} {I : List Nat} {objs : List VObj} {args : List AV} {bor : Bool} (hI : closeN σ 6 (addNew [] (refIds by_ as)) = I) (hn : nodupB I = true) (ho : objsOf σ I I = some objs) (hp : passArgs σ I by_ as = some (args, bor))
    (hl : args.length ≤ nt) (h : BW Γ vc (finQ res objs.length (backQ I σ.length bor σ Q)) (envFrom 0 args) (objs.map some)) : VCall (Inl Γ vc res nt) by_ as σ Q :=
  vcall_mk hI hn ho hp ⟨_, ⟨hl, h⟩, fun _ _ h => h⟩

/-! ### results -/
/-- what is left of a new row -/
def ownFin (res : List RV) (e : TypeId) (n sz : Nat) (cs : List PV) : VExit → Env → St → Prop
  | .exit _, _, _ => False
  | _, env, σ => withRes env σ res fun as => ∃ id g, packRes as = .own id g 0 n sz ∧ σ[id]? = some (some ⟨e, g, cs.map .pu⟩)
def newFin (res : List RV) (e : TypeId) (cs : List PV) : VExit → Env → St → Prop
  | .exit _, _, _ => False
  | _, env, σ => withRes env σ res fun as => ∃ id g cs', packRes as = .ptr id g 0 ∧ σ[id]? = some (some ⟨e, g, cs'⟩) ∧ rensG σ [id] 0 cs' = some (cs.map .pu)
def appFin (res : List RV) (e : TypeId) (g n sz : Nat) (cs : List PV) : VExit → Env → St → Prop
  | .exit _, _, _ => False
  | _, env, σ => withRes env σ res fun as => packRes as = .own 0 g 0 n sz ∧ σ[0]? = some (some ⟨e, g, cs.map .pu⟩)
def metFin (res : List RV) (e : TypeId) (g : Nat) (p : PV) (cs : List PV) : VExit → Env → St → Prop
  | .exit _, _, _ => False
  | _, env, σ => withRes env σ res fun as => renG σ [0] 1 (packRes as) = some (.pu p) ∧ ∃ cs', σ[0]? = some (some ⟨e, g, cs'⟩) ∧ rensG σ [0] 1 cs' = some (cs.map .pu)

theorem fin_own {σ : St} {id g n sz : Nat} {e : TypeId} {cs : List PV} (h : σ[id]? = some (some ⟨e, g, cs.map .pu⟩)) : finOf σ 0 [id] (.own id g 0 n sz) = some (.own 0 0 0 n sz, [some ⟨e, 0, cs.map .pu⟩]) := by
  simp [finOf, renG, h, idx, keptG, rensG_pu, nodupB]
theorem fin_app {σ : St} {g n sz : Nat} {e : TypeId} {cs : List PV} (h : σ[0]? = some (some ⟨e, g, cs.map .pu⟩)) : finOf σ 1 [] (.own 0 g 0 n sz) = some (.own 0 g 0 n sz, [some ⟨e, g, cs.map .pu⟩]) := by
  simp [finOf, renG, h, idx, keptG, rensG_pu, nodupB]
theorem fin_new {σ : St} {id g : Nat} {e : TypeId} {cs : List PV} {cs' : List AV} (h : σ[id]? = some (some ⟨e, g, cs'⟩)) (h' : rensG σ [id] 0 cs' = some (cs.map .pu)) : finOf σ 0 [id] (.ptr id g 0) = some (.ptr 0 0 0, [some ⟨e, 0, cs.map .pu⟩]) := by
  simp [finOf, renG, h, idx, keptG, h', nodupB]
theorem fin_met {σ : St} {g : Nat} {r : AV} {p : PV} {e : TypeId} {cs : List PV} {cs' : List AV} (hr : renG σ [0] 1 r = some (.pu p)) (h : σ[0]? = some (some ⟨e, g, cs'⟩)) (h' : rensG σ [0] 1 cs' = some (cs.map .pu)) : finOf σ 1 [] r = some (.pu p, [some ⟨e, g, cs.map .pu⟩]) := by
  simp [finOf, hr, h, keptG, h', nodupB, List.range_succ]

section
variable {P : Program} {Γ : FuncId → Spec} {f : FuncId} {fn : Func} {c : Code} {vc : VCode} {res : List RV}
theorem fin_mono {k : Nat} {A : List AV → Prop} {C : AV → St → Prop} {e : VExit} {env : Env} {σ : St} (h : match e with | .exit _ => False | _ => withRes env σ res A) (hA : ∀ as, A as → ∃ J r τ, finOf σ k J (packRes as) = some (r, τ) ∧ C r τ) : finQ res k C e env σ := by
  cases e with
  | exit id => exact h
  | normal => exact withRes_mono hA h
  | ret => exact withRes_mono hA h
theorem ownFin_fin {C : AV → St → Prop} {e : TypeId} {n sz : Nat} {cs : List PV} {ex : VExit} {env : Env} {σ : St} (hC : C (.own 0 0 0 n sz) [some ⟨e, 0, cs.map .pu⟩]) (h : ownFin res e n sz cs ex env σ) : finQ res 0 C ex env σ := by
  refine fin_mono (A := fun as => ∃ id g, packRes as = .own id g 0 n sz ∧ σ[id]? = some (some ⟨e, g, cs.map .pu⟩)) (by cases ex <;> exact h) ?_
  rintro as ⟨id, g, h1, h2⟩
  exact ⟨[id], _, _, by rw [h1, fin_own h2], hC⟩
theorem contract_own {F : List PV → Option (TypeId × Nat × Nat × List PV)} (hΓ : Known P Γ) (hf : P.funcs[f]? = some fn) (hname : (fn.name == "runtime.NumGoroutine") = false) (hb : fn.body = some c)
    (hc : ccode P c = some (strip vc)) (hres : cres P fn.results.toList = some res) (hd : dstB fn.ntmps vc = true)
    (h : ∀ ps e n sz cs, F ps = some (e, n, sz, cs) → ps.length ≤ fn.ntmps ∧ BW Γ vc (ownFin res e n sz cs) (envFrom 0 (ps.map .pu)) []) : Contract P f (DetO F) := by
  simp only [bw_eq] at h
  refine contract_of_Q hΓ hf hname hb hc hres hd ?_
  rintro as objs K ⟨rfl, ps, e, n, sz, cs, h1, h2, hK⟩
  have e1 := unpus_some h1
  subst e1
  obtain ⟨h3, h4⟩ := h ps e n sz cs h2
  exact ⟨by simpa using h3, _, h4, fun ex env σ k => ownFin_fin hK k⟩
theorem contract_relO {α : Type} {pre : α → Prop} {args : α → List PV} {e : TypeId} {n sz : α → Nat} {cs : α → List PV} (hΓ : Known P Γ) (hf : P.funcs[f]? = some fn) (hname : (fn.name == "runtime.NumGoroutine") = false) (hb : fn.body = some c)
    (hc : ccode P c = some (strip vc)) (hres : cres P fn.results.toList = some res) (hd : dstB fn.ntmps vc = true) (hl : ∀ x, pre x → (args x).length ≤ fn.ntmps)
    (h : ∀ x, pre x → BW Γ vc (ownFin res e (n x) (sz x) (cs x)) (envFrom 0 ((args x).map .pu)) []) : Contract P f (RelO pre args e n sz cs) := by
  simp only [bw_eq] at h
  refine contract_of_Q hΓ hf hname hb hc hres hd ?_
  rintro as objs K ⟨rfl, x, h1, rfl, hK⟩
  exact ⟨by simpa using hl x h1, _, h x h1, fun ex env σ k => ownFin_fin hK k⟩
/-- A new row, for good. -/
theorem Contract.pure {α : Type} {pre : α → Prop} {args : α → List PV} {e : TypeId} {n sz : α → Nat} {cs : α → List PV} (hC : Contract P f (RelO pre args e n sz cs)) (hl : ∀ x, pre x → (cs x).length = n x * sz x) : Contract P f (RelP pre args fun x => .sl (n x) (cs x)) := by
  refine hC.weaken ?_
  rintro as objs K ⟨rfl, x, h1, rfl, hK⟩
  exact ⟨rfl, x, h1, rfl, [], _, _, finOf_nil (renG_own rfl (hl x h1)), hK⟩
theorem contract_relN {α : Type} {pre : α → Prop} {args : α → List PV} {e : TypeId} {cs : α → List PV} (hΓ : Known P Γ) (hf : P.funcs[f]? = some fn) (hname : (fn.name == "runtime.NumGoroutine") = false) (hb : fn.body = some c)
    (hc : ccode P c = some (strip vc)) (hres : cres P fn.results.toList = some res) (hd : dstB fn.ntmps vc = true) (hl : ∀ x, pre x → (args x).length ≤ fn.ntmps)
    (h : ∀ x, pre x → BW Γ vc (newFin res e (cs x)) (envFrom 0 ((args x).map .pu)) []) : Contract P f (RelN e pre args cs) := by
  simp only [bw_eq] at h
  refine contract_of_Q hΓ hf hname hb hc hres hd ?_
  rintro as objs K ⟨rfl, x, h1, rfl, hK⟩
  refine ⟨by simpa using hl x h1, _, h x h1, fun ex env σ k => ?_⟩
  refine fin_mono (A := fun as => ∃ id g cs', packRes as = .ptr id g 0 ∧ σ[id]? = some (some ⟨e, g, cs'⟩) ∧ rensG σ [id] 0 cs' = some ((cs x).map .pu)) (by cases ex <;> exact k) ?_
  rintro as ⟨id, g, cs', k1, k2, k3⟩
  exact ⟨[id], _, _, by rw [k1]; exact fin_new k2 k3, hK⟩
theorem contract_append {e : TypeId} {sz : Nat} {F : List PV → List PV → Option (Nat × Nat × List PV)} (hΓ : Known P Γ) (hf : P.funcs[f]? = some fn) (hname : (fn.name == "runtime.NumGoroutine") = false) (hb : fn.body = some c)
    (hc : ccode P c = some (strip vc)) (hres : cres P fn.results.toList = some res) (hd : dstB fn.ntmps vc = true)
    (h : ∀ g n cs ps k n' cs', cs.length = n * sz → F cs ps = some (k, n', cs') → ps.length + 1 ≤ fn.ntmps ∧ BW Γ vc (appFin res e (g + k) n' sz cs') (envFrom 0 (.own 0 g 0 n sz :: ps.map .pu)) [some ⟨e, g, cs.map .pu⟩]) : Contract P f (DetA e sz F) := by
  simp only [bw_eq] at h
  refine contract_of_Q hΓ hf hname hb hc hres hd ?_
  rintro as objs K ⟨g, n, cs, rest, ps, k, n', cs', rfl, rfl, hl, h1, h2, hK⟩
  have e1 := unpus_some h1
  subst e1
  obtain ⟨h3, h4⟩ := h g n cs ps k n' cs' hl h2
  refine ⟨by simpa using h3, _, h4, fun ex env σ k0 => ?_⟩
  refine fin_mono (A := fun as => packRes as = .own 0 (g + k) 0 n' sz ∧ σ[0]? = some (some ⟨e, g + k, cs'.map .pu⟩)) (by cases ex <;> exact k0) ?_
  rintro as ⟨k1, k2⟩
  exact ⟨[], _, _, by rw [k1]; exact fin_app k2, hK⟩
theorem contract_relM {α : Type} {e : TypeId} {pre : α → Prop} {cells : α → List PV} {args : α → List PV} {out : α → PV} {cells' : α → List PV} (hΓ : Known P Γ) (hf : P.funcs[f]? = some fn) (hname : (fn.name == "runtime.NumGoroutine") = false) (hb : fn.body = some c)
    (hc : ccode P c = some (strip vc)) (hres : cres P fn.results.toList = some res) (hd : dstB fn.ntmps vc = true) (hl : ∀ x, pre x → (args x).length + 1 ≤ fn.ntmps)
    (h : ∀ x g, pre x → BW Γ vc (metFin res e g (out x) (cells' x)) (envFrom 0 (.ptr 0 g 0 :: (args x).map .pu)) [some ⟨e, g, (cells x).map .pu⟩]) : Contract P f (RelM e pre cells args out cells') := by
  simp only [bw_eq] at h
  refine contract_of_Q hΓ hf hname hb hc hres hd ?_
  rintro as objs K ⟨g, x, h1, rfl, rfl, hK⟩
  refine ⟨by simpa using hl x h1, _, h x g h1, fun ex env σ k0 => ?_⟩
  refine fin_mono (A := fun as => renG σ [0] 1 (packRes as) = some (.pu (out x)) ∧ ∃ cs', σ[0]? = some (some ⟨e, g, cs'⟩) ∧ rensG σ [0] 1 cs' = some ((cells' x).map .pu)) (by cases ex <;> exact k0) ?_
  rintro as ⟨k1, cs', k2, k3⟩
  exact ⟨[], _, _, fin_met k1 k2 k3, hK⟩
/-- What a function's code is for the machine. -/
structure IsCode (P : Program) (f : FuncId) (nt : Nat) (vc : VCode) (res : List RV) : Prop where
  ex : ∃ fn c, P.funcs[f]? = some fn ∧ (fn.name == "runtime.NumGoroutine") = false ∧ fn.body = some c ∧ ccode P c = some (strip vc) ∧ cres P fn.results.toList = some res ∧ dstB fn.ntmps vc = true ∧ fn.ntmps = nt
variable {nt : Nat}
theorem IsCode.pure {α : Type} {pre : α → Prop} {args : α → List PV} {out : α → PV} (C : IsCode P f nt vc res) (hΓ : Known P Γ) (hl : ∀ x, pre x → (args x).length ≤ nt)
    (h : ∀ x, pre x → BW Γ vc (pureFin res (out x)) (envFrom 0 ((args x).map .pu)) []) : Contract P f (RelP pre args out) := by
  obtain ⟨fn, c, h1, h2, h3, h4, h5, h6, rfl⟩ := C.ex
  exact contract_rel hΓ h1 h2 h3 h4 h5 h6 hl h
theorem IsCode.own {α : Type} {pre : α → Prop} {args : α → List PV} {e : TypeId} {n sz : α → Nat} {cs : α → List PV} (C : IsCode P f nt vc res) (hΓ : Known P Γ) (hl : ∀ x, pre x → (args x).length ≤ nt)
    (h : ∀ x, pre x → BW Γ vc (ownFin res e (n x) (sz x) (cs x)) (envFrom 0 ((args x).map .pu)) []) : Contract P f (RelO pre args e n sz cs) := by
  obtain ⟨fn, c, h1, h2, h3, h4, h5, h6, rfl⟩ := C.ex
  exact contract_relO hΓ h1 h2 h3 h4 h5 h6 hl h
theorem IsCode.new {α : Type} {pre : α → Prop} {args : α → List PV} {e : TypeId} {cs : α → List PV} (C : IsCode P f nt vc res) (hΓ : Known P Γ) (hl : ∀ x, pre x → (args x).length ≤ nt)
    (h : ∀ x, pre x → BW Γ vc (newFin res e (cs x)) (envFrom 0 ((args x).map .pu)) []) : Contract P f (RelN e pre args cs) := by
  obtain ⟨fn, c, h1, h2, h3, h4, h5, h6, rfl⟩ := C.ex
  exact contract_relN hΓ h1 h2 h3 h4 h5 h6 hl h
theorem IsCode.meth {α : Type} {e : TypeId} {pre : α → Prop} {cells : α → List PV} {args : α → List PV} {out : α → PV} {cells' : α → List PV} (C : IsCode P f nt vc res) (hΓ : Known P Γ) (hl : ∀ x, pre x → (args x).length + 1 ≤ nt)
    (h : ∀ x g, pre x → BW Γ vc (metFin res e g (out x) (cells' x)) (envFrom 0 (.ptr 0 g 0 :: (args x).map .pu)) [some ⟨e, g, (cells x).map .pu⟩]) : Contract P f (RelM e pre cells args out cells') := by
  obtain ⟨fn, c, h1, h2, h3, h4, h5, h6, rfl⟩ := C.ex
  exact contract_relM hΓ h1 h2 h3 h4 h5 h6 hl h
theorem IsCode.app {e : TypeId} {sz : Nat} {F : List PV → List PV → Option (Nat × Nat × List PV)} (C : IsCode P f nt vc res) (hΓ : Known P Γ)
    (h : ∀ g n cs ps k n' cs', cs.length = n * sz → F cs ps = some (k, n', cs') → ps.length + 1 ≤ nt ∧ BW Γ vc (appFin res e (g + k) n' sz cs') (envFrom 0 (.own 0 g 0 n sz :: ps.map .pu)) [some ⟨e, g, cs.map .pu⟩]) : Contract P f (DetA e sz F) := by
  obtain ⟨fn, c, h1, h2, h3, h4, h5, h6, rfl⟩ := C.ex
  exact contract_append hΓ h1 h2 h3 h4 h5 h6 h
theorem IsCode.detP {F : List PV → Option PV} (C : IsCode P f nt vc res) (hΓ : Known P Γ)
    (h : ∀ ps p, F ps = some p → ps.length ≤ nt ∧ BW Γ vc (pureFin res p) (envFrom 0 (ps.map .pu)) []) : Contract P f (DetP F) := by
  obtain ⟨fn, c, h1, h2, h3, h4, h5, h6, rfl⟩ := C.ex
  exact contract_pure hΓ h1 h2 h3 h4 h5 h6 h
theorem IsCode.detO {F : List PV → Option (TypeId × Nat × Nat × List PV)} (C : IsCode P f nt vc res) (hΓ : Known P Γ)
    (h : ∀ ps e n sz cs, F ps = some (e, n, sz, cs) → ps.length ≤ nt ∧ BW Γ vc (ownFin res e n sz cs) (envFrom 0 (ps.map .pu)) []) : Contract P f (DetO F) := by
  obtain ⟨fn, c, h1, h2, h3, h4, h5, h6, rfl⟩ := C.ex
  exact contract_own hΓ h1 h2 h3 h4 h5 h6 h
theorem IsCode.inl (C : IsCode P f nt vc res) (hΓ : Known P Γ) : Contract P f (Inl Γ vc res nt) := by
  obtain ⟨fn, c, h1, h2, h3, h4, h5, h6, rfl⟩ := C.ex
  exact contract_inl hΓ h1 h2 h3 h4 h5 h6
theorem IsCode.gen {α : Type} {pre : α → Prop} {args : α → List AV} {objs : α → List VObj} {out : α → AV} {τ : α → St} (C : IsCode P f nt vc res) (hΓ : Known P Γ) (hl : ∀ x, pre x → (args x).length ≤ nt)
    (h : ∀ x, pre x → BW Γ vc (finQ res (objs x).length fun r t => r = out x ∧ t = τ x) (envFrom 0 (args x)) ((objs x).map some)) : Contract P f (Rel pre args objs out τ) := by
  obtain ⟨fn, c, h1, h2, h3, h4, h5, h6, rfl⟩ := C.ex
  simp only [bw_eq] at h
  refine contract_of_Q hΓ h1 h2 h3 h4 h5 h6 ?_
  rintro as os K ⟨x, k1, rfl, rfl, hK⟩
  refine ⟨hl x k1, _, h x k1, fun ex env σ k => ?_⟩
  have fin : (withRes env σ res fun as => ∃ J r t, finOf σ (objs x).length J (packRes as) = some (r, t) ∧ (r = out x ∧ t = τ x)) → withRes env σ res fun as => ∃ J r t, finOf σ (objs x).length J (packRes as) = some (r, t) ∧ K r t :=
    withRes_mono fun as ⟨J, r, t, q1, q2, q3⟩ => ⟨J, r, t, q1, by rw [q2, q3]; exact hK⟩
  cases ex with
  | exit id => exact k
  | normal => exact fin k
  | ret => exact fin k
end
end Go.Vm
