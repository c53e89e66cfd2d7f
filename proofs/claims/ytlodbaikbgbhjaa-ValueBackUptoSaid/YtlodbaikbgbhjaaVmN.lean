/- Vm, part N: code and functions: the abstract machine's answers are the machine's. -/
import Derived.Test.YtlodbaikbgbhjaaVmM2
set_option linter.unusedVariables false
set_option linter.unusedSimpArgs false
namespace Go.Vm
open Go Go.RowKit

def PostX (w0 : World) (M0 : Mem) (N : Nat) (Z : Nat → Prop) (Q : VExit → Env → St → Prop) : Exit → Act → World → Prop
  | .normal, a, w => Post w0 M0 N Z (Q .normal) a w
  | .exit id, a, w => Post w0 M0 N Z (Q (.exit id)) a w
  | .ret, a, w => Post w0 M0 N Z (Q .ret) a w
  | _, _, _ => False

def dstOps (N : Nat) : List VO → Bool
  | [] => true
  | ⟨some d, _, _⟩ :: r => decide (d < N) && dstOps N r
  | ⟨none, _, _⟩ :: r => dstOps N r
def dstB (N : Nat) : VCode → Bool
  | .seq a b => dstB N a && dstB N b
  | .cond _ a b => dstB N a && dstB N b
  | .block _ a => dstB N a
  | .loop a => dstB N a
  | .scope a => dstB N a
  | .region _ ops => dstOps N ops
  | .draws _ t => dstT N t
  | .keep _ c => dstB N c
  | .join c => dstB N c
  | .stop _ c => dstB N c
  | _ => true

theorem dstOps_mem {N : Nat} : ∀ {l : List VO}, dstOps N l = true → ∀ vo ∈ l, ∀ d, vo.d = some d → d < N
  | [], _, vo, hv, _, _ => by simp at hv
  | ⟨some e, g, op⟩ :: r, h, vo, hv, d, hd => by
    simp only [dstOps, Bool.and_eq_true, decide_eq_true_eq] at h
    rcases List.mem_cons.1 hv with rfl | hv
    · cases hd; exact h.1
    · exact dstOps_mem h.2 vo hv d hd
  | ⟨none, g, op⟩ :: r, h, vo, hv, d, hd => by
    simp only [dstOps] at h
    rcases List.mem_cons.1 hv with rfl | hv
    · cases hd
    · exact dstOps_mem h vo hv d hd

section
variable {P : Program} {Γ : FuncId → Spec} {w0 : World} {M0 : Mem} {N : Nat} {Z : Nat → Prop}

theorem upto_some {k id j : Nat} (h : upto k id = some j) : j = id ∧ id < k := by
  unfold upto at h
  split at h
  · rename_i hb
    exact ⟨by simpa using h.symm, by simpa [Nat.blt_eq] using hb⟩
  · cases h
theorem take_al {σ : St} {β : List (Option Nat)} {k id g : Nat} {B : Option Nat} : (mem (σ.take k) (β.take k) Z).al id = some (g, B) ↔ id < k ∧ (mem σ β Z).al id = some (g, B) := by
  rw [mem_al, mem_al, List.getElem?_take, List.getElem?_take]
  by_cases h : id < k
  · simp [h]
  · simp [h]
theorem okEnv_get {k : Nat} : ∀ {env : Env} {i : Nat} {x : AV}, okEnv k env → get env i = some x → ren (upto k) x = some x
  | [], _, _, _, h => by simp [get] at h
  | (j, a) :: r, i, x, hk, h => by
    simp only [get_cons] at h
    split at h
    · cases h; exact hk.1
    · exact okEnv_get hk.2 h
theorem okSt_get {k : Nat} : ∀ {σ : St} {i : Nat} {o : VObj}, okSt k σ → σ[i]? = some (some o) → rens (upto k) o.cs = some o.cs
  | [], _, _, _, h => by simp at h
  | none :: r, 0, o, hk, h => by simp at h
  | some x :: r, 0, o, hk, h => by
    simp only [List.getElem?_cons_zero, Option.some.injEq] at h
    subst h
    exact hk.1
  | none :: r, i + 1, o, hk, h => okSt_get (σ := r) hk (by simpa using h)
  | some x :: r, i + 1, o, hk, h => okSt_get (σ := r) hk.2 (by simpa using h)
theorem trim_rep {env : Env} {σ : St} {β : List (Option Nat)} {a : Act} {w : World} {L : List Nat} {k : Nat} (hH : Held w0 M0 N Z env σ β a w) (hk : M0.n ≤ k) (h1 : okEnv k (restrict env L)) (h2 : okSt k (σ.take k)) :
    Held w0 M0 N Z (restrict env L) (σ.take k) (β.take k) a w := by
  obtain ⟨hS, hE, hst, hsz, hdf⟩ := hH
  have hlive : ∀ b, (mem (σ.take k) (β.take k) Z).live b → (mem σ β Z).live b := by
    rintro b ⟨id, g, h⟩
    exact ⟨id, g, (take_al.1 h).2⟩
  have hn : (mem (σ.take k) (β.take k) Z).n = min k σ.length := by rw [mem_n, List.length_take]
  have hn0 : (mem σ β Z).n = σ.length := mem_n _ _ _
  have H : ∀ id j, upto k id = some j → id < (mem σ β Z).n → j < (mem (σ.take k) (β.take k) Z).n ∧ ∀ g B, (mem (σ.take k) (β.take k) Z).al j = some (g, B) → (mem σ β Z).al id = some (g, B) := by
    intro id j hj hi
    obtain ⟨rfl, hlt⟩ := upto_some hj
    rw [hn]
    rw [hn0] at hi
    exact ⟨by omega, fun g B h => (take_al.1 h).2⟩
  have HI : ∀ b, (mem σ β Z).imm w b → (mem (σ.take k) (β.take k) Z).imm w b := fun b ⟨q1, q2, q3⟩ => ⟨q1, fun hl => q2 (hlive b hl), q3⟩
  refine ⟨⟨by rw [List.length_take, List.length_take, hS.len], ?_, ?_, hS.avd, fun b h => hS.nav b (hlive b h)⟩, ?_, ?_, hsz, hdf⟩
  · intro id o ho
    have hr := okSt_get h2 ho
    rw [List.getElem?_take] at ho
    split at ho
    · rename_i hid
      rw [List.getElem?_take, if_pos hid]
      rcases hS.obj id o ho with q | ⟨b, arr, q1, q2, q3⟩
      · exact .inl q
      · exact .inr ⟨b, arr, q1, q2, rens_rep H HI _ _ _ hr q3⟩
    · cases ho
  · intro id id' b hne g g' k1 k2
    exact hS.inj id id' b hne g g' (take_al.1 k1).2 (take_al.1 k2).2
  · intro i x hi
    obtain ⟨v, q1, q2⟩ := hE i x (get_restrict L env i x hi)
    exact ⟨v, q1, ren_rep H HI _ _ _ (okEnv_get h1 hi) q2⟩
  · have hn1 := hst.n
    rw [hn0] at hn1
    refine ⟨hst.os, hst.tape, hst.output, hst.size, hst.block, fun b h => hst.alive b (hlive b h), by rw [hn]; omega, fun id g' B' hid h => hst.al id g' B' hid (take_al.1 h).2, hst.av⟩

theorem loop_sound {c : Code} {va : VCode} {Q : VExit → Env → St → Prop} {I J : Nat → Env → St → Prop} {k0 : Nat} (hk0 : M0.n ≤ k0) (hJ : ∀ m e s, J m e s → trimQ k0 (I m) e s) (hI : ∀ n env σ, I n env σ → vwp Γ va (roundQ J n Q) env σ)
    (body : ∀ (Q : VExit → Env → St → Prop) env σ β a w, vwp Γ va Q env σ → Held w0 M0 N Z env σ β a w → c.wp P (PostX w0 M0 N Z Q) a w) (n : Nat) :
    ∀ env σ β a w, I n env σ → Held w0 M0 N Z env σ β a w → ∀ (b : Frame) (k : List Item) (cs : List Frame),
      ∃ e a' w', PostX w0 M0 N Z Q e a' w' ∧ Arrives P (lone (b.at a (.code c :: .inLoop c :: k)) cs w) b k cs e a' w' := by
  induction n using Nat.strongRecOn with
  | ind n ih =>
    intro env σ β a w h hH b k cs
    obtain ⟨e, a₁, w₁, hq, harr⟩ := body _ env σ β a w (hI n env σ h) hH b (.inLoop c :: k) cs
    cases e with
    | normal =>
      obtain ⟨env1, σ1, β1, h1, h2, h3, h4, h5, m, hm, h6⟩ := hq
      have next : ∃ env2 σ2 β2, I m env2 σ2 ∧ Held w0 M0 N Z env2 σ2 β2 a₁ w₁ := by
        rcases hJ m env1 σ1 h6 with q | ⟨L, kk, q1, q2, q3, q4⟩
        · exact ⟨env1, σ1, β1, q, h1, h2, h3, h4, h5⟩
        · exact ⟨_, _, _, q4, trim_rep ⟨h1, h2, h3, h4, h5⟩ (Nat.le_trans hk0 q1) q2 q3⟩
      obtain ⟨env2, σ2, β2, q1, q2⟩ := next
      obtain ⟨e₂, a₂, w₂, hq₂, harr₂⟩ := ih m hm env2 σ2 β2 a₁ w₁ q1 q2 b k cs
      exact ⟨e₂, a₂, w₂, hq₂, .of_steps (Steps.trans harr (.one step_inLoop)) harr₂⟩
    | exit id => exact ⟨.exit id, a₁, w₁, hq, .pass (x := .inLoop c) rfl (fun _ _ => .inl (by simp)) harr⟩
    | goto l => exact hq.elim
    | ret => exact ⟨.ret, a₁, w₁, hq, .pass (x := .inLoop c) rfl (fun _ _ => .inl (by simp)) harr⟩
    | panic ch => exact hq.elim
    | outgrown => exact hq.elim

theorem vwp_sound (hΓ : Known P Γ) : ∀ (vc : VCode) (c : Code) (Q : VExit → Env → St → Prop) (env : Env) (σ : St) (β : List (Option Nat)) (a : Act) (w : World), ccode P c = some (strip vc) → dstB N vc = true → vwp Γ vc Q env σ →
    Held w0 M0 N Z env σ β a w → c.wp P (PostX w0 M0 N Z Q) a w
  | .keep l vc, c, Q, env, σ, β, a, w, hc, hd, h, hH => by
    simp only [vwp, force_eq] at h
    exact vwp_sound hΓ vc c Q (restrict env l) σ β a w hc hd h ⟨hH.S, fun i x hi => hH.E i x (get_restrict l env i x hi), hH.st, hH.sz, hH.df⟩
  | .bad, c, Q, env, σ, β, a, w, hc, hd, h, hH => h.elim
  | .stop l vc, c, Q, env, σ, β, a, w, hc, hd, h, hH => by
    simp only [vwp, force_eq] at h
    obtain ⟨h⟩ := h
    exact vwp_sound hΓ vc c Q (restrict env l) σ β a w hc hd h ⟨hH.S, fun i x hi => hH.E i x (get_restrict l env i x hi), hH.st, hH.sz, hH.df⟩
  | .join vc, c, Q, env, σ, β, a, w, hc, hd, h, hH => by
    obtain ⟨J, h, hJ⟩ := h
    refine wp_mono (vwp_sound hΓ vc c _ env σ β a w hc hd h hH) fun e a1 w1 hq => ?_
    cases e with
    | normal =>
      obtain ⟨env1, σ1, β1, h1, h2, h3, h4, h5, h6⟩ := hq
      exact ⟨env1, σ1, β1, h1, h2, h3, h4, h5, hJ _ _ h6⟩
    | _ => exact hq
  | .skip, c, Q, env, σ, β, a, w, hc, hd, h, hH => by
    have post : PostX w0 M0 N Z Q .normal a w := ⟨env, σ, β, hH.S, hH.E, hH.st, hH.sz, hH.df, h⟩
    simp only [strip] at hc
    cases c <;> first | (simp only [ccode] at hc; exact (cregion_ne hc (fun _ h => by cases h) (fun _ h => by cases h) (fun h => by cases h)).elim) | simp only [ccode, reduceCtorEq, Option.map_eq_some_iff, and_false, exists_false, Option.some.injEq] at hc <;> first
      | exact wp_skip post
      | exact wp_label post
      | (split at hc <;> simp at hc; done)
      | cases hc
  | .seq va vb, c, Q, env, σ, β, a, w, hc, hd, h, hH => by
    simp only [strip] at hc
    simp only [dstB, Bool.and_eq_true] at hd
    cases c <;> first | (simp only [ccode] at hc; exact (cregion_ne hc (fun _ h => by cases h) (fun _ h => by cases h) (fun h => by cases h)).elim) | simp only [ccode, reduceCtorEq, Option.map_eq_some_iff, and_false, exists_false, Option.some.injEq] at hc
    · rename_i x y
      split at hc
      · rename_i a' b' ha hb
        simp only [Option.some.injEq, VCode.seq.injEq] at hc
        obtain ⟨rfl, rfl⟩ := hc
        refine wp_seq (wp_mono (vwp_sound hΓ va x _ env σ β a w ha hd.1 h hH) fun e a1 w1 hq => ?_)
        cases e with
        | normal =>
          obtain ⟨env1, σ1, β1, h1, h2, h3, h4, h5, h6⟩ := hq
          exact vwp_sound hΓ vb y Q env1 σ1 β1 a1 w1 hb hd.2 h6 ⟨h1, h2, h3, h4, h5⟩
        | _ => exact hq
      · cases hc
    · split at hc <;> simp at hc
  | .cond x va vb, c, Q, env, σ, β, a, w, hc, hd, h, hH => by
    simp only [strip] at hc
    simp only [dstB, Bool.and_eq_true] at hd
    cases c <;> first | (simp only [ccode] at hc; exact (cregion_ne hc (fun _ h => by cases h) (fun _ h => by cases h) (fun h => by cases h)).elim) | simp only [ccode, reduceCtorEq, Option.map_eq_some_iff, and_false, exists_false, Option.some.injEq] at hc
    · split at hc <;> simp at hc
    · rename_i cx x1 y1
      split at hc
      · rename_i c' a' b' hx ha hb
        simp only [Option.some.injEq, VCode.cond.injEq] at hc
        obtain ⟨rfl, rfl, rfl⟩ := hc
        simp only [vwp] at h
        split at h
        · rename_i t ht
          have hv := rep_val (rep_opnd hH.E hx ht)
          refine wp_cond hv ?_
          rw [br_eq] at h
          cases t
          · simp only [Bool.false_eq_true, if_false] at h ⊢
            exact vwp_sound hΓ vb y1 Q env σ β a w hb hd.2 h hH
          · simp only [if_true] at h ⊢
            exact vwp_sound hΓ va x1 Q env σ β a w ha hd.1 h hH
        · exact h.elim
      · cases hc
  | .block id va, c, Q, env, σ, β, a, w, hc, hd, h, hH => by
    simp only [strip] at hc
    simp only [dstB] at hd
    cases c <;> first | (simp only [ccode] at hc; exact (cregion_ne hc (fun _ h => by cases h) (fun _ h => by cases h) (fun h => by cases h)).elim) | simp only [ccode, reduceCtorEq, Option.map_eq_some_iff, and_false, exists_false, Option.some.injEq, VCode.block.injEq] at hc
    · split at hc <;> simp at hc
    · split at hc <;> simp at hc
    · obtain ⟨a', ha, rfl, rfl⟩ := hc
      refine wp_block (wp_mono (vwp_sound hΓ va _ _ env σ β a w ha hd h hH) fun e a1 w1 hq => ?_)
      cases e with
      | normal => exact hq
      | exit j =>
        simp only [Exit.inBlock]
        simp only [PostX, blockQ] at hq
        split
        · rename_i hj
          simp only [hj, if_true] at hq
          exact hq
        · rename_i hj
          simp only [hj, if_false] at hq
          exact hq
      | _ => exact hq
  | .loop va, c, Q, env, σ, β, a, w, hc, hd, h, hH => by
    simp only [strip] at hc
    simp only [dstB] at hd
    cases c <;> first | (simp only [ccode] at hc; exact (cregion_ne hc (fun _ h => by cases h) (fun _ h => by cases h) (fun h => by cases h)).elim) | simp only [ccode, reduceCtorEq, Option.map_eq_some_iff, and_false, exists_false, Option.some.injEq, VCode.loop.injEq] at hc
    · split at hc <;> simp at hc
    · split at hc <;> simp at hc
    · obtain ⟨a', ha, rfl⟩ := hc
      obtain ⟨I, J, ⟨n, h⟩, hJ, hI⟩ := h
      intro b k cs
      have hk0 : M0.n ≤ σ.length := hH.st.n
      obtain ⟨e, a1, w1, hq, harr⟩ := loop_sound (P := P) hk0 hJ hI (fun Q' env' σ' β' a2 w2 h2 hH2 => vwp_sound hΓ va _ Q' env' σ' β' a2 w2 ha hd h2 hH2) n env σ β a w h hH b k cs
      exact ⟨e, a1, w1, hq, .of_steps (.one step_loop) harr⟩
  | .scope va, c, Q, env, σ, β, a, w, hc, hd, h, hH => by
    simp only [strip] at hc
    simp only [dstB] at hd
    cases c <;> first | (simp only [ccode] at hc; exact (cregion_ne hc (fun _ h => by cases h) (fun _ h => by cases h) (fun h => by cases h)).elim) | simp only [ccode, reduceCtorEq, Option.map_eq_some_iff, and_false, exists_false, Option.some.injEq, VCode.scope.injEq] at hc
    · split at hc <;> simp at hc
    · split at hc <;> simp at hc
    · obtain ⟨a', ha, rfl⟩ := hc
      refine wp_scope_straight (wp_mono (vwp_sound hΓ va _ _ env σ β a w ha hd h hH) fun e a1 w1 hq => ?_)
      cases e <;> exact hq
  | .exit id, c, Q, env, σ, β, a, w, hc, hd, h, hH => by
    simp only [strip] at hc
    cases c <;> first | (simp only [ccode] at hc; exact (cregion_ne hc (fun _ h => by cases h) (fun _ h => by cases h) (fun h => by cases h)).elim) | simp only [ccode, reduceCtorEq, Option.map_eq_some_iff, and_false, exists_false, Option.some.injEq, VCode.exit.injEq] at hc
    · split at hc <;> simp at hc
    · split at hc <;> simp at hc
    · subst hc
      exact wp_exit ⟨env, σ, β, hH.S, hH.E, hH.st, hH.sz, hH.df, h⟩
  | .ret, c, Q, env, σ, β, a, w, hc, hd, h, hH => by
    simp only [strip] at hc
    cases c <;> first | (simp only [ccode] at hc; exact (cregion_ne hc (fun _ h => by cases h) (fun _ h => by cases h) (fun h => by cases h)).elim) | simp only [ccode, reduceCtorEq, Option.map_eq_some_iff, and_false, exists_false, Option.some.injEq] at hc
    · split at hc <;> simp at hc
    · split at hc <;> simp at hc
    · exact wp_ret ⟨env, σ, β, hH.S, hH.E, hH.st, hH.sz, hH.df, h⟩
  | .region dr vos, c, Q, env, σ, β, a, w, hc, hd, h, hH => by
    simp only [strip] at hc
    have hreg : ∃ rid ops draw, c = .region rid ops draw ∧ cregion P ops draw = some (.region dr (stripOps vos)) := by
      cases c <;> simp only [ccode, reduceCtorEq, Option.map_eq_some_iff, and_false, exists_false, Option.some.injEq] at hc
      all_goals first
        | exact ⟨_, _, _, rfl, hc⟩
        | (split at hc <;> simp at hc; done)
    obtain ⟨rid, ops, draw, rfl, hc⟩ := hreg
    obtain ⟨vs, hvs, ⟨rfl, hv⟩ | ⟨_, t, _, hv⟩ | hv⟩ := cregion_some hc
    · simp only [VCode.region.injEq] at hv
      obtain ⟨rfl, rfl⟩ := hv
      refine wp_region ?_
      have := vops_sound (P := P) (Γ := Γ) (w0 := w0) (M0 := M0) (N := N) (Z := Z) (ops := ops) hΓ (Q := Q .normal) (Q' := PostX w0 M0 N Z Q) (fun a w h => h) vos ops.toList 0 env σ β a w hvs (by simp) (dstOps_mem hd) hH.S hH.E hH.st hH.sz hH.df h
      rwa [Array.length_toList, ← List.range_eq_range'] at this
    · cases hv
    · cases hv
  | .draws l t, c, Q, env, σ, β, a, w, hc, hd, h, hH => by
    simp only [strip] at hc
    have hreg : ∃ rid ops draw, c = .region rid ops draw ∧ cregion P ops draw = some (.draws [] (stripT t)) := by
      cases c <;> simp only [ccode, reduceCtorEq, Option.map_eq_some_iff, and_false, exists_false, Option.some.injEq] at hc
      all_goals first
        | exact ⟨_, _, _, rfl, hc⟩
        | (split at hc <;> simp at hc; done)
    obtain ⟨rid, ops, draw, rfl, hc⟩ := hreg
    obtain ⟨vs, hvs, ⟨_, hv⟩ | ⟨rfl, t', ht, hv⟩ | hv⟩ := cregion_some hc
    · cases hv
    · simp only [VCode.draws.injEq, true_and] at hv
      subst hv
      simp only [vwp] at h
      refine draws_sound (K := fun e s => Q .normal (restrict e l) s) hΓ hvs ht hd ?_ ?_ hH (by simpa only [force_eq] using h)
      · intro e e' s hs hq
        rw [← restrict_congr l (fun t _ => hs t)]
        exact hq
      · rintro a w ⟨env, σ, β, h1, h2, h3, h4, h5, h6⟩
        exact ⟨restrict env l, σ, β, h1, fun i x hi => h2 i x (get_restrict l env i x hi), h3, h4, h5, h6⟩
    · cases hv

end

/-! ### functions -/
inductive RV where
  | t (i : Nat)
  | c (i : Nat) (ag : Bool) (sz : Nat)

def withRes (env : Env) (σ : St) : List RV → (List AV → Prop) → Prop
  | [], Q => Q []
  | .t i :: r, Q => withA (get env i) fun a => withRes env σ r fun as => Q (a :: as)
  | .c i ag sz :: r, Q => match get env i with
    | some (.ptr id g off) => withO σ id g fun o => off + sz ≤ o.cs.length ∧ mkV ag ((o.cs.drop off).take sz) fun a => withRes env σ r fun as => Q (a :: as)
    | _ => False
def mkTup (as : List AV) : AV := match unpus as with
  | some ps => .pu (.tup ps)
  | none => .tup as
def packRes : List AV → AV
  | [a] => a
  | as => mkTup as
def cres (P : Program) : List ResultVar → Option (List RV)
  | [] => some []
  | .tmp t :: r => (cres P r).map (.t t :: ·)
  | .cell i t :: r => match agB P t, szB P t, cres P r with
    | some ag, some sz, some l => some (.c i ag sz :: l)
    | _, _, _ => none

def envFrom : Nat → List AV → Env
  | _, [] => []
  | k, a :: as => (k, a) :: envFrom (k + 1) as

/-! what is left at the end: the objects that were handed in, and those that the result leads to -/
mutual
def renG (σ : St) (K : List Nat) (k : Nat) : AV → Option AV
  | .pu p => some (.pu p)
  | .agg cs => (rensG σ K k cs).map mkAgg
  | .tup cs => (rensG σ K k cs).map mkTup
  | .own id g off n sz => match idx K id with
    | some j => match σ[id]? with
      | some (some o) => if g = o.g then some (.own j (if j < k then g else 0) off n sz) else none
      | _ => none
    | none => (snap σ (.own id g off n sz)).map .pu
  | .ptr id g off => match idx K id with
    | some j => match σ[id]? with
      | some (some o) => if g = o.g then some (.ptr j (if j < k then g else 0) off) else none
      | _ => none
    | none => (snap σ (.ptr id g off)).map .pu
  | .ifc t x => (renG σ K k x).map (.ifc t)
  | .fn f fi ca => match rensG σ K k fi, rensG σ K k ca with
    | some a, some b => some (.fn f a b)
    | _, _ => none
def rensG (σ : St) (K : List Nat) (k : Nat) : List AV → Option (List AV)
  | [] => some []
  | c :: cs => match renG σ K k c, rensG σ K k cs with
    | some a, some b => some (a :: b)
    | _, _ => none
end
def keptG (σ : St) (K : List Nat) (k : Nat) : Nat → List Nat → Option St
  | _, [] => some []
  | j, id :: l => match σ[id]?, keptG σ K k (j + 1) l with
    | some none, some r => some (none :: r)
    | some (some o), some r => match rensG σ K k o.cs with
      | some cs => some (some ⟨o.e, if j < k then o.g else 0, cs⟩ :: r)
      | none => none
    | _, _ => none
def finOf (σ : St) (k : Nat) (J : List Nat) (r : AV) : Option (AV × St) :=
  match renG σ (List.range k ++ J) k r, keptG σ (List.range k ++ J) k 0 (List.range k ++ J) with
  | some r', some τ => if nodupB (List.range k ++ J) then some (r', τ) else none
  | _, _ => none
def finQ (res : List RV) (k : Nat) (C : AV → St → Prop) : VExit → Env → St → Prop
  | .exit _, _, _ => False
  | _, env, σ => withRes env σ res fun as => ∃ J r τ, finOf σ k J (packRes as) = some (r, τ) ∧ C r τ

theorem repA_mkTup {w : World} {M : Mem} {cs : List AV} {vs : List Value} (h : RepAs w M false cs vs) : RepA w M (mkTup cs) (.tuple vs.toArray) := by
  unfold mkTup
  split
  · rename_i ps hps
    rw [unpus_some hps] at h
    simp only [RepA, RepP]
    exact ⟨_, rfl, by simpa using h.to_pu⟩
  · simp only [RepA]
    exact ⟨_, rfl, by simpa using h⟩
section
variable {w : World} {σ : St} {β : List (Option Nat)} {Z : Nat → Prop}

mutual
theorem renG_rep {M' : Mem} {K : List Nat} {k : Nat} (hS : RepS w σ β Z) (HI : ∀ b, (mem σ β Z).imm w b → M'.imm w b)
    (HN : ∀ id, idx K id = none → ∀ g b, (mem σ β Z).al id = some (g, some b) → M'.imm w b)
    (H : ∀ id j o, idx K id = some j → σ[id]? = some (some o) → j < M'.n ∧ ∀ g B, M'.al j = some (g, B) → g = (if j < k then o.g else 0) ∧ (mem σ β Z).al id = some (o.g, B)) :
    ∀ (x y : AV) (v : Value), renG σ K k x = some y → RepA w (mem σ β Z) x v → RepA w M' y v
  | .pu p, y, v, h, hr => by
    simp only [renG, Option.some.injEq] at h
    subst h
    simp only [RepA] at hr ⊢
    exact RepP.mono (fun b hb => ⟨rfl, HI b hb⟩) _ _ hr
  | .agg cs, y, v, h, hr => by
    simp only [renG] at h
    obtain ⟨ds, hd, rfl⟩ := map_some h
    simp only [RepA] at hr
    obtain ⟨vs, rfl, hr⟩ := hr
    have := repA_mkAgg (rensG_rep hS HI HN H _ _ _ hd hr)
    simpa using this
  | .tup cs, y, v, h, hr => by
    simp only [renG] at h
    obtain ⟨ds, hd, rfl⟩ := map_some h
    simp only [RepA] at hr
    obtain ⟨vs, rfl, hr⟩ := hr
    have := repA_mkTup (rensG_rep hS HI HN H _ _ _ hd hr)
    simpa using this
  | .own id g off n sz, y, v, h, hr => by
    simp only [renG] at h
    split at h
    · rename_i j hj
      split at h
      · rename_i o ho
        split at h
        · rename_i hg
          subst hg
          simp only [Option.some.injEq] at h
          subst h
          obtain ⟨h1, h2⟩ := H id j o hj ho
          simp only [RepA] at hr ⊢
          refine ⟨hr.1, h1, fun g' B hal => ?_⟩
          obtain ⟨rfl, hal'⟩ := h2 g' B hal
          exact ⟨Nat.le_refl _, fun _ => (hr.2.2 _ _ hal').2 rfl⟩
        · cases h
      · cases h
    · rename_i hj
      obtain ⟨p, hp, rfl⟩ := map_some h
      simp only [RepA]
      exact snap_rep hS HI _ _ _ hp hr (fun id' hid g' b hal => by
        simp only [ids, List.mem_singleton] at hid
        subst hid
        exact HN _ hj g' b hal)
  | .ptr id g off, y, v, h, hr => by
    simp only [renG] at h
    split at h
    · rename_i j hj
      split at h
      · rename_i o ho
        split at h
        · rename_i hg
          subst hg
          simp only [Option.some.injEq] at h
          subst h
          obtain ⟨h1, h2⟩ := H id j o hj ho
          simp only [RepA] at hr ⊢
          refine ⟨hr.1, h1, fun g' B hal => ?_⟩
          obtain ⟨rfl, hal'⟩ := h2 g' B hal
          exact ⟨Nat.le_refl _, fun _ => (hr.2.2 _ _ hal').2 rfl⟩
        · cases h
      · cases h
    · rename_i hj
      obtain ⟨p, hp, rfl⟩ := map_some h
      simp only [RepA]
      exact snap_rep hS HI _ _ _ hp hr (fun id' hid g' b hal => by
        simp only [ids, List.mem_singleton] at hid
        subst hid
        exact HN _ hj g' b hal)
  | .ifc t x, y, v, h, hr => by
    simp only [renG] at h
    obtain ⟨z, hz, rfl⟩ := map_some h
    simp only [RepA] at hr ⊢
    obtain ⟨u, rfl, hr⟩ := hr
    exact ⟨u, rfl, renG_rep hS HI HN H _ _ _ hz hr⟩
  | .fn f fi ca, y, v, h, hr => by
    simp only [renG] at h
    split at h
    · rename_i a b ha hb
      simp only [Option.some.injEq] at h
      subst h
      simp only [RepA] at hr ⊢
      obtain ⟨u, u', rfl, h1, h2⟩ := hr
      exact ⟨u, u', rfl, rensG_rep hS HI HN H _ _ _ ha h1, rensG_rep hS HI HN H _ _ _ hb h2⟩
    · cases h
theorem rensG_rep {M' : Mem} {K : List Nat} {k : Nat} {one : Bool} (hS : RepS w σ β Z) (HI : ∀ b, (mem σ β Z).imm w b → M'.imm w b)
    (HN : ∀ id, idx K id = none → ∀ g b, (mem σ β Z).al id = some (g, some b) → M'.imm w b)
    (H : ∀ id j o, idx K id = some j → σ[id]? = some (some o) → j < M'.n ∧ ∀ g B, M'.al j = some (g, B) → g = (if j < k then o.g else 0) ∧ (mem σ β Z).al id = some (o.g, B)) :
    ∀ (xs ys : List AV) (vs : List Value), rensG σ K k xs = some ys → RepAs w (mem σ β Z) one xs vs → RepAs w M' one ys vs
  | [], ys, vs, h, hr => by
    simp only [rensG, Option.some.injEq] at h
    subst h
    simpa only [RepAs] using hr
  | c :: cs, ys, vs, h, hr => by
    simp only [rensG] at h
    split at h
    · rename_i a b ha hb
      simp only [Option.some.injEq] at h
      subst h
      simp only [RepAs] at hr ⊢
      obtain ⟨u, us, rfl, h0, h1, h2⟩ := hr
      exact ⟨u, us, rfl, h0, renG_rep hS HI HN H _ _ _ ha h1, rensG_rep hS HI HN H _ _ _ hb h2⟩
    · cases h
end

theorem rensG_length {K : List Nat} {k : Nat} : ∀ {xs ys : List AV}, rensG σ K k xs = some ys → ys.length = xs.length
  | [], ys, h => by simp [rensG] at h; subst h; rfl
  | x :: xs, ys, h => by
    simp only [rensG] at h
    split at h
    · rename_i a b' ha hb'
      simp only [Option.some.injEq] at h
      subst h
      simp [rensG_length hb']
    · cases h

theorem keptG_some {K : List Nat} {k : Nat} : ∀ {l : List Nat} {i : Nat} {τ : St}, keptG σ K k i l = some τ → τ.length = l.length ∧
    ∀ (j id : Nat), l[j]? = some id → (σ[id]? = some none ∧ τ[j]? = some none) ∨ ∃ (o : VObj) (cs : List AV), σ[id]? = some (some o) ∧ rensG σ K k o.cs = some cs ∧ τ[j]? = some (some (VObj.mk o.e (if i + j < k then o.g else 0) cs))
  | [], i, τ, h => by simp only [keptG, Option.some.injEq] at h; subst h; exact ⟨rfl, by simp⟩
  | id0 :: l, i, τ, h => by
    simp only [keptG] at h
    split at h
    · rename_i r h1 h2
      simp only [Option.some.injEq] at h
      subst h
      obtain ⟨k1, k2⟩ := keptG_some h2
      refine ⟨by simp [k1], fun j id hj => ?_⟩
      cases j with
      | zero => simp at hj; subst hj; exact .inl ⟨h1, by simp⟩
      | succ j =>
        simp at hj
        have := k2 j id hj
        simpa [Nat.add_assoc, Nat.add_comm 1] using this
    · rename_i o r h1 h2
      split at h
      · rename_i cs hcs
        simp only [Option.some.injEq] at h
        subst h
        obtain ⟨k1, k2⟩ := keptG_some h2
        refine ⟨by simp [k1], fun j id hj => ?_⟩
        cases j with
        | zero => simp at hj; subst hj; exact .inr ⟨o, cs, h1, hcs, by simp⟩
        | succ j =>
          simp at hj
          have := k2 j id hj
          simpa [Nat.add_assoc, Nat.add_comm 1] using this
      · cases h
    · cases h

theorem fin_rep {k : Nat} {J : List Nat} {r0 r : AV} {τ : St} {v : Value} {w0 : World} {M0 : Mem} (hS : RepS w σ β Z) (hst : Step w0 M0 w (mem σ β Z)) (hk : M0.n = k) (hr : RepA w (mem σ β Z) r0 v) (h : finOf σ k J r0 = some (r, τ)) :
    ∃ β', Step w0 M0 w (mem τ β' Z) ∧ RepS w τ β' Z ∧ RepA w (mem τ β' Z) r v := by
  unfold finOf at h
  split at h
  · rename_i r' τ' hr' hτ
    split at h
    · rename_i hn
      simp only [Option.some.injEq, Prod.mk.injEq] at h
      obtain ⟨rfl, rfl⟩ := h
      obtain ⟨hl, hkp⟩ := keptG_some hτ
      generalize hK : List.range k ++ J = K at hr' hτ hn hl hkp
      refine ⟨subBlocks β K, ?_⟩
      have hal : ∀ j g B, (mem τ' (subBlocks β K) Z).al j = some (g, B) → ∃ id o, K[j]? = some id ∧ σ[id]? = some (some o) ∧ g = (if j < k then o.g else 0) ∧ (mem σ β Z).al id = some (o.g, B) := by
        intro j g B hal
        obtain ⟨o, h1, h2, h3⟩ := mem_al.1 hal
        have hj : j < K.length := by rw [← hl]; exact (List.getElem?_eq_some_iff.1 h1).1
        have hid : K[j]? = some K[j] := List.getElem?_eq_getElem hj
        rcases hkp j _ hid with ⟨_, q⟩ | ⟨o', cs, q1, q2, q3⟩
        · rw [h1] at q; cases q
        · rw [h1] at q3
          cases q3
          refine ⟨_, o', hid, q1, by rw [← h2]; simp, mem_al.2 ⟨o', q1, rfl, ?_⟩⟩
          rw [← h3, subBlocks]
          simp [hj]
      have hlive : ∀ b, (mem τ' (subBlocks β K) Z).live b → (mem σ β Z).live b := by
        rintro b ⟨j, g, h⟩
        obtain ⟨id, o, _, _, _, h5⟩ := hal j g _ h
        exact ⟨id, o.g, h5⟩
      have HI : ∀ b, (mem σ β Z).imm w b → (mem τ' (subBlocks β K) Z).imm w b := fun b ⟨h1, h2, h3⟩ => ⟨h1, fun hl => h2 (hlive b hl), h3⟩
      have H : ∀ (id j : Nat) (o : VObj), idx K id = some j → σ[id]? = some (some o) → j < (mem τ' (subBlocks β K) Z).n ∧ ∀ g B, (mem τ' (subBlocks β K) Z).al j = some (g, B) → g = (if j < k then o.g else 0) ∧ (mem σ β Z).al id = some (o.g, B) := by
        intro id j o hj ho
        have h1 := idx_some hj
        refine ⟨by have := (List.getElem?_eq_some_iff.1 h1).1; simp [mem]; omega, fun g B h => ?_⟩
        obtain ⟨id', o', k1, k2, k3, k4⟩ := hal j g B h
        rw [h1] at k1
        cases k1
        rw [ho] at k2
        cases k2
        exact ⟨k3, k4⟩
      have HN : ∀ id, idx K id = none → ∀ g b, (mem σ β Z).al id = some (g, some b) → (mem τ' (subBlocks β K) Z).imm w b := by
        intro id hno g b hal'
        refine ⟨hS.lt ⟨id, g, hal'⟩, fun hl => ?_, fun hz => hS.nav b ⟨id, g, hal'⟩ hz⟩
        obtain ⟨j, g', h⟩ := hl
        obtain ⟨id', o, q1, _, _, q4⟩ := hal j g' _ h
        refine hS.inj id' id b (fun e => ?_) _ _ q4 hal'
        subst e
        have : ∀ (K : List Nat) (j : Nat), K[j]? = some id' → idx K id' ≠ none := by
          intro K
          induction K with
          | nil => intro j h; simp at h
          | cons x K ih =>
            intro j h
            simp only [idx]
            split
            · simp
            · rename_i hx
              cases j with
              | zero => simp at h; exact absurd h hx
              | succ j => simp at h; have := ih j h; simpa using this
        exact this K j q1 hno
      refine ⟨⟨hst.os, hst.tape, hst.output, hst.size, hst.block, fun b hb => hst.alive b (hlive b hb), ?_, ?_, hst.av⟩, ⟨by simp [subBlocks, hl], ?_, ?_, hS.avd, fun b hb => hS.nav b (hlive b hb)⟩, renG_rep hS HI HN H _ _ _ hr' hr⟩
      · rw [mem_n, hl, ← hK, hk]
        simp
      · intro id g' B' hid h
        obtain ⟨id', o, h1, h2, h3, h4⟩ := hal id g' B' h
        rw [hk] at hid
        have : id' = id := by
          rw [← hK, List.getElem?_append_left (by simpa using hid)] at h1
          simpa [List.getElem?_range hid] using h1.symm
        subst this
        rw [if_pos hid] at h3
        subst h3
        exact hst.al id' o.g B' (by rw [hk]; exact hid) h4
      · intro j o hj
        have hjl : j < K.length := by rw [← hl]; exact (List.getElem?_eq_some_iff.1 hj).1
        have hid : K[j]? = some K[j] := List.getElem?_eq_getElem hjl
        have hb : (subBlocks β K)[j]? = some (β[K[j]]?).join := by simp [subBlocks, hjl]
        rw [hb]
        rcases hkp j _ hid with ⟨_, q⟩ | ⟨o', cs, q1, q2, q3⟩
        · rw [hj] at q; cases q
        · rw [hj] at q3
          cases q3
          rcases hS.obj _ _ q1 with ⟨h1, h2⟩ | ⟨b, arr, h1, h2, h3⟩
          · refine .inl ⟨by rw [h1]; rfl, ?_⟩
            rw [h2] at q2
            simp [rensG] at q2
            exact q2
          · refine .inr ⟨b, arr, by rw [h1]; rfl, h2, ?_⟩
            show RepAs w _ true cs (arr.toList.take cs.length)
            rw [rensG_length q2]
            exact rensG_rep hS HI HN H _ _ _ q2 h3
      · intro i j b hij g g' h1 h2
        obtain ⟨id, o, k1, k2, k3, k4⟩ := hal i g _ h1
        obtain ⟨id', o', q1, q2, q3, q4⟩ := hal j g' _ h2
        refine hS.inj id id' b (fun e => ?_) _ _ k4 q4
        subst e
        exact hij (nodup_inj hn k1 q1)
    · cases h
  · cases h

end

section
variable {P : Program} {w : World} {σ : St} {β : List (Option Nat)} {Z : Nat → Prop} {env : Env} {a : Act}

def resOne (tmps : Array Value) : ResultVar → Sem Value
  | .tmp t => pure (tmps.getD t undef)
  | .cell i t => do loadVar t (← asAddr (tmps.getD i undef))
theorem results_eq (fn : Func) (tmps : Array Value) : results fn tmps = (do let vs ← fn.results.mapM (resOne tmps); pure (if h : vs.size = 1 then vs[0] else .tuple vs)) := by
  unfold results
  congr 1

theorem res_rep (hS : RepS w σ β Z) (hE : RepE w (mem σ β Z) env a.tmps) : ∀ (rs : List ResultVar) (res : List RV) (K : List AV → Prop), cres P rs = some res → withRes env σ res K →
    ∃ as vs, K as ∧ (rs.mapM (resOne a.tmps)).run P w = .ok vs w ∧ RepAs w (mem σ β Z) false as vs
  | [], res, K, hc, h => by
    simp only [cres, Option.some.injEq] at hc
    subst hc
    exact ⟨[], [], h, by simp, by simp [RepAs]⟩
  | .tmp t :: rs, res, K, hc, h => by
    simp only [cres] at hc
    obtain ⟨r, hr, rfl⟩ := map_some hc
    simp only [withRes] at h
    obtain ⟨x, hx, h⟩ := withA_some h
    obtain ⟨as, vs, h1, h2, h3⟩ := res_rep hS hE rs r _ hr h
    obtain ⟨v, hv1, hv2⟩ := hE t x hx
    refine ⟨x :: as, v :: vs, h1, ?_, by simp only [RepAs]; exact ⟨v, vs, rfl, by simp, hv2, h3⟩⟩
    rw [List.mapM_cons]
    simp only [Sem.run_bind, Sem.run_pure, Result.andThen_ok, h2, resOne]
    simp [hv1]
  | .cell i t :: rs, res, K, hc, h => by
    simp only [cres] at hc
    split at hc
    · rename_i ag sz r ha hz hr
      simp only [Option.some.injEq] at hc
      subst hc
      simp only [withRes] at h
      split at h
      · rename_i id g off hp
        obtain ⟨ob, hob, rfl, hl, h⟩ := withO_some h
        obtain ⟨u, hu1, hu2⟩ := hE i _ hp
        obtain ⟨b, arr, hb, hv, hw, hcs, hsz⟩ := rep_ptr hS hob hu2
        have hR : Reads w ⟨b, off, none⟩ ((arr.toList.take ob.cs.length).drop off) := by
          have := (reads_block off hw).take (ob.cs.length - off)
          rwa [← List.drop_take] at this
        have hrr : RepAs w (mem σ β Z) true ((ob.cs.drop off).take sz) (((arr.toList.take ob.cs.length).drop off).take sz) := (hcs.drop off).take sz
        have hlen : ((arr.toList.take ob.cs.length).drop off).length = ob.cs.length - off := by simp; omega
        obtain ⟨k1, k2⟩ := run_loadVar (P := P) ha hz hR (by rw [hlen]; omega)
        obtain ⟨x, hq, q1, q2⟩ := mkV_rep hrr h
        obtain ⟨as, vs, h1, h2, h3⟩ := res_rep hS hE rs r _ hr hq
        have hval : ∃ v, (loadVar t ⟨b, off, none⟩).run P w = .ok v w ∧ RepA w (mem σ β Z) x v := by
          cases ag
          · obtain ⟨v, hv1, hv2⟩ := q2 rfl
            refine ⟨v, k2 rfl v ?_, hv2⟩
            have h0 : (((arr.toList.take ob.cs.length).drop off).take sz)[0]? = some v := by rw [hv1]; rfl
            rw [List.getElem?_take] at h0
            split at h0
            · exact h0
            · cases h0
          · exact ⟨_, k1 rfl, q1 rfl⟩
        obtain ⟨v, hv1, hv2⟩ := hval
        refine ⟨x :: as, v :: vs, h1, ?_, by simp only [RepAs]; exact ⟨v, vs, rfl, by simp, hv2, h3⟩⟩
        rw [List.mapM_cons]
        have hge : a.tmps.getD i undef = u := by simp [hu1]
        simp only [Sem.run_bind, resOne, hge, hv, asAddr, Sem.run_pure, Result.andThen_ok, hv1, h2]
      · exact h.elim
    · cases hc

theorem repA_pack {M : Mem} {as : List AV} {vs : List Value} (h : RepAs w M false as vs) : RepA w M (packRes as) (if hh : vs.toArray.size = 1 then vs.toArray[0] else .tuple vs.toArray) := by
  have hl := h.length
  have tup : as.length ≠ 1 → packRes as = mkTup as := by
    intro hn
    match as, hn with
    | [], _ => rfl
    | [x], hn => simp at hn
    | x :: y :: r, _ => rfl
  by_cases h1 : as.length = 1
  · match as, h1 with
    | [x], _ =>
      simp only [RepAs] at h
      obtain ⟨u, us, rfl, _, hx, rfl⟩ := h
      simpa [packRes] using hx
  · rw [dif_neg (by simpa [hl] using h1), tup h1]
    unfold mkTup
    split
    · rename_i ps hps
      rw [unpus_some hps] at h
      simp only [RepA, RepP]
      exact ⟨_, rfl, by simpa using h.to_pu⟩
    · simp only [RepA]
      exact ⟨_, rfl, by simpa using h⟩

theorem get_envFrom : ∀ (as : List AV) (k i : Nat) (x : AV), get (envFrom k as) i = some x → k ≤ i ∧ as[i - k]? = some x
  | [], k, i, x, h => by simp [envFrom, get] at h
  | a :: as, k, i, x, h => by
    simp only [envFrom, get_cons] at h
    split at h
    · rename_i hk
      subst hk
      simpa using h
    · rename_i hk
      obtain ⟨h1, h2⟩ := get_envFrom as (k + 1) i x h
      refine ⟨by omega, ?_⟩
      have : i - k = (i - (k + 1)) + 1 := by omega
      rw [this]
      simpa using h2

theorem contract_of_Q {Γ : FuncId → Spec} {f : FuncId} {fn : Func} {c : Code} {vc : VCode} {res : List RV} {R : Spec} (hΓ : Known P Γ) (hf : P.funcs[f]? = some fn) (hname : (fn.name == "runtime.NumGoroutine") = false) (hb : fn.body = some c)
    (hc : ccode P c = some (strip vc)) (hres : cres P fn.results.toList = some res) (hd : dstB fn.ntmps vc = true)
    (h : ∀ as objs K, R as objs K → as.length ≤ fn.ntmps ∧ ∃ Q, vwp Γ vc Q (envFrom 0 as) (objs.map some) ∧ ∀ e env σ, Q e env σ → finQ res objs.length K e env σ) : Contract P f R := by
  refine ⟨⟨fn, hf, hname, by rw [hb]; rfl⟩, fun w objs β Z vs as K hS has hR => ?_⟩
  obtain ⟨hlen, Q, hv, hQ⟩ := h as objs K hR
  have hvl := has.length
  refine calls_of_wp hf hb ?_
  have hE : RepE w (mem (objs.map some) β Z) (envFrom 0 as) (vs.toArray ++ Array.replicate (fn.ntmps - vs.toArray.size) undef) := by
    intro i x hi
    obtain ⟨_, h2⟩ := get_envFrom as 0 i x hi
    simp only [Nat.sub_zero] at h2
    obtain ⟨v, h3, _, h4⟩ := has.get h2
    refine ⟨v, ?_, h4⟩
    have hlt : i < vs.length := (List.getElem?_eq_some_iff.1 h3).1
    rw [Array.getElem?_append_left (by simpa using hlt)]
    simpa using h3
  have hsz : (vs.toArray ++ Array.replicate (fn.ntmps - vs.toArray.size) undef).size = fn.ntmps := by simp; omega
  refine wp_mono (vwp_sound (w0 := w) (M0 := mem (objs.map some) β Z) (N := fn.ntmps) (Z := Z) hΓ vc c _ (envFrom 0 as) (objs.map some) β _ w hc hd hv ⟨hS, hE, Step.refl _ _, hsz, rfl⟩) fun e a' w' hq0 => ?_
  have hq : PostX w (mem (objs.map some) β Z) fn.ntmps Z (finQ res objs.length K) e a' w' := by
    cases e <;> first
      | exact hq0
      | (obtain ⟨env1, σ1, β1, h1, h2, h3, h4, h5, h6⟩ := hq0; exact ⟨env1, σ1, β1, h1, h2, h3, h4, h5, hQ _ _ _ h6⟩)
  clear hq0
  have fin : ∀ (a' : Act) (w' : World), Post w (mem (objs.map some) β Z) fn.ntmps Z (fun env σ => withRes env σ res fun as => ∃ J r τ, finOf σ objs.length J (packRes as) = some (r, τ) ∧ K r τ) a' w' →
      a'.defers = [] ∧ ∃ v, (results fn a'.tmps).run P w' = .ok v w' ∧ ∃ v' β' r τ, Ending.returned v = .returned v' ∧ Step w (mem (objs.map some) β Z) w' (mem τ β' Z) ∧ RepS w' τ β' Z ∧ RepA w' (mem τ β' Z) r v' ∧ K r τ := by
    intro a' w' ⟨env, σ, β1, h1, h2, h3, h4, h5, h6⟩
    refine ⟨h5, ?_⟩
    obtain ⟨as', vs', ⟨J, r, τ, hJ, hK⟩, hrun, hrep⟩ := res_rep (P := P) (a := a') h1 h2 fn.results.toList res _ hres h6
    obtain ⟨β', q1, q2, q3⟩ := fin_rep h1 h3 (by simp [mem]) (repA_pack hrep) hJ
    refine ⟨_, ?_, _, β', r, τ, rfl, q1, q2, q3, hK⟩
    have hrun' : (fn.results.mapM (resOne a'.tmps)).run P w' = .ok vs'.toArray w' := by
      rw [Array.mapM_eq_mapM_toList]
      simp only [Sem.run_map]
      rw [hrun]
      rfl
    rw [results_eq, Sem.run_bind, hrun']
    rfl
  cases e with
  | normal => exact fin a' w' hq
  | ret => exact fin a' w' hq
  | exit id =>
    obtain ⟨env, σ, β1, _, _, _, _, _, h6⟩ := hq
    exact h6.elim
  | goto l => exact hq.elim
  | panic ch => exact hq.elim
  | outgrown => exact hq.elim

theorem contract_of {Γ : FuncId → Spec} {f : FuncId} {fn : Func} {c : Code} {vc : VCode} {res : List RV} {R : Spec} (hΓ : Known P Γ) (hf : P.funcs[f]? = some fn) (hname : (fn.name == "runtime.NumGoroutine") = false) (hb : fn.body = some c)
    (hc : ccode P c = some (strip vc)) (hres : cres P fn.results.toList = some res) (hd : dstB fn.ntmps vc = true)
    (h : ∀ as objs K, R as objs K → as.length ≤ fn.ntmps ∧ vwp Γ vc (finQ res objs.length K) (envFrom 0 as) (objs.map some)) : Contract P f R :=
  contract_of_Q hΓ hf hname hb hc hres hd fun as objs K hR => ⟨(h as objs K hR).1, _, (h as objs K hR).2, fun _ _ _ h => h⟩

/-- A specification that asks for less, or for what is left of a result where its objects are let go. -/
theorem Contract.weaken {f : FuncId} {R R' : Spec} (hC : Contract P f R) (h : ∀ as objs K, R' as objs K → R as objs fun r τ => ∃ J r' τ', finOf τ objs.length J r = some (r', τ') ∧ K r' τ') : Contract P f R' := by
  refine ⟨hC.1, fun w objs β Z vs as K hS has hR => ?_⟩
  refine (hC.2 w objs β Z vs as _ hS has (h as objs K hR)).mono fun e w' h' => ?_
  obtain ⟨v, β', r, τ, rfl, h1, h2, h3, J, r', τ', hJ, hK⟩ := h'
  obtain ⟨β'', q1, q2, q3⟩ := fin_rep h2 h1 (by simp [mem]) h3 hJ
  exact ⟨v, β'', r', τ', rfl, q1, q2, q3, hK⟩

end

end Go.Vm
