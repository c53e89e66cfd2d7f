/- Vm, part G: soundness of conversions, interfaces, functions, cuts, addresses, lengths. -/
import Derived.Test.YtlodbaikbgbhjaaVmF
import Derived.Laws.BytesArg
set_option linter.unusedVariables false
set_option linter.unusedSimpArgs false
namespace Go.Vm
open Go Go.RowKit

section
variable {P : Program} {o : Oper} {a : Act} {w : World} {σ : St} {β : List (Option Nat)} {Z : Nat → Prop} {Q : AV → St → Prop} {env : Env}

theorem rep_own {id off n sz : Nat} {ob : VObj} {v : Value} (hS : RepS w σ β Z) (hid : σ[id]? = some (some ob)) (h : RepA w (mem σ β Z) (.own id ob.g off n sz) v) :
    (β[id]? = some none ∧ ob.cs = [] ∧ v = .slice none 0 0 ∧ n = 0 ∧ off = 0) ∨
    ∃ b c arr, β[id]? = some (some b) ∧ v = .slice (some ⟨b, off, none⟩) n c ∧ n ≤ c ∧ c ≤ maxLen ∧ w.heap[b]? = some (.cells arr ob.e (0, 0)) ∧ (off + c * sz ≤ arr.size ∧ (off = 0 → c * sz = arr.size)) ∧
      RepAs w (mem σ β Z) true ob.cs (arr.toList.take ob.cs.length) ∧ ob.cs.length ≤ arr.size := by
  simp only [RepA] at h
  obtain ⟨_, hlt, h⟩ := h
  have hlt : id < β.length := by rw [hS.len]; exact hlt
  have hB : β[id]? = some β[id] := List.getElem?_eq_getElem hlt
  have h1 := (h _ _ (al_obj hid hB)).2 rfl
  rcases obj_block hS hid with ⟨k1, k2⟩ | ⟨b, arr, k1, k2, k3, k4⟩
  · rw [hB] at k1
    rcases h1 with ⟨h2, h3, h4, h5⟩ | ⟨b, c, arr, e, h2, _⟩
    · exact .inl ⟨by rw [hB]; exact k1, k2, h3, h4, h5⟩
    · simp only [Option.some.injEq] at k1; rw [k1] at h2; cases h2
  · rw [hB] at k1
    simp only [Option.some.injEq] at k1
    rcases h1 with ⟨h2, _⟩ | ⟨b', c, arr', e, h2, h3, h4, h5, h6, h7⟩
    · rw [k1] at h2; cases h2
    · rw [k1] at h2
      cases h2
      rw [k2] at h6
      cases h6
      exact .inr ⟨b, c, arr, by rw [hB, k1], h3, h4, h5, k2, h7, k3, k4⟩

theorem imm_mono {M : Mem} {w' : World} : True := trivial

theorem withCells_rep {sz : Nat} {b : AV} {v : Value} {K : Nat → List PV → Prop} (hS : RepS w σ β Z) (hr : RepA w (mem σ β Z) b v) (h : withCells σ sz b K) :
    ∃ n ps vs A c, K n ps ∧ v = .slice A n c ∧ n ≤ c ∧ ps.length = n * sz ∧ RepPs w ((mem σ β Z).imm w) true ps vs ∧ (∀ ad, A = some ad → Reads w ad vs) ∧ (A = none → n = 0 ∨ sz = 0) := by
  unfold withCells at h
  split at h
  · rename_i n cs
    obtain ⟨hl, hk⟩ := h
    simp only [RepA, RepP] at hr
    obtain ⟨A, c, rfl, h1, h2, h3⟩ := hr
    rcases h3 with rfl | ⟨ad, vs, rfl, _, h5, h6⟩
    · refine ⟨n, [], [], A, c, hk, rfl, h1, hl, by simp [RepPs], fun ad _ j u hj => by simp at hj, fun _ => ?_⟩
      simp at hl
      rcases Nat.eq_zero_or_pos n with h | h
      · exact .inl h
      · rcases Nat.eq_zero_or_pos sz with h' | h'
        · exact .inr h'
        · have := Nat.mul_pos h h'; omega
    · exact ⟨n, cs, vs, some ad, c, hk, rfl, h1, hl, h6, fun ad' e => by cases e; exact h5, by simp⟩
  · have e1 := rep_val hr
    subst e1
    exact ⟨0, [], [], none, 0, h, rfl, Nat.le_refl _, by simp, by simp [RepPs], fun ad e => by (cases e), fun _ => .inl rfl⟩
  · rename_i id g off n s
    obtain ⟨rfl, h⟩ := h
    obtain ⟨ob, hob, rfl, hk⟩ := withO_some h
    clear h
    obtain ⟨ps, hps, hl, hk⟩ := hk
    rcases rep_own hS hob hr with ⟨_, k2, rfl, rfl, rfl⟩ | ⟨bb, c, arr, k1, rfl, k3, k4, k5, k6, k7, k8⟩
    · rw [k2] at hps
      simp [unpus] at hps
      subst hps
      exact ⟨0, [], [], none, 0, hk, rfl, Nat.le_refl _, by simp, by simp [RepPs], fun ad e => by (cases e), fun _ => .inl rfl⟩
    · have hcs : RepAs w (mem σ β Z) true ((ob.cs.drop off).take (n * s)) (((arr.toList.take ob.cs.length).drop off).take (n * s)) := (k7.drop off).take (n * s)
      rw [unpus_some hps] at hcs
      refine ⟨n, ps, _, _, c, hk, rfl, k3, hl, hcs.to_pu, fun ad e => ?_, by simp⟩
      cases e
      have := ((reads_block off k5).take (ob.cs.length - off)).take (n * s)
      rwa [← List.drop_take] at this
  · exact h.elim

theorem run_load_cells {sz n : Nat} {ps : List PV} {vs : List Value} {I : Nat → Prop} {ad : Addr} (hl : ps.length = n * sz) (hp : RepPs w I true ps vs) (hr : Reads w ad vs) : (loadCells ad (n * sz)).run P w = .ok vs.toArray w := by
  have := run_loadCells_list (P := P) w ad vs hr
  rwa [hp.length, hl] at this

theorem unbytes_some : ∀ {ps : List PV} {xs : List Int}, unbytes ps = some xs → ps = pbytes xs
  | [], xs, h => by simp [unbytes] at h; subst h; rfl
  | p :: r, xs, h => by
    unfold unbytes at h
    split at h
    · rename_i h0; simp at h; subst h; cases h0
    · rename_i x r' h0
      cases h0
      simp only [Option.map_eq_some_iff] at h
      obtain ⟨ys, h1, rfl⟩ := h
      simp [pbytes, unbytes_some h1]
    · cases h
theorem unbytes_pbytes (xs : List Int) : unbytes (pbytes xs) = some xs := by
  induction xs with
  | nil => rfl
  | cons x xs ih => simpa [pbytes, unbytes] using ih
theorem repPs_pbytes {I : Nat → Prop} : ∀ {xs : List Int} {vs : List Value}, RepPs w I true (pbytes xs) vs → vs = xs.map (Value.int .u8)
  | [], vs, h => by simpa [pbytes, RepPs] using h
  | x :: xs, vs, h => by
    simp only [pbytes, List.map_cons, RepPs] at h
    obtain ⟨u, us, rfl, _, h1, h2⟩ := h
    have : us = xs.map (Value.int .u8) := repPs_pbytes h2
    simp only [RepP] at h1
    simp [h1, this]
theorem repPs_pbytes_mk {I : Nat → Prop} : ∀ (xs : List Int), RepPs w I true (pbytes xs) (xs.map (Value.int .u8))
  | [] => by simp [pbytes, RepPs]
  | x :: xs => by simp only [pbytes, List.map_cons, RepPs]; exact ⟨_, _, rfl, fun _ => rfl, by simp [RepP], repPs_pbytes_mk xs⟩

theorem o_toStr {s t e : TypeId} {x : Operand} {x' : X} (hs : P.underlying s = some (.slice e)) (he : P.underlying e = some (.int .u8)) (ht : P.underlying t = some .string) (hS : RepS w σ β Z) (hE : RepE w (mem σ β Z) env a.tmps)
    (ho : o.op = .convert s t x) (hx : xOf x = some x') (h : vop env σ Q (.toStr x')) : Outc P o a w σ β Z Q := by
  obtain ⟨b, hb, h⟩ := withA_some h
  obtain ⟨n, ps, vs, A, c, hk, hv, _, hl, hp, hr, hA⟩ := withCells_rep hS (rep_opnd hE hx hb) h
  obtain ⟨xs, hxs, hk⟩ := hk
  have hps := unbytes_some hxs
  subst hps
  have hvs := repPs_pbytes hp
  refine outc_same hS (r := .string (strOf xs)) ?_ (rep_val_mk _) hk
  have hconv : (convert s t (.slice A n c)).run P w = .ok (.string (strOf xs)) w := by
    cases A with
    | none =>
      have hn : n = 0 := by rcases hA rfl with h | h <;> omega
      have : xs = [] := by simp [pbytes, hn] at hl; exact hl
      subst this
      exact run_convert_bytes_nil (P := P) w s e hs he n c t ht
    | some ad =>
      have h1 := run_load_cells (P := P) hl hp (hr ad rfl)
      rw [hvs, Nat.mul_one] at h1
      rw [run_convert_bytes_string w s t e _ n c hs he ht, run_bytesToString w _ n c xs h1, foldl_push_bytes]
      simp [strOf, ByteArray.empty, ByteArray.emptyWithCapacity]
      rfl
  simp [execOp, ho, hv, hconv]

theorem bytesOf_length (s : ByteArray) : (bytesOf s).length = s.size := by rw [bytesOf, List.length_map, Array.length_toList]; rfl
theorem maxLen_big {n : Nat} (h : n ≤ 1099511627776) : n ≤ maxLen := by simp only [maxLen]; omega
theorem strCells_eq (s : ByteArray) : Lib.strCells s = (bytesOf s).map (Value.int .u8) := by simp [Lib.strCells, bytesOf]

theorem o_toBytes {s t e : TypeId} {x : Operand} {x' : X} (hs : (P.underlying s).isSome = true) (he : P.underlying e = some (.int .u8)) (ht : P.underlying t = some (.slice e)) (hS : RepS w σ β Z) (hE : RepE w (mem σ β Z) env a.tmps)
    (ho : o.op = .convert s t x) (hx : xOf x = some x') (h : vop env σ Q (.toBytes e x')) : Outc P o a w σ β Z Q := by
  simp only [vop] at h
  split at h
  · rename_i str hstr
    obtain ⟨hsz, h⟩ := h
    have e1 := rep_val (rep_opnd hE hx hstr)
    obtain ⟨u, hu⟩ := Option.isSome_iff_exists.1 hs
    have hrun := Lib.run_convert_string_bytes (P := P) w s t e str hu ht he
    obtain ⟨k1, k2⟩ := step_same (w' := Lib.bytesWorld w e str) hS rfl rfl rfl (by rw [Lib.bytesWorld_size]; omega) (fun b hb => Lib.bytesWorld_at_old w e str b hb)
    refine ⟨_, _, β, _, σ, .inl (by simp [execOp, ho, e1, hrun]; rfl), k1, k2, ?_, h⟩
    simp only [RepA, RepP]
    refine ⟨_, _, rfl, grownCap_ge .., grownCap_le_maxLen _ _ _ _ (maxLen_big hsz), .inr ⟨_, (bytesOf str).map (Value.int .u8), rfl, ⟨by rw [Lib.bytesWorld_size]; simp, fun hl => ?_, fun hz => ?_⟩, fun j u hj => ?_, repPs_pbytes_mk _⟩⟩
    · have := hS.lt hl
      simp at this
    · have := hS.avd _ hz
      simp at this
    · rw [Addr.add_mid, Nat.zero_add]
      have hj' : j < str.size := by
        have := (List.getElem?_eq_some_iff.1 hj).1
        simpa [bytesOf_length] using this
      rw [Lib.bytesWorld_cell w e str j hj']
      have hjd : j < str.data.toList.length := by rw [Array.length_toList]; exact hj'
      simp [bytesOf, List.getElem?_eq_getElem hjd, List.getD_eq_getElem?_getD] at hj ⊢
      exact hj
  · exact h.elim


theorem o_mkIfc {t : TypeId} {d : TypeDesc} {x : Operand} {x' : X} (ht : P.underlying t = some d) (hd : ∀ ms, d ≠ .interface ms) (hS : RepS w σ β Z) (hE : RepE w (mem σ β Z) env a.tmps) (ho : o.op = .makeInterface t x) (hx : xOf x = some x')
    (h : vop env σ Q (.mkIfc t x')) : Outc P o a w σ β Z Q := by
  have hrun : (execOp a.eval o).run P w = .ok (.value (.iface t (a.eval x))) w := by
    simp only [execOp, ho, Instr.makeInterface, Sem.run_bind, run_underlying ht, Result.andThen_ok]
    cases d <;> first | exact absurd rfl (hd _) | rfl
  simp only [vop] at h
  split at h
  · rename_i p hp
    have hr := rep_opnd hE hx hp
    refine outc_same hS hrun ?_ h
    simp only [RepA, RepP] at hr ⊢
    exact ⟨_, rfl, hr⟩
  · rename_i b hb1 hb
    have hr := rep_opnd hE hx hb
    refine outc_same hS hrun ?_ h
    simp only [RepA]
    exact ⟨_, rfl, hr⟩
  · exact h.elim

theorem xsOf_cons {x : Operand} {r : List Operand} {l : List X} (h : xsOf (x :: r) = some l) : ∃ y ys, xOf x = some y ∧ xsOf r = some ys ∧ l = y :: ys := by
  simp only [xsOf] at h
  split at h
  · rename_i y ys h1 h2
    simp only [Option.some.injEq] at h
    exact ⟨y, ys, h1, h2, h.symm⟩
  · cases h

theorem withAs_rep {M : Mem} : ∀ {xs : List Operand} {ys : List X} {K : List AV → Prop}, RepE w M env a.tmps → xsOf xs = some ys → withAs env ys K → ∃ as, K as ∧ RepAs w M false as (xs.map a.eval)
  | [], ys, K, hE, hx, h => by
    simp only [xsOf, Option.some.injEq] at hx
    subst hx
    exact ⟨[], h, by simp [RepAs]⟩
  | x :: r, ys, K, hE, hx, h => by
    obtain ⟨y, ys, h1, h2, rfl⟩ := xsOf_cons hx
    simp only [withAs] at h
    obtain ⟨b, hb, h⟩ := withA_some h
    obtain ⟨as, hk, hr⟩ := withAs_rep hE h2 h
    refine ⟨b :: as, hk, ?_⟩
    simp only [List.map_cons, RepAs]
    exact ⟨_, _, rfl, by simp, rep_opnd hE h1 hb, hr⟩

theorem o_mkFn {f : Fn} {fi ca : Array Operand} {fi' ca' : List X} (hS : RepS w σ β Z) (hE : RepE w (mem σ β Z) env a.tmps) (ho : o.op = .makeFunc f fi ca) (hf : xsOf fi.toList = some fi') (hc : xsOf ca.toList = some ca')
    (h : vop env σ Q (.mkFn f fi' ca')) : Outc P o a w σ β Z Q := by
  simp only [vop] at h
  obtain ⟨as, h, ra⟩ := withAs_rep hE hf h
  obtain ⟨bs, h, rb⟩ := withAs_rep hE hc h
  have hrun : (execOp a.eval o).run P w = .ok (.value (.func f (fi.map a.eval) (ca.map a.eval))) w := by simp [execOp, ho, Instr.makeFunc]
  have ra' : RepAs w (mem σ β Z) false as (fi.map a.eval).toList := by simpa using ra
  have rb' : RepAs w (mem σ β Z) false bs (ca.map a.eval).toList := by simpa using rb
  split at h
  · rename_i p q hp hq
    rw [unpus_some hp] at ra'
    rw [unpus_some hq] at rb'
    refine outc_same hS hrun ?_ h
    simp only [RepA, RepP]
    exact ⟨_, _, rfl, ra'.to_pu, rb'.to_pu⟩
  · refine outc_same hS hrun ?_ h
    simp only [RepA]
    exact ⟨_, _, rfl, ra', rb'⟩

theorem o_extract {x : Operand} {x' : X} {i : Nat} (hS : RepS w σ β Z) (hE : RepE w (mem σ β Z) env a.tmps) (ho : o.op = .extract x i) (hx : xOf x = some x') (h : vop env σ Q (.extract x' i)) : Outc P o a w σ β Z Q := by
  simp only [vop] at h
  split at h
  · rename_i cs hcs
    obtain ⟨b, hb, h⟩ := withA_some h
    have hr := rep_opnd hE hx hcs
    simp only [RepA] at hr
    obtain ⟨vs, hv, hr⟩ := hr
    obtain ⟨u, hu, _, hr⟩ := hr.get hb
    refine outc_same hS ?_ hr h
    have : vs[i]? = some u := by simpa using hu
    simp [execOp, ho, hv, Instr.extract, this]
  · rename_i cs hcs
    split at h
    · rename_i p hp
      have hr := rep_opnd hE hx hcs
      simp only [RepA, RepP] at hr
      obtain ⟨vs, hv, hr⟩ := hr
      obtain ⟨u, hu, _, hr⟩ := hr.get hp
      refine outc_same hS (r := u) ?_ (by simpa only [RepA] using hr) h
      have : vs[i]? = some u := by simpa using hu
      simp [execOp, ho, hv, Instr.extract, this]
    · exact h.elim
  · exact h.elim

theorem o_mm {x y : Operand} {x' y' : X} {mx : Bool} {ts : Array TypeId} (hS : RepS w σ β Z) (hE : RepE w (mem σ β Z) env a.tmps) (ho : o.op = .call ⟨.builtin (if mx then .max else .min), #[x, y], ts⟩) (hx : xOf x = some x') (hy : xOf y = some y')
    (h : vop env σ Q (.mm mx x' y')) : Outc P o a w σ β Z Q := by
  simp only [vop] at h
  split at h
  · rename_i k p k' q hp hq
    have e1 := rep_val (rep_opnd hE hx hp)
    have e2 := rep_val (rep_opnd hE hy hq)
    cases mx
    · refine outc_same hS ?_ (rep_val_mk _) h
      simp only [Bool.false_eq_true, if_false] at ho ⊢
      simp [execOp, ho, resolve, invoke, builtin, e1, e2, Builtin.min_, Builtin.min2]
    · refine outc_same hS ?_ (rep_val_mk _) h
      simp only [if_true] at ho ⊢
      simp [execOp, ho, resolve, invoke, builtin, e1, e2, Builtin.max_, Builtin.max2]
  · exact h.elim

theorem o_lenS {t : TypeId} {x : Operand} {x' : X} (ht : P.underlying t = some .string) (hS : RepS w σ β Z) (hE : RepE w (mem σ β Z) env a.tmps) (ho : o.op = .call ⟨.builtin .len, #[x], #[t]⟩) (hx : xOf x = some x')
    (h : vop env σ Q (.lenS x')) : Outc P o a w σ β Z Q := by
  simp only [vop] at h
  split at h
  · rename_i s hs
    have e1 := rep_val (rep_opnd hE hx hs)
    exact outc_same hS (by simp [execOp, ho, resolve, invoke, builtin, e1, Builtin.len_, run_underlying ht, goInt]) (rep_val_mk _) h
  · exact h.elim
theorem o_len {t e : TypeId} {x : Operand} {x' : X} (ht : P.underlying t = some (.slice e)) (hS : RepS w σ β Z) (hE : RepE w (mem σ β Z) env a.tmps) (ho : o.op = .call ⟨.builtin .len, #[x], #[t]⟩) (hx : xOf x = some x')
    (h : vop env σ Q (.len x')) : Outc P o a w σ β Z Q := by
  have key : ∀ {A : Option Addr} {n c : Nat}, a.eval x = .slice A n c → (execOp a.eval o).run P w = .ok (.value (.int .i64 n)) w := by
    intro A n c hv
    simp [execOp, ho, resolve, invoke, builtin, hv, Builtin.len_, run_underlying ht, goInt]
  simp only [vop] at h
  split at h
  · rename_i hs
    exact outc_same hS (key (rep_val (rep_opnd hE hx hs))) (rep_val_mk _) h
  · rename_i n cs hs
    have hr := rep_opnd hE hx hs
    simp only [RepA, RepP] at hr
    obtain ⟨A, c, hv, _⟩ := hr
    exact outc_same hS (key hv) (rep_val_mk _) h
  · rename_i id g off n sz hs
    have hr := rep_opnd hE hx hs
    obtain ⟨ob, hob, rfl, hq⟩ := withO_some h
    rcases rep_own hS hob hr with ⟨_, k2, hv, rfl, rfl⟩ | ⟨bb, c, arr, k1, hv, _⟩
    · exact outc_same hS (key hv) (rep_val_mk _) hq
    · exact outc_same hS (key hv) (rep_val_mk _) hq
  · exact h.elim

theorem o_chr {t : TypeId} {x i : Operand} {x' i' : X} (ht : P.underlying t = some .string) (hS : RepS w σ β Z) (hE : RepE w (mem σ β Z) env a.tmps) (ho : o.op = .index t x i) (hx : xOf x = some x') (hi : xOf i = some i')
    (h : vop env σ Q (.chr x' i')) : Outc P o a w σ β Z Q := by
  obtain ⟨k, n, hn, h⟩ := withI_some h
  have e2 := rep_val (rep_opnd hE hi hn)
  split at h
  · rename_i s hs
    have e1 := rep_val (rep_opnd hE hx hs)
    obtain ⟨h0, h1, h⟩ := h
    refine outc_same hS ?_ (rep_val_mk _) h
    have hlt : n.toNat < s.size := by omega
    have hg : s[n.toNat]? = some (s[n.toNat]'hlt) := by simp [hlt]
    simp [execOp, ho, e1, e2, Instr.index, asIntOf, run_underlying ht, h0, hg, bt, hlt]
  · exact h.elim

/-- a field's address -/
theorem o_fld {t : TypeId} {x : Operand} {x' : X} {fs : Array Field} {j : Nat} {f : Field} {sz : Nat} (ht : P.underlying t = some (.struct fs)) (hf : fs[j]? = some f) (hz : szB P f.type = some sz) (hz0 : sz ≠ 0) (hS : RepS w σ β Z) (hE : RepE w (mem σ β Z) env a.tmps)
    (ho : o.op = .fieldAddr t x j) (hx : xOf x = some x') (h : vop env σ Q (.fld f.offset x')) : Outc P o a w σ β Z Q := by
  have key : ∀ {ad : Addr}, a.eval x = .pointer (some ad) → (execOp a.eval o).run P w = .ok (.value (.pointer (some (ad.add f.offset)))) w := by
    intro ad hv
    simp [execOp, ho, hv, Instr.fieldAt, run_underlying ht, hf, Instr.sureAddr, fieldPlace, run_sizeOf hz, hz0]
  simp only [vop] at h
  split at h
  · rename_i id g off hp
    obtain ⟨ob, hob, rfl, h⟩ := withO_some h
    obtain ⟨b, arr, hb, hv, hw, hcs, hsz⟩ := rep_ptr hS hob (rep_opnd hE hx hp)
    have := key hv
    rw [Addr.add_mid] at this
    exact outc_same hS this (rep_ptr_at hob hb) h
  · rename_i cs hp
    have hr := rep_opnd hE hx hp
    simp only [RepA, RepP] at hr
    obtain ⟨ad, vs, hv, hI, hR, hP⟩ := hr
    obtain ⟨hl, h⟩ := h
    refine outc_same hS (key hv) ?_ h
    simp only [RepA, RepP]
    have hb : (ad.add f.offset).block = ad.block := by unfold Addr.add; split <;> rfl
    exact ⟨_, _, rfl, by rw [hb]; exact hI, hR.drop _, hP.drop _⟩
  · exact h.elim

end

end Go.Vm
