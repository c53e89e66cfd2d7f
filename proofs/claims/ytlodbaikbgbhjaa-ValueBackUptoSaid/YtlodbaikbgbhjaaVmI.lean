/- Vm, part I: soundness of makes, appends, copies, literals. -/
import Derived.Test.YtlodbaikbgbhjaaVmH
set_option linter.unusedVariables false
set_option linter.unusedSimpArgs false
namespace Go.Vm
open Go Go.RowKit

section
variable {P : Program} {o : Oper} {a : Act} {w : World} {σ : St} {β : List (Option Nat)} {Z : Nat → Prop} {Q : AV → St → Prop} {env : Env}

theorem made_prefix {z : Array Value} {n m : Nat} (h : n ≤ m) : (madeCells z (m * z.size)).toList.take (n * z.size) = ((List.replicate n z.toList).flatten) := by
  induction n with
  | zero => simp
  | succ n ih =>
    have hle : n * z.size ≤ m * z.size := Nat.mul_le_mul_right _ (by omega)
    have hle' : (n + 1) * z.size ≤ m * z.size := Nat.mul_le_mul_right _ h
    have e : (n + 1) * z.size = n * z.size + z.size := Nat.succ_mul _ _
    rw [List.replicate_succ', List.flatten_append, ← ih (by omega), e, List.take_add]
    congr 1
    apply List.ext_getElem?
    intro i
    rw [List.getElem?_take, List.getElem?_drop]
    simp only [List.flatten_cons, List.flatten_nil, List.append_nil]
    split
    · rename_i hi
      have h1 : n * z.size + i < m * z.size := by omega
      have hmod : (n * z.size + i) % z.size = i := by
        rw [Nat.mul_comm, Nat.mul_add_mod, Nat.mod_eq_of_lt hi]
      simp [madeCells, h1, hmod]
      rw [Array.getElem?_eq_getElem (by simpa using hi)]
      simp [hi]
    · rename_i hi
      rw [List.getElem?_eq_none (by simpa using hi)]

theorem repAs_rep {M : Mem} {cs : List AV} {vs : List Value} (h : RepAs w M true cs vs) : ∀ n, RepAs w M true (List.replicate n cs).flatten (List.replicate n vs).flatten
  | 0 => by simp [RepAs]
  | n + 1 => by
    rw [List.replicate_succ, List.replicate_succ, List.flatten_cons, List.flatten_cons]
    exact h.append (repAs_rep h n)

theorem map_flatten_rep {γ δ : Type} (f : γ → δ) (l : List γ) (n : Nat) : ((List.replicate n l).flatten).map f = (List.replicate n (l.map f)).flatten := by
  rw [List.map_flatten, List.map_replicate]

theorem o_make {t e : TypeId} {x y : Operand} {x' y' : X} {z : List PV} {bytes sz : Nat} {i : TypeInfo} (ht : P.underlying t = some (.slice e)) (hi : P.info? e = some i) (hby : i.bytes = bytes) (hsz : i.size = sz) (hz : zeroB P e = some z) (hzl : z.length = sz)
    (hS : RepS w σ β Z) (hE : RepE w (mem σ β Z) env a.tmps) (ho : o.op = .makeSlice t x y) (hx : xOf x = some x') (hy : xOf y = some y') (h : vop env σ Q (.make e bytes sz z x' y')) : Outc P o a w σ β Z Q := by
  obtain ⟨k, n, hn, h⟩ := withI_some h
  obtain ⟨k', c, hc, h⟩ := withI_some h
  obtain ⟨h0, h1, h2, h3, hq⟩ := h
  have e1 := rep_val (rep_opnd hE hx hn)
  have e2 := rep_val (rep_opnd hE hy hc)
  subst hby hsz
  obtain ⟨i', zv, hi', hzv, rfl, hall⟩ := zeroB_some hz
  rw [hi] at hi'
  cases hi'
  have hzs : zv.cells.size = i.size := by simpa using hzl
  have hrun := run_make (P := P) w t e i zv ht hi hzv k k' n c h0 h1 (by rw [Int.mul_comm]; omega) (by omega)
  have hcs : RepAs w (mem σ β Z) true (((List.replicate n.toNat (zv.cells.toList.map PV.val)).flatten).map AV.pu) ((madeCells zv.cells (c.toNat * i.size)).toList.take (((List.replicate n.toNat (zv.cells.toList.map PV.val)).flatten).map AV.pu).length) := by
    have hl : (((List.replicate n.toNat (zv.cells.toList.map PV.val)).flatten).map AV.pu).length = n.toNat * zv.cells.size := by simp
    rw [hl, ← hzs, made_prefix (by omega), map_flatten_rep, List.map_map]
    exact repAs_rep (repAs_vals _ _ hall) _
  obtain ⟨k1, k2⟩ := rep_new (e := e) hS hcs
  refine ⟨_, _, _, _, _, .inl (by simp [execOp, ho, e1, e2, hrun]; rfl), k1, k2, ?_, hq⟩
  simp only [RepA]
  refine ⟨⟨_, _, _, rfl⟩, by simp [mem], fun g' B hal => ?_⟩
  obtain ⟨_, hB⟩ := al_new hS.len hal
  refine ⟨Nat.zero_le _, fun _ => .inr ⟨_, c.toNat, _, e, hB, rfl, by omega, maxLen_big (by omega), heap_alloc_new w _, ?_, fun _ => ?_⟩⟩
  · simp [size_madeCells]
  · simp [size_madeCells]

/-- A row of one's own, as the kit tells it. -/
theorem own_row {id n sz : Nat} {ob : VObj} {v : Value} (hS : RepS w σ β Z) (hid : σ[id]? = some (some ob)) (hl : ob.cs.length = n * sz) (h : RepA w (mem σ β Z) (.own id ob.g 0 n sz) v) :
    ∃ xs B, β[id]? = some B ∧ v.ownBlock = B ∧ w.ownsRow 0 ob.e sz v n xs ∧ RepAs w (mem σ β Z) true ob.cs xs := by
  rcases rep_own hS hid h with ⟨k1, k2, rfl, rfl, _⟩ | ⟨b, c, arr, k1, rfl, k3, k4, k5, ⟨k6, k6'⟩, k7, k8⟩
  · exact ⟨[], none, k1, rfl, ⟨by simp, .inl ⟨rfl, rfl⟩⟩, by rw [k2]; simp [RepAs]⟩
  · refine ⟨arr.toList.take ob.cs.length, some b, k1, rfl, ⟨?_, .inr ⟨b, c, arr, rfl, Nat.zero_le _, k5, k3, k4, (k6' rfl).symm, by rw [hl]⟩⟩, k7⟩
    rw [List.length_take, Nat.min_eq_left (by simpa using k8), hl]

/-- What an append leaves: the object's new cells in their block. -/
theorem row_obj {w1 : World} {e n sz : Nat} {v1 : Value} {xs : List Value} (hown : w1.ownsRow 0 e sz v1 n xs) : (v1 = .slice none 0 0 ∧ n = 0 ∧ xs = []) ∨
    ∃ b c arr, v1.ownBlock = some b ∧ v1 = .slice (some ⟨b, 0, none⟩) n c ∧ n ≤ c ∧ c ≤ maxLen ∧ w1.heap[b]? = some (.cells arr e (0, 0)) ∧ c * sz = arr.size ∧ arr.toList.take xs.length = xs := by
  rcases hown.2 with ⟨rfl, rfl⟩ | ⟨b, c, arr, rfl, _, h1, h2, h3, h4, h5⟩
  · exact .inl ⟨rfl, rfl, by have := hown.1; simp at this; exact this⟩
  · exact .inr ⟨b, c, arr, rfl, rfl, h2, h3, h1, h4.symm, by rw [hown.1]; exact h5⟩

theorem app_fin {w1 : World} {id n m sz : Nat} {ob : VObj} {B : Option Nat} {v v1 : Value} {xs ys : List Value} {qs : List AV} (hS : RepS w σ β Z) (hid : σ[id]? = some (some ob)) (hB : β[id]? = some B) (hvB : v.ownBlock = B)
    (hx : RepAs w (mem σ β Z) true ob.cs xs) (hy : RepAs w (mem σ β Z) true qs ys)
    (hown : w1.ownsRow 0 ob.e sz v1 (n + m) (xs ++ ys)) (hg : w.grownBy w1 v.ownBlock) (hat : v1.ownBlock = v.ownBlock ∨ v1.ownBlock = some w.heap.size) :
    Step w (mem σ β Z) w1 (mem (σ.set id (some ⟨ob.e, ob.g + 1, ob.cs ++ qs⟩)) (β.set id v1.ownBlock) Z) ∧ RepS w1 (σ.set id (some ⟨ob.e, ob.g + 1, ob.cs ++ qs⟩)) (β.set id v1.ownBlock) Z ∧
      RepA w1 (mem (σ.set id (some ⟨ob.e, ob.g + 1, ob.cs ++ qs⟩)) (β.set id v1.ownBlock) Z) (.own id (ob.g + 1) 0 (n + m) sz) v1 := by
  have hcs : RepAs w (mem σ β Z) true (ob.cs ++ qs) (xs ++ ys) := hx.append hy
  have hlen : (ob.cs ++ qs).length = (xs ++ ys).length := hcs.length.symm
  have hlt : id < σ.length := (List.getElem?_eq_some_iff.1 hid).1
  have hro := row_obj hown
  obtain ⟨k1, k2⟩ := set_obj (w' := w1) (o' := ⟨ob.e, ob.g + 1, ob.cs ++ qs⟩) (B' := v1.ownBlock) hS hid hB hg.os hg.tape hg.output hg.size
    (fun b hb hne => hg.block b hb (fun e => hne (by rw [← hvB, ← e]))) (.inr (by simp))
    (by
      rcases hat with h | h
      · exact .inr (.inl (h.trans hvB))
      · exact .inr (.inr ⟨_, h, Nat.le_refl _⟩))
    (by
      rcases hro with ⟨rfl, h1, h2⟩ | ⟨b, c, arr, h1, h2, h3, h4, h5, h6, h7⟩
      · refine .inl ⟨rfl, ?_⟩
        rw [h2] at hlen
        exact List.eq_nil_of_length_eq_zero hlen
      · refine .inr ⟨b, arr, h1, h5, ?_⟩
        rw [hlen, h7]
        exact hcs)
  refine ⟨k1, k2, ?_⟩
  simp only [RepA]
  refine ⟨?_, by simpa [mem] using hlt, fun g' C hal => ?_⟩
  · rcases hro with ⟨rfl, _⟩ | ⟨b, c, arr, _, h2, _⟩
    · exact ⟨_, _, _, rfl⟩
    · exact ⟨_, _, _, h2⟩
  · obtain ⟨ob', h1, h2, h3⟩ := mem_al.1 hal
    rw [List.getElem?_set_self hlt] at h1
    cases h1
    rw [List.getElem?_set_self (by rw [hS.len]; exact hlt)] at h3
    refine ⟨by rw [← h2]; exact Nat.le_refl _, fun _ => ?_⟩
    rw [← h3]
    rcases hro with ⟨rfl, h4, _⟩ | ⟨b, c, arr, h4, h5, h6, h7, h8, h9, _⟩
    · exact .inl ⟨rfl, rfl, h4, rfl⟩
    · exact .inr ⟨b, c, arr, ob.e, by simp [h4], h5, h6, h7, h8, by omega, fun _ => h9⟩

theorem app_new {w1 : World} {e m sz : Nat} {v1 : Value} {ys : List Value} {qs : List AV} (hS : RepS w σ β Z) (hy : RepAs w (mem σ β Z) true qs ys)
    (hown : w1.ownsRow 0 e sz v1 m ys) (hg : w.grownBy w1 none) (hat : v1.ownBlock = none ∨ v1.ownBlock = some w.heap.size) :
    Step w (mem σ β Z) w1 (mem (σ ++ [some ⟨e, 0, qs⟩]) (β ++ [v1.ownBlock]) Z) ∧ RepS w1 (σ ++ [some ⟨e, 0, qs⟩]) (β ++ [v1.ownBlock]) Z ∧
      RepA w1 (mem (σ ++ [some ⟨e, 0, qs⟩]) (β ++ [v1.ownBlock]) Z) (.own σ.length 0 0 m sz) v1 := by
  have hlen : qs.length = ys.length := hy.length.symm
  have hro := row_obj hown
  obtain ⟨k1, k2⟩ := new_obj (w' := w1) (o' := ⟨e, 0, qs⟩) (B' := v1.ownBlock) hS hg.os hg.tape hg.output hg.size
    (fun b hb => hg.block b hb (by simp))
    (by
      rcases hat with h | h
      · exact .inl h
      · exact .inr ⟨_, h, Nat.le_refl _⟩)
    (by
      rcases hro with ⟨rfl, h1, h2⟩ | ⟨b, c, arr, h1, h2, h3, h4, h5, h6, h7⟩
      · refine .inl ⟨rfl, ?_⟩
        rw [h2] at hlen
        exact List.eq_nil_of_length_eq_zero hlen
      · refine .inr ⟨b, arr, h1, h5, ?_⟩
        rw [hlen, h7]
        exact hy)
  refine ⟨k1, k2, ?_⟩
  simp only [RepA]
  refine ⟨?_, by simp [mem], fun g' C hal => ?_⟩
  · rcases hro with ⟨rfl, _⟩ | ⟨b, c, arr, _, h2, _⟩
    · exact ⟨_, _, _, rfl⟩
    · exact ⟨_, _, _, h2⟩
  · obtain ⟨_, hC⟩ := al_new hS.len hal
    refine ⟨Nat.zero_le _, fun _ => ?_⟩
    rw [hC]
    rcases hro with ⟨rfl, h4, _⟩ | ⟨b, c, arr, h4, h5, h6, h7, h8, h9, _⟩
    · exact .inl ⟨rfl, rfl, h4, rfl⟩
    · exact .inr ⟨b, c, arr, e, h4, h5, h6, h7, h8, by omega, fun _ => h9⟩

theorem oneCells {I : Nat → Prop} {ps : List PV} {vs : List Value} (h : RepPs w I true ps vs) : ∀ u ∈ vs, u.oneCell' = true := by
  intro v hv
  obtain ⟨j, hj, hje⟩ := List.mem_iff_getElem.1 hv
  have hl := h.length
  obtain ⟨u, hu, ho1, _⟩ := h.get (j := j) (p := ps[j]'(by omega)) (by simp)
  rw [List.getElem?_eq_getElem hj, hje] at hu
  cases hu
  exact ho1 rfl

theorem grownBy_refl (w : World) (r : Option Nat) : w.grownBy w r := ⟨rfl, rfl, rfl, Nat.le_refl _, fun _ _ _ => rfl⟩

theorem run_app {t e ty : TypeId} {bytes sz : Nat} {i : TypeInfo} {z : List PV} (ht : P.underlying t = some (.slice e)) (hi : P.info? e = some i) (hby : i.bytes = bytes) (hsz : i.size = sz) (hz : zeroB P e = some z) (hzl : z.length = sz) (hpos : 0 < sz)
    {v : Value} {n m c : Nat} {xs ys : List Value} {A : Option Addr} (hown : w.ownsRow 0 e sz v n xs) (hl : ys.length = m * sz) (hR : ∀ ad, A = some ad → Reads w ad ys) (hA : A = none → m = 0 ∨ sz = 0) (h1 : ∀ u ∈ ys, u.oneCell' = true)
    (hb : (n + m) * bytes ≤ 1099511627776) (hb2 : n + m ≤ 1099511627776) :
    ∃ v1 w1, (Builtin.append_ #[t, t] ty #[v, .slice A m c]).run P w = .ok v1 w1 ∧ w1.ownsRow 0 e sz v1 (n + m) (xs ++ ys) ∧ w.grownBy w1 v.ownBlock ∧ (v1.ownBlock = v.ownBlock ∨ v1.ownBlock = some w.heap.size) := by
  obtain ⟨i', zv, hi', hzv, rfl, hall⟩ := zeroB_some hz
  rw [hi] at hi'
  cases hi'
  have hzs : zv.cells.size = sz := by simpa using hzl
  cases A with
  | none =>
    have hm : m = 0 := by rcases hA rfl with h | h <;> omega
    subst hm
    have : ys = [] := by simp at hl; exact hl
    subst this
    refine ⟨v, w, ?_, by simpa using hown, grownBy_refl _ _, .inl rfl⟩
    rcases hown.2 with ⟨rfl, hn⟩ | ⟨g, cap, cur, rfl, _, _, hnc, _⟩
    · simp [Builtin.append_, run_underlying ht, sizeOf, typeInfo, hi, Builtin.lenOf, Builtin.firstCells]
    · simp [Builtin.append_, run_underlying ht, sizeOf, typeInfo, hi, Builtin.lenOf, Builtin.firstCells, hnc, storeCells]
  | some ad =>
    obtain ⟨v1, w1, h2, h3, h4, _, h6⟩ := run_append_own_at (P := P) w 0 t ty e i zv sz bytes ht hi hzv hsz hby hzs hpos v n xs hown ad m c ys hl (hR ad rfl) h1 (maxLen_big hb2) (by omega) (Nat.zero_le _)
    exact ⟨v1, w1, h2, h3, h4, h6⟩

theorem o_app {t e : TypeId} {x y : Operand} {x' y' : X} {z : List PV} {bytes sz : Nat} {i : TypeInfo} (ht : P.underlying t = some (.slice e)) (hi : P.info? e = some i) (hby : i.bytes = bytes) (hsz : i.size = sz) (hz : zeroB P e = some z) (hzl : z.length = sz)
    (hS : RepS w σ β Z) (hE : RepE w (mem σ β Z) env a.tmps) (ho : o.op = .call ⟨.builtin .append, #[x, y], #[t, t]⟩) (hx : xOf x = some x') (hy : xOf y = some y') (h : vop env σ Q (.app e bytes sz x' y')) : Outc P o a w σ β Z Q := by
  obtain ⟨b, hb, h⟩ := withA_some h
  obtain ⟨m, ps, ys, A, c, hk, hyv, _, hpl, hP, hR, hA⟩ := withCells_rep hS (rep_opnd hE hy hb) h
  have hys : RepAs w (mem σ β Z) true (ps.map .pu) ys := RepAs.of_pu hP
  have hyl : ys.length = m * sz := by rw [hP.length, hpl]
  have exec : ∀ {v1 : Value} {w1 : World}, (Builtin.append_ #[t, t] o.type #[a.eval x, .slice A m c]).run P w = .ok v1 w1 → (execOp a.eval o).run P w = .ok (.value v1) w1 := by
    intro v1 w1 hr
    simp [execOp, ho, resolve, invoke, builtin, hyv, hr]
  split at hk
  · rename_i hs
    obtain ⟨hpos, hb1, hb2, hq⟩ := hk
    have e1 := rep_val (rep_opnd hE hx hs)
    obtain ⟨v1, w1, h2, h3, h4, h6⟩ := run_app (P := P) (ty := o.type) (c := c) ht hi hby hsz hz hzl hpos (w.ownsRow_nil 0 e sz) hyl hR hA (oneCells hP) (by rw [Nat.zero_add]; exact hb1) (by omega)
    rw [Nat.zero_add, List.nil_append] at h3
    obtain ⟨k1, k2, k3⟩ := app_new hS hys h3 h4 h6
    exact ⟨v1, w1, _, _, _, .inl (exec (by rw [e1]; exact h2)), k1, k2, k3, hq⟩
  · rename_i id g off n s hs
    obtain ⟨rfl, hpos, rfl, hk⟩ := hk
    obtain ⟨ob, hob, rfl, rfl, hcl, hb1, hb2, hq⟩ := withO_some hk
    obtain ⟨xs, B, hB, hvB, hown, hxs⟩ := own_row hS hob hcl (rep_opnd hE hx hs)
    obtain ⟨v1, w1, h2, h3, h4, h6⟩ := run_app (P := P) (ty := o.type) (c := c) ht hi hby hsz hz hzl hpos hown hyl hR hA (oneCells hP) hb1 hb2
    obtain ⟨k1, k2, k3⟩ := app_fin hS hob hB hvB hxs hys h3 h4 h6
    exact ⟨v1, w1, _, _, _, .inl (exec h2), k1, k2, k3, hq⟩
  · exact hk.elim


theorem run_appS {t e ty u : TypeId} {i : TypeInfo} (ht : P.underlying t = some (.slice e)) (hu : P.underlying u = some .string) (hi : P.info? e = some i) (hby : i.bytes = 1) (hsz : i.size = 1) (hz : i.zero = some (.int .u8 0))
    {v : Value} {n : Nat} {xs : List Value} {s : ByteArray} (hown : w.ownsRow 0 e 1 v n xs) (hb : n + s.size ≤ 1099511627776) :
    ∃ v1 w1, (Builtin.append_ #[t, u] ty #[v, .string s]).run P w = .ok v1 w1 ∧ w1.ownsRow 0 e 1 v1 (n + s.size) (xs ++ Lib.strCells s) ∧ w.grownBy w1 v.ownBlock ∧ (v1.ownBlock = v.ownBlock ∨ v1.ownBlock = some w.heap.size) := by
  have hm := maxLen_big hb
  obtain ⟨v1, w1, h1, h2, h3, h4⟩ := Lib.run_append_own_string (P := P) w 0 t u ty e i ht hu hi hz hsz hby v n xs hown s hm (by omega) (Nat.zero_le _)
  refine ⟨v1, w1, h1, h2, h3, ?_⟩
  -- where the row lies: in its old block, or in the first new one
  rcases hown.2 with ⟨rfl, rfl⟩ | ⟨g, cap, cur, rfl, hbg, hg, hnc, hcm, hcs, htake⟩
  · by_cases h0 : 0 < s.size
    · have hr := run_append_nil_string (P := P) w t u ty e i _ ht hu hi hz s h0 (by omega) (by rw [hby]; omega)
      rw [hr] at h1
      injection h1 with h1 _
      subst h1
      exact .inr rfl
    · left
      have := h4.2 ⟨rfl, by omega⟩
      rw [this]
  · by_cases hroom : n + s.size ≤ cap
    · have hr := Lib.run_append_room_string (P := P) w t u ty e i ht hu hi hsz g n cap cur hg s hroom (by omega)
      rw [hr] at h1
      injection h1 with h1 _
      subst h1
      exact .inl rfl
    · have holds : ∀ j u, xs[j]? = some u → w.cell? ((⟨g, 0, none⟩ : Addr).add j) = some u := hown.cells (g := g) rfl
      have hr := Lib.run_append_grow_string (P := P) w t u ty e i _ ht hu hi hz ⟨g, 0, none⟩ n cap xs (by rw [hsz]; exact hown.1) holds s (by omega) (by omega) (growslice_fits (by omega) (by rw [hby]; omega))
      rw [hr] at h1
      injection h1 with h1 _
      subst h1
      exact .inr rfl

theorem o_appS {t e u : TypeId} {x y : Operand} {x' y' : X} {i : TypeInfo} (ht : P.underlying t = some (.slice e)) (hu : P.underlying u = some .string) (hi : P.info? e = some i) (hby : i.bytes = 1) (hsz : i.size = 1) (hz : i.zero = some (.int .u8 0))
    (hS : RepS w σ β Z) (hE : RepE w (mem σ β Z) env a.tmps) (ho : o.op = .call ⟨.builtin .append, #[x, y], #[t, u]⟩) (hx : xOf x = some x') (hy : xOf y = some y') (h : vop env σ Q (.appS e x' y')) : Outc P o a w σ β Z Q := by
  simp only [vop] at h
  split at h
  · rename_i s hs0
    have e2 := rep_val (rep_opnd hE hy hs0)
    have hys : RepAs w (mem σ β Z) true ((pbytes (bytesOf s)).map .pu) (Lib.strCells s) := by
      rw [strCells_eq]
      exact RepAs.of_pu (repPs_pbytes_mk _)
    have exec : ∀ {v1 : Value} {w1 : World}, (Builtin.append_ #[t, u] o.type #[a.eval x, .string s]).run P w = .ok v1 w1 → (execOp a.eval o).run P w = .ok (.value v1) w1 := by
      intro v1 w1 hr
      simp [execOp, ho, resolve, invoke, builtin, e2, hr]
    split at h
    · rename_i hs
      obtain ⟨hb, hq⟩ := h
      have e1 := rep_val (rep_opnd hE hx hs)
      obtain ⟨v1, w1, h2, h3, h4, h6⟩ := run_appS (P := P) (ty := o.type) (s := s) ht hu hi hby hsz hz (w.ownsRow_nil 0 e 1) (by omega)
      rw [Nat.zero_add, List.nil_append] at h3
      obtain ⟨k1, k2, k3⟩ := app_new hS hys h3 h4 h6
      exact ⟨v1, w1, _, _, _, .inl (exec (by rw [e1]; exact h2)), k1, k2, k3, hq⟩
    · rename_i id g off n sz hs
      obtain ⟨rfl, rfl, hk⟩ := h
      obtain ⟨ob, hob, rfl, rfl, hcl, hb, hq⟩ := withO_some hk
      obtain ⟨xs, B, hB, hvB, hown, hxs⟩ := own_row hS hob (by omega) (rep_opnd hE hx hs)
      obtain ⟨v1, w1, h2, h3, h4, h6⟩ := run_appS (P := P) (ty := o.type) (s := s) ht hu hi hby hsz hz hown hb
      obtain ⟨k1, k2, k3⟩ := app_fin hS hob hB hvB hxs hys h3 h4 h6
      exact ⟨v1, w1, _, _, _, .inl (exec h2), k1, k2, k3, hq⟩
    · exact h.elim
  · exact h.elim

theorem o_copy {t s e : TypeId} {x y : Operand} {x' y' : X} {sz : Nat} (ht : P.underlying t = some (.slice e)) (hz : szB P e = some sz)
    (hS : RepS w σ β Z) (hE : RepE w (mem σ β Z) env a.tmps) (ho : o.op = .call ⟨.builtin .copy, #[x, y], #[t, s]⟩) (hx : xOf x = some x') (hy : xOf y = some y') (h : vop env σ Q (.copy sz x' y')) : Outc P o a w σ β Z Q := by
  obtain ⟨b, hb, h⟩ := withA_some h
  obtain ⟨m, ps, ys, A, c, hk, hyv, _, hpl, hP, hR, hA⟩ := withCells_rep hS (rep_opnd hE hy hb) h
  split at hk
  · rename_i id g off n s' hs
    obtain ⟨rfl, hk⟩ := hk
    obtain ⟨ob, hob, rfl, hfit, hq⟩ := withO_some hk
    have hPt := hP.take (min m n * s')
    have htl : (ps.take (min m n * s')).length = min m n * s' := by
      rw [List.length_take, hpl, Nat.min_eq_left (Nat.mul_le_mul_right _ (Nat.min_le_left m n))]
    have hf : (Builtin.firstCells s' (min m n) (.slice A m c)).run P w = .ok (ys.take (min m n * s')).toArray w := by
      cases A with
      | none =>
        have : ys = [] := by
          have h0 : m * s' = 0 := by rcases hA rfl with h | h <;> simp [h]
          have := hP.length
          rw [hpl, h0] at this
          exact List.eq_nil_of_length_eq_zero this
        subst this
        simp [Builtin.firstCells]
      | some ad => simpa [Builtin.firstCells] using run_load_cells (P := P) (n := min m n) htl hPt ((hR ad rfl).take _)
    rcases rep_own hS hob (rep_opnd hE hx hs) with ⟨k1, k2, hv, rfl, rfl⟩ | ⟨bb, cc, arr, k1, hv, k3, k4, k5, ⟨k6, k6'⟩, k7, k8⟩
    · have hset : σ.set id (some ⟨ob.e, ob.g, splice ob.cs 0 ((ps.take (min m 0 * s')).map .pu)⟩) = σ := by
        apply set_self
        rw [hob, k2]
        simp [splice]
        cases ob
        simp_all
      rw [hset] at hq
      refine outc_same hS (r := goInt (min m 0 : Nat)) ?_ (rep_val_mk _) hq
      have hf' := hf
      simp only [Nat.min_zero] at hf' ⊢
      simp [execOp, ho, resolve, invoke, builtin, hyv, hv, Builtin.copy_, run_underlying ht, Builtin.lenOf, run_sizeOf hz]
      cases A <;> simp [Builtin.firstCells, loadCells, loadCellsFrom]
    · have hys : RepAs w (mem σ β Z) true ((ps.take (min m n * s')).map .pu) (ys.take (min m n * s')) := RepAs.of_pu hPt
      have hylen : (ys.take (min m n * s')).length = min m n * s' := by rw [hPt.length, htl]
      have hmn : min m n * s' ≤ n * s' := Nat.mul_le_mul_right _ (Nat.min_le_right m n)
      have hst := run_storeCells_at (P := P) bb off ob.e (ys.take (min m n * s')) 0 arr w k5 (by rw [hylen]; omega) (oneCells hPt)
      simp only [Nat.add_zero, hylen] at hst
      obtain ⟨q1, q2⟩ := obj_set (e := ob.e) (arr' := (arr.toList.take off ++ ys.take (min m n * s') ++ arr.toList.drop (off + min m n * s')).toArray) (cs' := splice ob.cs off ((ps.take (min m n * s')).map .pu)) hS hob k1 k5
        (by simp only [List.size_toArray, List.length_append, List.length_take, List.length_drop, Array.length_toList] at hylen ⊢; omega) (by
          have e0 : ((ps.take (min m n * s')).map AV.pu).length = min m n * s' := by rw [List.length_map, htl]
          have e1 : (splice ob.cs off ((ps.take (min m n * s')).map .pu)).length = ob.cs.length := by
            simp only [splice, List.length_append, List.length_take, List.length_drop, e0]
            omega
          rw [e1]
          have e2 := take_splice arr.toList (ys.take (min m n * s')) ob.cs.length off (by rw [hylen]; omega) (by simpa using k8)
          rw [hylen] at e2
          simp only [e2]
          have e3 := ((k7.take off).append hys).append (k7.drop (off + min m n * s'))
          have e4 : splice ob.cs off ((ps.take (min m n * s')).map .pu) = ob.cs.take off ++ (ps.take (min m n * s')).map .pu ++ ob.cs.drop (off + min m n * s') := by simp only [splice, e0]
          rw [e4]
          exact e3)
      refine ⟨goInt (min m n : Nat), _, _, _, _, .inl ?_, q1, q2, rep_val_mk _, hq⟩
      have hmn' : Nat.min m n = min m n := rfl
      simp [execOp, ho, resolve, invoke, builtin, hyv, hv, Builtin.copy_, run_underlying ht, Builtin.lenOf, run_sizeOf hz, hmn', hf, hst]
  · exact hk.elim

end

end Go.Vm
