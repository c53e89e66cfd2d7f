/- Vm, part H: soundness of elements' addresses, cuts, fields, makes, appends, copies, literals. -/
import Derived.Test.YtlodbaikbgbhjaaVmG
import Derived.Maps.AppendAt
set_option linter.unusedVariables false
set_option linter.unusedSimpArgs false
namespace Go.Vm
open Go Go.RowKit

section
variable {P : Program} {o : Oper} {a : Act} {w : World} {σ : St} {β : List (Option Nat)} {Z : Nat → Prop} {Q : AV → St → Prop} {env : Env}

theorem block_add (ad : Addr) (n : Nat) : (ad.add n).block = ad.block := by unfold Addr.add; split <;> rfl

theorem o_idx {t e : TypeId} {x i : Operand} {x' i' : X} {sz : Nat} (ht : P.underlying t = some (.slice e)) (hz : szB P e = some sz) (hS : RepS w σ β Z) (hE : RepE w (mem σ β Z) env a.tmps) (ho : o.op = .indexAddr t x i) (hx : xOf x = some x') (hi : xOf i = some i')
    (h : vop env σ Q (.idx sz x' i')) : Outc P o a w σ β Z Q := by
  obtain ⟨k, q, hn, h⟩ := withI_some h
  have e2 := rep_val (rep_opnd hE hi hn)
  have key : ∀ {ad : Addr} {n c : Nat}, a.eval x = .slice (some ad) n c → 0 ≤ q → q < n → (execOp a.eval o).run P w = .ok (.value (.pointer (some (ad.add (q.toNat * sz))))) w := by
    intro ad n c hv h0 h1
    simp [execOp, ho, hv, e2, Instr.indexAt, asIntOf, run_underlying ht, h0, h1, run_sizeOf hz]
  split at h
  · rename_i n cs hs
    obtain ⟨h0, h1, hl, hsz, h⟩ := h
    have hr := rep_opnd hE hx hs
    simp only [RepA, RepP] at hr
    obtain ⟨A, c, hv, _, _, h3⟩ := hr
    rcases h3 with rfl | ⟨ad, vs, rfl, hI, hR, hP⟩
    · simp at hl
      have : 0 < n * sz := Nat.mul_pos (by omega) hsz
      omega
    · refine outc_same hS (key hv h0 h1) ?_ h
      simp only [RepA, RepP]
      exact ⟨_, _, rfl, by rw [block_add]; exact hI, hR.drop _, hP.drop _⟩
  · rename_i id g off n s hs
    obtain ⟨rfl, h⟩ := h
    obtain ⟨ob, hob, rfl, h0, h1, hq⟩ := withO_some h
    rcases rep_own hS hob (rep_opnd hE hx hs) with ⟨_, k2, hv, rfl, rfl⟩ | ⟨bb, c, arr, k1, hv, k3, k4, k5, k6, k7, k8⟩
    · simp at h1; omega
    · have := key hv h0 h1
      rw [Addr.add_mid] at this
      exact outc_same hS this (rep_ptr_at hob k1) hq
  · exact h.elim

theorem o_idxA {t e : TypeId} {len : Nat} {x i : Operand} {x' i' : X} {sz : Nat} (ht : P.underlying t = some (.array len e)) (hz : szB P e = some sz) (hS : RepS w σ β Z) (hE : RepE w (mem σ β Z) env a.tmps) (ho : o.op = .indexAddr t x i) (hx : xOf x = some x') (hi : xOf i = some i')
    (h : vop env σ Q (.idxA len sz x' i')) : Outc P o a w σ β Z Q := by
  obtain ⟨k, q, hn, h⟩ := withI_some h
  have e2 := rep_val (rep_opnd hE hi hn)
  have key : ∀ {ad : Addr}, a.eval x = .pointer (some ad) → 0 ≤ q → q < len → (execOp a.eval o).run P w = .ok (.value (.pointer (some (ad.add (q.toNat * sz))))) w := by
    intro ad hv h0 h1
    simp [execOp, ho, hv, e2, Instr.indexAt, Instr.sureAddr, asIntOf, run_underlying ht, h0, h1, run_sizeOf hz]
  split at h
  · rename_i id g off hs
    obtain ⟨ob, hob, rfl, h0, h1, hq⟩ := withO_some h
    obtain ⟨b, arr, hb, hv, _⟩ := rep_ptr hS hob (rep_opnd hE hx hs)
    have := key hv h0 h1
    rw [Addr.add_mid] at this
    exact outc_same hS this (rep_ptr_at hob hb) hq
  · rename_i cs hs
    obtain ⟨h0, h1, hl, h⟩ := h
    have hr := rep_opnd hE hx hs
    simp only [RepA, RepP] at hr
    obtain ⟨ad, vs, hv, hI, hR, hP⟩ := hr
    refine outc_same hS (key hv h0 h1) ?_ h
    simp only [RepA, RepP]
    exact ⟨_, _, rfl, by rw [block_add]; exact hI, hR.drop _, hP.drop _⟩
  · exact h.elim

theorem bnd_some {x : Option X} {y : Option Operand} {d : Int} {K : Int → Prop} (hE : RepE w (mem σ β Z) env a.tmps) (hx : optX y = some x) (h : bnd env x d K) :
    ∃ l, K l ∧ ((x = none ∧ y = none ∧ l = d) ∨ ∃ k, y.map a.eval = some (.int k l)) := by
  unfold bnd at h
  cases y with
  | none =>
    simp only [optX, Option.some.injEq] at hx
    subst hx
    exact ⟨d, h, .inl ⟨rfl, rfl, rfl⟩⟩
  | some y =>
    simp only [optX, Option.map_eq_some_iff] at hx
    obtain ⟨z, hz, rfl⟩ := hx
    obtain ⟨k, n, hn, h⟩ := withI_some h
    exact ⟨n, h, .inr ⟨k, by simp [rep_val (rep_opnd hE hz hn)]⟩⟩

theorem run_bounds {isS : Bool} {n c : Nat} {lo hi mx : Option Value} {l h m : Int} (hlo : (lo = none ∧ l = 0) ∨ ∃ k, lo = some (.int k l)) (hhi : (hi = none ∧ h = n ∧ mx = none) ∨ ∃ k, hi = some (.int k h)) (hmx : (mx = none ∧ m = c) ∨ ∃ k, mx = some (.int k m))
    (h0 : 0 ≤ l) (h1 : l ≤ h) (h2 : h ≤ m) (h3 : m ≤ c) : (Instr.sliceBounds isS n c lo hi mx).run P w = .ok (l.toNat, h.toNat, m.toNat) w := by
  have em : (m.toNat : Int) = m := Int.toNat_of_nonneg (by omega)
  have eh : (h.toNat : Int) = h := Int.toNat_of_nonneg (by omega)
  have b1 : ∀ (k : IntKind) (code : BoundsCode), (Instr.sliceBound (.int k m) c code).run P w = .ok m.toNat w := fun k code => run_sliceBound w k m c code (by omega) h3
  have b2 : ∀ (k : IntKind) (code : BoundsCode), (Instr.sliceBound (.int k h) m.toNat code).run P w = .ok h.toNat w := fun k code => run_sliceBound w k h m.toNat code (by omega) (by omega)
  have b3 : ∀ (k : IntKind) (code : BoundsCode), (Instr.sliceBound (.int k l) h.toNat code).run P w = .ok l.toNat w := fun k code => run_sliceBound w k l h.toNat code (by omega) (by omega)
  rcases hmx with ⟨rfl, hm⟩ | ⟨km, rfl⟩
  · have hmc : m.toNat = c := by omega
    rcases hhi with ⟨rfl, hh, _⟩ | ⟨kh, rfl⟩
    · have hhn : h.toNat = n := by omega
      rcases hlo with ⟨rfl, rfl⟩ | ⟨kl, rfl⟩
      · simp [Instr.sliceBounds, hmc, hhn]
      · have b3' := b3 kl .sliceB
        rw [hhn] at b3'
        simp [Instr.sliceBounds, hmc, hhn, b3']
    · have b2' := b2 kh (if isS then .sliceAcap else .sliceAlen)
      rw [hmc] at b2'
      rcases hlo with ⟨rfl, rfl⟩ | ⟨kl, rfl⟩
      · simp [Instr.sliceBounds, hmc, b2']
      · simp [Instr.sliceBounds, hmc, b2', b3]
  · rcases hhi with ⟨rfl, hh, hc⟩ | ⟨kh, rfl⟩
    · cases hc
    · rcases hlo with ⟨rfl, rfl⟩ | ⟨kl, rfl⟩
      · simp [Instr.sliceBounds, b1, b2]
      · simp [Instr.sliceBounds, b1, b2, b3]

theorem run_cut {t e : TypeId} {sz : Nat} (ht : P.underlying t = some (.slice e)) (hz : szB P e = some sz) {A : Option Addr} {n c : Nat} {lo hi mx : Option Value} {l h m : Int}
    (hb : (Instr.sliceBounds true n c lo hi mx).run P w = .ok (l.toNat, h.toNat, m.toNat) w) : (Instr.sliceAt t (.slice A n c) lo hi mx).run P w = .ok (.slice (if m.toNat = l.toNat then A else A.map (·.add (l.toNat * sz))) (h.toNat - l.toNat) (m.toNat - l.toNat)) w := by
  simp [Instr.sliceAt, Instr.slice, run_underlying ht, hb, run_sizeOf hz]

theorem o_cut {t e : TypeId} {x : Operand} {x' : X} {lo hi mx : Option Operand} {lo' hi' mx' : Option X} {sz : Nat} (ht : P.underlying t = some (.slice e)) (hz : szB P e = some sz) (hS : RepS w σ β Z) (hE : RepE w (mem σ β Z) env a.tmps) (ho : o.op = .slice t x lo hi mx)
    (hx : xOf x = some x') (hlo : optX lo = some lo') (hhi : optX hi = some hi') (hmx : optX mx = some mx') (hm : hi = none → mx = none) (h : vop env σ Q (.cut sz x' lo' hi' mx')) : Outc P o a w σ β Z Q := by
  simp only [vop] at h
  split at h
  · rename_i n cs hs
    obtain ⟨l, h, cl⟩ := bnd_some hE hlo h
    obtain ⟨hh, h, ch⟩ := bnd_some hE hhi h
    obtain ⟨m, h, cm⟩ := bnd_some hE hmx h
    obtain ⟨h0, h1, h2, rfl, hl, hq⟩ := h
    have hr := rep_opnd hE hx hs
    simp only [RepA, RepP] at hr
    obtain ⟨A, c, hv, hnc, hcm, h3⟩ := hr
    obtain ⟨m', hm', hmc, cm'⟩ : ∃ m' : Int, m ≤ m' ∧ m' ≤ c ∧ ((mx.map a.eval = none ∧ m' = c) ∨ ∃ k, mx.map a.eval = some (.int k m')) := by
      rcases cm with ⟨_, rfl, _⟩ | ⟨k, hk⟩
      · exact ⟨c, by omega, by omega, .inl ⟨rfl, rfl⟩⟩
      · exact ⟨m, by omega, by omega, .inr ⟨k, hk⟩⟩
    have hbd := run_bounds (P := P) (w := w) (isS := true) (n := n) (c := c) (lo := lo.map a.eval) (hi := hi.map a.eval) (mx := mx.map a.eval) (l := l) (h := m) (m := m')
      (by rcases cl with ⟨_, rfl, rfl⟩ | ⟨k, hk⟩; exact .inl ⟨rfl, rfl⟩; exact .inr ⟨k, hk⟩)
      (by rcases ch with ⟨_, rfl, rfl⟩ | ⟨k, hk⟩; exact .inl ⟨rfl, rfl, by rw [hm rfl]; rfl⟩; exact .inr ⟨k, hk⟩) cm' h0 h1 hm' hmc
    have hrun := run_cut (P := P) ht hz (A := A) hbd
    refine outc_same hS (r := .slice (if m'.toNat = l.toNat then A else A.map (·.add (l.toNat * sz))) (m.toNat - l.toNat) (m'.toNat - l.toNat)) (by simp [execOp, ho, hv, hrun]) ?_ hq
    simp only [RepA, RepP]
    refine ⟨_, _, rfl, by omega, by omega, ?_⟩
    rcases h3 with rfl | ⟨ad, vs, rfl, hI, hR, hP⟩
    · exact .inl (by simp)
    · by_cases hlm : m'.toNat = l.toNat
      · left
        have : m.toNat = l.toNat := by omega
        rw [this]
        simp
      · rw [if_neg hlm]
        exact .inr ⟨_, _, rfl, by rw [block_add]; exact hI, (hR.take _).drop _, (hP.take _).drop _⟩
  · rename_i id g off n s hs
    obtain ⟨rfl, hsz, hmn, h⟩ := h
    obtain ⟨ob, hob, rfl, h⟩ := withO_some h
    obtain ⟨l, h, cl⟩ := bnd_some hE hlo h
    obtain ⟨hh, h, ch⟩ := bnd_some hE hhi h
    obtain ⟨h0, h1, h2, hq⟩ := h
    simp only [br_dec] at hq
    have hmx0 : mx = none := by
      cases mx with
      | none => rfl
      | some y => simp only [optX, Option.map_eq_some_iff] at hmx; obtain ⟨z, _, rfl⟩ := hmx; simp at hmn
    subst hmx0
    have fin : ∀ {A : Option Addr} {c : Nat}, a.eval x = .slice A n c → n ≤ c → (execOp a.eval o).run P w = .ok (.value (.slice (if c = l.toNat then A else A.map (·.add (l.toNat * s))) (hh.toNat - l.toNat) (c - l.toNat))) w := by
      intro A c hv hnc
      have hbd := run_bounds (P := P) (w := w) (isS := true) (n := n) (c := c) (lo := lo.map a.eval) (hi := hi.map a.eval) (mx := none) (l := l) (h := hh) (m := c)
        (by rcases cl with ⟨_, rfl, rfl⟩ | ⟨k, hk⟩; exact .inl ⟨rfl, rfl⟩; exact .inr ⟨k, hk⟩)
        (by rcases ch with ⟨_, rfl, rfl⟩ | ⟨k, hk⟩; exact .inl ⟨rfl, rfl, rfl⟩; exact .inr ⟨k, hk⟩) (.inl ⟨rfl, rfl⟩) h0 h1 (by omega) (Int.le_refl _)
      have hrun := run_cut (P := P) ht hz (A := A) hbd
      simp only [Int.toNat_natCast] at hrun
      simp [execOp, ho, hv, hrun]
    have hr := rep_opnd hE hx hs
    have hid : id < σ.length := (List.getElem?_eq_some_iff.1 hob).1
    rcases rep_own hS hob hr with ⟨k1, k2, hv, rfl, rfl⟩ | ⟨bb, c, arr, k1, hv, k3, k4, k5, ⟨k6, k6'⟩, k7, k8⟩
    · have hl0 : l = 0 := by simp at h2; omega
      have hh0 : hh = 0 := by simp at h2; omega
      subst hl0 hh0
      rw [if_pos rfl] at hq
      refine outc_same hS (by simpa using fin hv (Nat.le_refl _)) ?_ hq
      simpa [hv] using hr
    · by_cases hl0 : l = 0
      · subst hl0
        rw [if_pos rfl] at hq
        have hrun := fin hv k3
        have e1 : (if c = Int.toNat 0 then some (⟨bb, off, none⟩ : Addr) else (some (⟨bb, off, none⟩ : Addr)).map (·.add (Int.toNat 0 * s))) = some ⟨bb, off, none⟩ := by
          split
          · rfl
          · simp [Addr.add]
        rw [e1] at hrun
        refine outc_same hS hrun ?_ hq
        simp only [RepA]
        refine ⟨⟨_, _, _, rfl⟩, by simpa [mem] using hid, fun g' B hal => ?_⟩
        rw [al_obj hob k1] at hal
        cases hal
        refine ⟨Nat.le_refl _, fun _ => .inr ⟨bb, c, arr, ob.e, rfl, by simp, by omega, k4, k5, k6, k6'⟩⟩
      · rw [if_neg hl0] at hq
        by_cases hlh : l < hh
        · rw [if_pos hlh] at hq
          have hrun := fin hv k3
          rw [if_neg (by omega)] at hrun
          simp only [Option.map_some, Addr.add_mid] at hrun
          refine outc_same hS hrun ?_ hq
          simp only [RepA]
          refine ⟨⟨_, _, _, rfl⟩, by simpa [mem] using hid, fun g' B hal => ?_⟩
          rw [al_obj hob k1] at hal
          cases hal
          have hls : 0 < l.toNat * s := Nat.mul_pos (by omega) hsz
          have hcs : l.toNat * s + (c - l.toNat) * s = c * s := by rw [← Nat.add_mul]; congr 1; omega
          exact ⟨Nat.le_refl _, fun _ => .inr ⟨bb, c - l.toNat, arr, ob.e, rfl, rfl, by omega, by omega, k5, by omega, by omega⟩⟩
        · rw [if_neg hlh] at hq
          refine outc_same hS (fin hv k3) ?_ hq
          simp only [RepA, RepP]
          have : hh.toNat - l.toNat = 0 := by omega
          rw [this]
          exact ⟨_, _, rfl, Nat.zero_le _, by omega, .inl (by first | rfl | trivial)⟩
  · exact h.elim

theorem o_cutS {t : TypeId} {x : Operand} {x' : X} {lo hi : Option Operand} {lo' hi' : Option X} (ht : P.underlying t = some .string) (hS : RepS w σ β Z) (hE : RepE w (mem σ β Z) env a.tmps) (ho : o.op = .slice t x lo hi none)
    (hx : xOf x = some x') (hlo : optX lo = some lo') (hhi : optX hi = some hi') (h : vop env σ Q (.cutS x' lo' hi')) : Outc P o a w σ β Z Q := by
  simp only [vop] at h
  split at h
  · rename_i s hs
    obtain ⟨l, h, cl⟩ := bnd_some hE hlo h
    obtain ⟨hh, h, ch⟩ := bnd_some hE hhi h
    obtain ⟨h0, h1, h2, hq⟩ := h
    have e1 := rep_val (rep_opnd hE hx hs)
    have hbd := run_bounds (P := P) (w := w) (isS := false) (n := s.size) (c := s.size) (lo := lo.map a.eval) (hi := hi.map a.eval) (mx := none) (l := l) (h := hh) (m := s.size)
        (by rcases cl with ⟨_, rfl, rfl⟩ | ⟨k, hk⟩; exact .inl ⟨rfl, rfl⟩; exact .inr ⟨k, hk⟩)
        (by rcases ch with ⟨_, rfl, rfl⟩ | ⟨k, hk⟩; exact .inl ⟨rfl, rfl, rfl⟩; exact .inr ⟨k, hk⟩) (.inl ⟨rfl, rfl⟩) h0 h1 h2 (Int.le_refl _)
    refine outc_same hS (r := .string (s.extract l.toNat hh.toNat)) ?_ (rep_val_mk _) hq
    simp [execOp, ho, e1, Instr.sliceAt, Instr.slice, run_underlying ht, hbd]
  · exact h.elim

theorem o_cutA {t e : TypeId} {len : Nat} {x : Operand} {x' : X} {lo hi : Option Operand} {lo' hi' : Option X} {sz : Nat} (ht : P.underlying t = some (.array len e)) (hz : szB P e = some sz) (hS : RepS w σ β Z) (hE : RepE w (mem σ β Z) env a.tmps) (ho : o.op = .slice t x lo hi none)
    (hx : xOf x = some x') (hlo : optX lo = some lo') (hhi : optX hi = some hi') (h : vop env σ Q (.cutA len sz x' lo' hi')) : Outc P o a w σ β Z Q := by
  simp only [vop] at h
  split at h
  · rename_i id g off hs
    obtain ⟨ob, hob, rfl, rfl, hk⟩ := withO_some h
    obtain ⟨l, h, cl⟩ := bnd_some hE hlo hk
    obtain ⟨hh, h, ch⟩ := bnd_some hE hhi h
    obtain ⟨h0, h1, h2, hsz, hlen, hcl, hq⟩ := h
    rw [br_dec] at hq
    obtain ⟨b, arr, hb, hv, hw, hcs, hsz'⟩ := rep_ptr hS hob (rep_opnd hE hx hs)
    have hbd := run_bounds (P := P) (w := w) (isS := false) (n := len) (c := len) (lo := lo.map a.eval) (hi := hi.map a.eval) (mx := none) (l := l) (h := hh) (m := len)
        (by rcases cl with ⟨_, rfl, rfl⟩ | ⟨k, hk⟩; exact .inl ⟨rfl, rfl⟩; exact .inr ⟨k, hk⟩)
        (by rcases ch with ⟨_, rfl, rfl⟩ | ⟨k, hk⟩; exact .inl ⟨rfl, rfl, rfl⟩; exact .inr ⟨k, hk⟩) (.inl ⟨rfl, rfl⟩) (by omega) h1 h2 (Int.le_refl _)
    have hrun : (execOp a.eval o).run P w = .ok (.value (.slice (some (if len = l.toNat then ⟨b, 0, none⟩ else ⟨b, 0 + l.toNat * sz, none⟩)) (hh.toNat - l.toNat) (len - l.toNat))) w := by
      simp [execOp, ho, hv, Instr.sliceAt, Instr.sureAddr, run_underlying ht, hbd, run_sizeOf hz, Addr.add_mid]
    have hml : len ≤ maxLen := maxLen_big hlen
    by_cases hlh : l < hh
    · rw [if_pos hlh] at hq
      rw [if_neg (by omega), Nat.zero_add] at hrun
      refine outc_same hS hrun ?_ hq
      simp only [RepA]
      refine ⟨⟨_, _, _, rfl⟩, by simpa [mem] using (List.getElem?_eq_some_iff.1 hob).1, fun g' B hal => ?_⟩
      rw [al_obj hob hb] at hal
      cases hal
      have hls : 0 < l.toNat * sz := Nat.mul_pos (by omega) hsz
      have hcs' : l.toNat * sz + (len - l.toNat) * sz = len * sz := by rw [← Nat.add_mul]; congr 1; omega
      exact ⟨Nat.le_refl _, fun _ => .inr ⟨b, len - l.toNat, arr, ob.e, rfl, rfl, by omega, by omega, hw, by omega, by omega⟩⟩
    · rw [if_neg hlh] at hq
      refine outc_same hS hrun ?_ hq
      simp only [RepA, RepP]
      have : hh.toNat - l.toNat = 0 := by omega
      rw [this]
      exact ⟨_, _, rfl, Nat.zero_le _, by omega, .inl (by first | rfl | trivial)⟩
  · exact h.elim

theorem run_part {t : TypeId} {ag : Bool} {sz off : Nat} {cs : Array Value} (ha : agB P t = some ag) (hz : szB P t = some sz) (hl : off + sz ≤ cs.size) :
    (ag = true → (part t cs off).run P w = .ok (.agg ((cs.toList.drop off).take sz).toArray) w) ∧ (ag = false → ∀ v, cs.toList[off]? = some v → (part t cs off).run P w = .ok v w) := by
  constructor
  · rintro rfl
    simp only [part, Sem.run_bind, run_isAgg ha, Result.andThen_ok, if_true, run_sizeOf hz, Sem.run_pure]
    congr 2
    apply Array.ext'
    simp [Array.toList_extract, List.extract_eq_take_drop]
  · rintro rfl v hv
    have : cs[off]? = some v := by simpa using hv
    simp [part, run_isAgg ha, this]

theorem o_getf {t : TypeId} {x : Operand} {x' : X} {fs : Array Field} {j : Nat} {f : Field} {ag : Bool} {sz : Nat} (ht : P.underlying t = some (.struct fs)) (hf : fs[j]? = some f) (ha : agB P f.type = some ag) (hz : szB P f.type = some sz) (hS : RepS w σ β Z) (hE : RepE w (mem σ β Z) env a.tmps)
    (ho : o.op = .field t x j) (hx : xOf x = some x') (h : vop env σ Q (.getf ag f.offset sz x')) : Outc P o a w σ β Z Q := by
  have key : ∀ {vs : Array Value} {r : Value}, a.eval x = .agg vs → (part f.type vs f.offset).run P w = .ok r w → (execOp a.eval o).run P w = .ok (.value r) w := by
    intro vs r hv hr
    simp [execOp, ho, hv, Instr.field, run_underlying ht, hf, asAgg, hr]
  simp only [vop] at h
  split at h
  · rename_i cs hs
    obtain ⟨hl, h⟩ := h
    have hr := rep_opnd hE hx hs
    simp only [RepA] at hr
    obtain ⟨vs, hv, hr⟩ := hr
    have hlen : f.offset + sz ≤ vs.size := by have := hr.length; simp at this; omega
    obtain ⟨p1, p2⟩ := run_part (P := P) (w := w) ha hz hlen
    obtain ⟨r, hq, q1, q2⟩ := mkV_rep ((hr.drop f.offset).take sz) h
    cases ag
    · obtain ⟨v, hv1, hv2⟩ := q2 rfl
      refine outc_same hS (key hv (p2 rfl v ?_)) hv2 hq
      have h0 : ((vs.toList.drop f.offset).take sz)[0]? = some v := by rw [hv1]; rfl
      rw [List.getElem?_take] at h0
      split at h0
      · simpa [List.getElem?_drop] using h0
      · cases h0
    · exact outc_same hS (key hv (p1 rfl)) (q1 rfl) hq
  · rename_i ps hs
    obtain ⟨hl, h⟩ := h
    have hr := rep_opnd hE hx hs
    simp only [RepA, RepP] at hr
    obtain ⟨vs, hv, hr⟩ := hr
    have hlen : f.offset + sz ≤ vs.size := by have := hr.length; simp at this; omega
    obtain ⟨p1, p2⟩ := run_part (P := P) (w := w) ha hz hlen
    cases ag
    · simp only [Bool.false_eq_true, if_false] at h
      split at h
      · rename_i p ps' hps
        have hd := hr.drop f.offset
        rw [hps] at hd
        simp only [RepPs] at hd
        obtain ⟨u, us, hu, _, h1, _⟩ := hd
        refine outc_same hS (key hv (p2 rfl u ?_)) (by simpa only [RepA] using h1) h
        have : (vs.toList.drop f.offset)[0]? = some u := by rw [hu]; rfl
        simpa [List.getElem?_drop] using this
      · exact h.elim
    · simp only [if_true] at h
      refine outc_same hS (key hv (p1 rfl)) ?_ h
      simp only [RepA, RepP]
      exact ⟨_, rfl, by simpa using (hr.drop f.offset).take sz⟩
  · exact h.elim

end

end Go.Vm
