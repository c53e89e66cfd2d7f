/- Vm, part L: calls: what is handed on, by value or by reference; what comes back. -/
import Derived.Test.YtlodbaikbgbhjaaVmK
set_option linter.unusedVariables false
set_option linter.unusedSimpArgs false
namespace Go.Vm
open Go Go.RowKit

mutual
def ids : AV → List Nat
  | .pu _ => []
  | .agg cs => idss cs
  | .tup cs => idss cs
  | .own id _ _ _ _ => [id]
  | .ptr id _ _ => [id]
  | .ifc _ x => ids x
  | .fn _ fi ca => idss fi ++ idss ca
def idss : List AV → List Nat
  | [] => []
  | c :: cs => ids c ++ idss cs
end

mutual
/-- Does it lead to an object by a pointer? Such a thing is handed on by reference. -/
def hasPtr : AV → Bool
  | .pu _ => false
  | .agg cs => hasPtrs cs
  | .tup cs => hasPtrs cs
  | .own _ _ _ _ _ => false
  | .ptr _ _ _ => true
  | .ifc _ x => hasPtr x
  | .fn _ fi ca => hasPtrs fi || hasPtrs ca
def hasPtrs : List AV → Bool
  | [] => false
  | c :: cs => hasPtr c || hasPtrs cs
end

mutual
def ren (ρ : Nat → Option Nat) : AV → Option AV
  | .pu p => some (.pu p)
  | .agg cs => (rens ρ cs).map .agg
  | .tup cs => (rens ρ cs).map .tup
  | .own id g off n sz => (ρ id).map fun j => .own j g off n sz
  | .ptr id g off => (ρ id).map fun j => .ptr j g off
  | .ifc t x => (ren ρ x).map (.ifc t)
  | .fn f fi ca => match rens ρ fi, rens ρ ca with
    | some a, some b => some (.fn f a b)
    | _, _ => none
def rens (ρ : Nat → Option Nat) : List AV → Option (List AV)
  | [] => some []
  | c :: cs => match ren ρ c, rens ρ cs with
    | some a, some b => some (a :: b)
    | _, _ => none
end

mutual
def noSlP : PV → Bool
  | .val _ => true
  | .agg cs => noSlPs cs
  | .tup cs => noSlPs cs
  | .sl _ _ => false
  | .rp _ => false
  | .ifc _ x => noSlP x
  | .fn _ fi ca => noSlPs fi && noSlPs ca
def noSlPs : List PV → Bool
  | [] => true
  | c :: cs => noSlP c && noSlPs cs
end
mutual
def noSl : AV → Bool
  | .pu p => noSlP p
  | .agg cs => noSls cs
  | .tup cs => noSls cs
  | .own _ _ _ _ _ => true
  | .ptr _ _ _ => true
  | .ifc _ x => noSl x
  | .fn _ fi ca => noSls fi && noSls ca
def noSls : List AV → Bool
  | [] => true
  | c :: cs => noSl c && noSls cs
end
def noSlSt : St → Bool
  | [] => true
  | none :: τ => noSlSt τ
  | some o :: τ => noSls o.cs && noSlSt τ

def idx (I : List Nat) (id : Nat) : Option Nat := match I with
  | [] => none
  | x :: r => if x = id then some 0 else (idx r id).map (· + 1)
def nodupB : List Nat → Bool
  | [] => true
  | x :: r => !(r.contains x) && nodupB r
def addNew (I : List Nat) : List Nat → List Nat
  | [] => I
  | id :: l => addNew (if I.contains id then I else I ++ [id]) l
def growI (σ : St) (acc : List Nat) : List Nat → List Nat
  | [] => acc
  | id :: l => growI σ (match σ[id]? with | some (some o) => addNew acc (idss o.cs) | _ => acc) l
def closeN (σ : St) : Nat → List Nat → List Nat
  | 0, I => I
  | k + 1, I => if (growI σ I I).length = I.length then I else closeN σ k (growI σ I I)
def refIds : List Bool → List AV → List Nat
  | true :: bs, a :: as => ids a ++ refIds bs as
  | false :: bs, _ :: as => refIds bs as
  | [], a :: as => match hasPtr a with
    | true => ids a ++ refIds [] as
    | false => refIds [] as
  | _, [] => []
def objsOf (σ : St) (I : List Nat) : List Nat → Option (List VObj)
  | [] => some []
  | id :: l => match σ[id]? with
    | some (some o) => match rens (idx I) o.cs, objsOf σ I l with
      | some cs, some r => some (⟨o.e, o.g, cs⟩ :: r)
      | _, _ => none
    | _ => none
def isPu : AV → Bool
  | .pu _ => true
  | _ => false
def byVal (σ : St) (I : List Nat) (a : AV) (k : Option (List AV × Bool)) : Option (List AV × Bool) := match snap σ a, k with
  | some p, some (r, b) => if (ids a).all (fun id => !I.contains id) then some (.pu p :: r, b || !isPu a) else none
  | _, _ => none
def byRef (I : List Nat) (a : AV) (k : Option (List AV × Bool)) : Option (List AV × Bool) := match ren (idx I) a, k with
  | some a', some (r, b) => some (a' :: r, b)
  | _, _ => none
/-- arguments; was any of them lent by value out of an object? Where nothing is said pointers go by reference, all else by value. -/
def passArgs (σ : St) (I : List Nat) : List Bool → List AV → Option (List AV × Bool)
  | _, [] => some ([], false)
  | true :: bs, a :: as => byRef I a (passArgs σ I bs as)
  | false :: bs, a :: as => byVal σ I a (passArgs σ I bs as)
  | [], a :: as => match hasPtr a with
    | true => byRef I a (passArgs σ I [] as)
    | false => byVal σ I a (passArgs σ I [] as)
def back (I : List Nat) (base : Nat) (j : Nat) : Option Nat := match I[j]? with
  | some id => some id
  | none => some (base + (j - I.length))
def renSt (ρ : Nat → Option Nat) : St → Option St
  | [] => some []
  | none :: τ => (renSt ρ τ).map (none :: ·)
  | some o :: τ => match rens ρ o.cs, renSt ρ τ with
    | some cs, some r => some (some ⟨o.e, o.g, cs⟩ :: r)
    | _, _ => none
def setAll {γ : Type} : List γ → List Nat → List γ → List γ
  | l, id :: I, x :: τ => setAll (l.set id x) I τ
  | l, _, _ => l

/-- What a function is taken to do: of arguments, and the objects that they lead to: what is asked of the result, those objects and the new ones behind. -/
abbrev Spec := List AV → List VObj → (AV → St → Prop) → Prop

def backQ (I : List Nat) (n : Nat) (bor : Bool) (σ : St) (Q : AV → St → Prop) (r : AV) (τ : St) : Prop :=
  I.length ≤ τ.length ∧ (bor = true → noSl r = true ∧ noSlSt τ = true) ∧
      match ren (back I n) r, renSt (back I n) τ with
      | some r', some τ' => Q r' (setAll σ I τ' ++ τ'.drop I.length)
      | _, _ => False
def vcall (R : Spec) (by_ : List Bool) (as : List AV) (σ : St) (Q : AV → St → Prop) : Prop :=
  let I := closeN σ 6 (addNew [] (refIds by_ as))
  nodupB I = true ∧ match objsOf σ I I, passArgs σ I by_ as with
  | some objs, some (args, bor) => ∃ K, R args objs K ∧ ∀ r τ, K r τ → backQ I σ.length bor σ Q r τ
  | _, _ => False

/-- objects that are for good from here on -/
def killAll : St → List Nat → St
  | σ, [] => σ
  | σ, id :: l => killAll (σ.set id none) l
/-- A call, in a form that no reduction takes apart: as it is, or with the rows that are handed on for good from here on. -/
inductive VCall (R : Spec) (by_ : List Bool) (as : List AV) (σ : St) (Q : AV → St → Prop) : Prop where
  | mk (h : vcall R by_ as σ Q)
  | frz (ps : List PV) (hs : snaps σ as = some ps) (h : vcall R [] (ps.map .pu) (killAll σ (idss as)) Q)

/-! ### renaming -/
mutual
theorem ren_rep {w : World} {M M' : Mem} {ρ : Nat → Option Nat} (H : ∀ id j, ρ id = some j → id < M.n → j < M'.n ∧ ∀ g B, M'.al j = some (g, B) → M.al id = some (g, B)) (HI : (∀ b, M.imm w b → M'.imm w b)) :
    ∀ (x y : AV) (v : Value), ren ρ x = some y → RepA w M x v → RepA w M' y v
  | .pu p, y, v, h, hr => by
    simp only [ren, Option.some.injEq] at h
    subst h
    simp only [RepA] at hr ⊢
    exact RepP.mono (fun b hb => ⟨rfl, HI b hb⟩) _ _ hr
  | .agg cs, y, v, h, hr => by
    simp only [ren] at h
    obtain ⟨ds, hd, rfl⟩ := map_some h
    simp only [RepA] at hr ⊢
    obtain ⟨vs, rfl, hr⟩ := hr
    exact ⟨vs, rfl, rens_rep H HI _ _ _ hd hr⟩
  | .tup cs, y, v, h, hr => by
    simp only [ren] at h
    obtain ⟨ds, hd, rfl⟩ := map_some h
    simp only [RepA] at hr ⊢
    obtain ⟨vs, rfl, hr⟩ := hr
    exact ⟨vs, rfl, rens_rep H HI _ _ _ hd hr⟩
  | .own id g off n sz, y, v, h, hr => by
    simp only [ren] at h
    obtain ⟨j, hj, rfl⟩ := map_some h
    simp only [RepA] at hr ⊢
    obtain ⟨h1, h2⟩ := H id j hj hr.2.1
    exact ⟨hr.1, h1, fun g' B hal => hr.2.2 g' B (h2 g' B hal)⟩
  | .ptr id g off, y, v, h, hr => by
    simp only [ren] at h
    obtain ⟨j, hj, rfl⟩ := map_some h
    simp only [RepA] at hr ⊢
    obtain ⟨h1, h2⟩ := H id j hj hr.2.1
    exact ⟨hr.1, h1, fun g' B hal => hr.2.2 g' B (h2 g' B hal)⟩
  | .ifc t x, y, v, h, hr => by
    simp only [ren] at h
    obtain ⟨z, hz, rfl⟩ := map_some h
    simp only [RepA] at hr ⊢
    obtain ⟨u, rfl, hr⟩ := hr
    exact ⟨u, rfl, ren_rep H HI _ _ _ hz hr⟩
  | .fn f fi ca, y, v, h, hr => by
    simp only [ren] at h
    split at h
    · rename_i a b ha hb
      simp only [Option.some.injEq] at h
      subst h
      simp only [RepA] at hr ⊢
      obtain ⟨u, u', rfl, h1, h2⟩ := hr
      exact ⟨u, u', rfl, rens_rep H HI _ _ _ ha h1, rens_rep H HI _ _ _ hb h2⟩
    · cases h
theorem rens_rep {w : World} {M M' : Mem} {ρ : Nat → Option Nat} {one : Bool} (H : ∀ id j, ρ id = some j → id < M.n → j < M'.n ∧ ∀ g B, M'.al j = some (g, B) → M.al id = some (g, B)) (HI : (∀ b, M.imm w b → M'.imm w b)) :
    ∀ (xs ys : List AV) (vs : List Value), rens ρ xs = some ys → RepAs w M one xs vs → RepAs w M' one ys vs
  | [], ys, vs, h, hr => by
    simp only [rens, Option.some.injEq] at h
    subst h
    simpa only [RepAs] using hr
  | c :: cs, ys, vs, h, hr => by
    simp only [rens] at h
    split at h
    · rename_i a b ha hb
      simp only [Option.some.injEq] at h
      subst h
      simp only [RepAs] at hr ⊢
      obtain ⟨u, us, rfl, h0, h1, h2⟩ := hr
      exact ⟨u, us, rfl, h0, ren_rep H HI _ _ _ ha h1, rens_rep H HI _ _ _ hb h2⟩
    · cases h
end

/-! ### where no slice of the immutable stands, nothing of it is asked -/
mutual
theorem noSlP_rep {w w' : World} {I I' : Nat → Prop} : ∀ (p : PV) (v : Value), noSlP p = true → RepP w I p v → RepP w' I' p v
  | .val u, v, h, hr => by simpa only [RepP] using hr
  | .agg cs, v, h, hr => by
    simp only [noSlP] at h
    simp only [RepP] at hr ⊢
    obtain ⟨vs, rfl, hr⟩ := hr
    exact ⟨vs, rfl, noSlPs_rep _ _ h hr⟩
  | .tup cs, v, h, hr => by
    simp only [noSlP] at h
    simp only [RepP] at hr ⊢
    obtain ⟨vs, rfl, hr⟩ := hr
    exact ⟨vs, rfl, noSlPs_rep _ _ h hr⟩
  | .sl _ _, v, h, hr => by simp [noSlP] at h
  | .rp _, v, h, hr => by simp [noSlP] at h
  | .ifc t x, v, h, hr => by
    simp only [noSlP] at h
    simp only [RepP] at hr ⊢
    obtain ⟨u, rfl, hr⟩ := hr
    exact ⟨u, rfl, noSlP_rep _ _ h hr⟩
  | .fn f fi ca, v, h, hr => by
    simp only [noSlP, Bool.and_eq_true] at h
    simp only [RepP] at hr ⊢
    obtain ⟨u, u', rfl, h1, h2⟩ := hr
    exact ⟨u, u', rfl, noSlPs_rep _ _ h.1 h1, noSlPs_rep _ _ h.2 h2⟩
theorem noSlPs_rep {w w' : World} {I I' : Nat → Prop} {one : Bool} : ∀ (cs : List PV) (vs : List Value), noSlPs cs = true → RepPs w I one cs vs → RepPs w' I' one cs vs
  | [], vs, h, hr => by simpa only [RepPs] using hr
  | c :: cs, vs, h, hr => by
    simp only [noSlPs, Bool.and_eq_true] at h
    simp only [RepPs] at hr ⊢
    obtain ⟨u, us, rfl, h0, h1, h2⟩ := hr
    exact ⟨u, us, rfl, h0, noSlP_rep _ _ h.1 h1, noSlPs_rep _ _ h.2 h2⟩
end

mutual
theorem renNo_rep {w : World} {M M' : Mem} {ρ : Nat → Option Nat} (H : ∀ id j, ρ id = some j → id < M.n → j < M'.n ∧ ∀ g B, M'.al j = some (g, B) → M.al id = some (g, B)) :
    ∀ (x y : AV) (v : Value), noSl x = true → ren ρ x = some y → RepA w M x v → RepA w M' y v
  | .pu p, y, v, hn, h, hr => by
    simp only [ren, Option.some.injEq] at h
    subst h
    simp only [noSl] at hn
    simp only [RepA] at hr ⊢
    exact noSlP_rep _ _ hn hr
  | .agg cs, y, v, hn, h, hr => by
    simp only [noSl] at hn
    simp only [ren] at h
    obtain ⟨ds, hd, rfl⟩ := map_some h
    simp only [RepA] at hr ⊢
    obtain ⟨vs, rfl, hr⟩ := hr
    exact ⟨vs, rfl, rensNo_rep H _ _ _ hn hd hr⟩
  | .tup cs, y, v, hn, h, hr => by
    simp only [noSl] at hn
    simp only [ren] at h
    obtain ⟨ds, hd, rfl⟩ := map_some h
    simp only [RepA] at hr ⊢
    obtain ⟨vs, rfl, hr⟩ := hr
    exact ⟨vs, rfl, rensNo_rep H _ _ _ hn hd hr⟩
  | .own id g off n sz, y, v, hn, h, hr => by
    simp only [ren] at h
    obtain ⟨j, hj, rfl⟩ := map_some h
    simp only [RepA] at hr ⊢
    obtain ⟨h1, h2⟩ := H id j hj hr.2.1
    exact ⟨hr.1, h1, fun g' B hal => hr.2.2 g' B (h2 g' B hal)⟩
  | .ptr id g off, y, v, hn, h, hr => by
    simp only [ren] at h
    obtain ⟨j, hj, rfl⟩ := map_some h
    simp only [RepA] at hr ⊢
    obtain ⟨h1, h2⟩ := H id j hj hr.2.1
    exact ⟨hr.1, h1, fun g' B hal => hr.2.2 g' B (h2 g' B hal)⟩
  | .ifc t x, y, v, hn, h, hr => by
    simp only [noSl] at hn
    simp only [ren] at h
    obtain ⟨z, hz, rfl⟩ := map_some h
    simp only [RepA] at hr ⊢
    obtain ⟨u, rfl, hr⟩ := hr
    exact ⟨u, rfl, renNo_rep H _ _ _ hn hz hr⟩
  | .fn f fi ca, y, v, hn, h, hr => by
    simp only [noSl, Bool.and_eq_true] at hn
    simp only [ren] at h
    split at h
    · rename_i a b ha hb
      simp only [Option.some.injEq] at h
      subst h
      simp only [RepA] at hr ⊢
      obtain ⟨u, u', rfl, h1, h2⟩ := hr
      exact ⟨u, u', rfl, rensNo_rep H _ _ _ hn.1 ha h1, rensNo_rep H _ _ _ hn.2 hb h2⟩
    · cases h
theorem rensNo_rep {w : World} {M M' : Mem} {ρ : Nat → Option Nat} {one : Bool} (H : ∀ id j, ρ id = some j → id < M.n → j < M'.n ∧ ∀ g B, M'.al j = some (g, B) → M.al id = some (g, B)) :
    ∀ (xs ys : List AV) (vs : List Value), noSls xs = true → rens ρ xs = some ys → RepAs w M one xs vs → RepAs w M' one ys vs
  | [], ys, vs, hn, h, hr => by
    simp only [rens, Option.some.injEq] at h
    subst h
    simpa only [RepAs] using hr
  | c :: cs, ys, vs, hn, h, hr => by
    simp only [noSls, Bool.and_eq_true] at hn
    simp only [rens] at h
    split at h
    · rename_i a b ha hb
      simp only [Option.some.injEq] at h
      subst h
      simp only [RepAs] at hr ⊢
      obtain ⟨u, us, rfl, h0, h1, h2⟩ := hr
      exact ⟨u, us, rfl, h0, renNo_rep H _ _ _ hn.1 ha h1, rensNo_rep H _ _ _ hn.2 hb h2⟩
    · cases h
end

/-! ### snapshots -/
section
variable {w : World} {σ : St} {β : List (Option Nat)} {Z : Nat → Prop}

mutual
theorem snap_rep (hS : RepS w σ β Z) {J : Nat → Prop} (HI : ∀ b, (mem σ β Z).imm w b → J b) : ∀ (x : AV) (p : PV) (v : Value), snap σ x = some p → RepA w (mem σ β Z) x v →
    (∀ id ∈ ids x, ∀ g b, (mem σ β Z).al id = some (g, some b) → J b) → RepP w J p v
  | .pu q, p, v, h, hr, hj => by
    simp only [snap, Option.some.injEq] at h
    subst h
    simp only [RepA] at hr
    exact RepP.mono (fun b hb => ⟨rfl, HI b hb⟩) _ _ hr
  | .agg cs, p, v, h, hr, hj => by
    simp only [snap] at h
    obtain ⟨ds, hd, rfl⟩ := map_some h
    simp only [RepA] at hr
    simp only [RepP]
    obtain ⟨vs, rfl, hr⟩ := hr
    exact ⟨vs, rfl, snaps_rep hS HI _ _ _ hd hr (by simpa only [ids] using hj)⟩
  | .tup cs, p, v, h, hr, hj => by
    simp only [snap] at h
    obtain ⟨ds, hd, rfl⟩ := map_some h
    simp only [RepA] at hr
    simp only [RepP]
    obtain ⟨vs, rfl, hr⟩ := hr
    exact ⟨vs, rfl, snaps_rep hS HI _ _ _ hd hr (by simpa only [ids] using hj)⟩
  | .own id g off n sz, p, v, h, hr, hj => by
    simp only [snap] at h
    split at h
    · rename_i ob hob
      split at h
      · rename_i hg
        subst hg
        obtain ⟨ps, hps, rfl⟩ := map_some h
        simp only [RepP]
        rcases rep_own hS hob hr with ⟨k1, k2, rfl, rfl, rfl⟩ | ⟨b, c, arr, k1, rfl, k3, k4, k5, k6, k7, k8⟩
        · refine ⟨_, _, rfl, Nat.le_refl _, by simp [maxLen], .inl ?_⟩
          rw [k2] at hps
          simp [unpus] at hps
          exact hps
        · refine ⟨_, _, rfl, k3, k4, .inr ⟨_, _, rfl, hj id (by simp [ids]) _ _ (al_obj hob k1), ((reads_block off k5).take (ob.cs.length - off)).take (n * sz), ?_⟩⟩
          have hcs : RepAs w (mem σ β Z) true ((ob.cs.drop off).take (n * sz)) (((arr.toList.take ob.cs.length).drop off).take (n * sz)) := (k7.drop off).take (n * sz)
          rw [unpus_some hps, List.drop_take] at hcs
          exact RepPs.mono (fun b hb => ⟨rfl, HI b hb⟩) _ _ hcs.to_pu
      · cases h
    · cases h
  | .ptr id g off, p, v, h, hr, hj => by
    simp only [snap] at h
    split at h
    · rename_i ob hob
      split at h
      · rename_i hg
        subst hg
        obtain ⟨ps, hps, rfl⟩ := map_some h
        simp only [RepP]
        obtain ⟨b, arr, hb, hv, hw, hcs, hsz⟩ := rep_ptr hS hob hr
        refine ⟨_, _, hv, hj id (by simp [ids]) _ _ (al_obj hob hb), (reads_block off hw).take (ob.cs.length - off), ?_⟩
        have hcs' : RepAs w (mem σ β Z) true (ob.cs.drop off) ((arr.toList.take ob.cs.length).drop off) := hcs.drop off
        rw [unpus_some hps, List.drop_take] at hcs'
        exact RepPs.mono (fun b hb => ⟨rfl, HI b hb⟩) _ _ hcs'.to_pu
      · cases h
    · cases h
  | .ifc t x, p, v, h, hr, hj => by
    simp only [snap] at h
    obtain ⟨q, hq, rfl⟩ := map_some h
    simp only [RepA] at hr
    simp only [RepP]
    obtain ⟨u, rfl, hr⟩ := hr
    exact ⟨u, rfl, snap_rep hS HI _ _ _ hq hr (by simpa only [ids] using hj)⟩
  | .fn f fi ca, p, v, h, hr, hj => by
    simp only [snap] at h
    split at h
    · rename_i a b ha hb
      simp only [Option.some.injEq] at h
      subst h
      simp only [RepA] at hr
      simp only [RepP]
      obtain ⟨u, u', rfl, h1, h2⟩ := hr
      exact ⟨u, u', rfl, snaps_rep hS HI _ _ _ ha h1 (fun id hid => hj id (by simp [ids, hid])), snaps_rep hS HI _ _ _ hb h2 (fun id hid => hj id (by simp [ids, hid]))⟩
    · cases h
theorem snaps_rep {one : Bool} (hS : RepS w σ β Z) {J : Nat → Prop} (HI : ∀ b, (mem σ β Z).imm w b → J b) : ∀ (xs : List AV) (ps : List PV) (vs : List Value), snaps σ xs = some ps → RepAs w (mem σ β Z) one xs vs →
    (∀ id ∈ idss xs, ∀ g b, (mem σ β Z).al id = some (g, some b) → J b) → RepPs w J one ps vs
  | [], ps, vs, h, hr, hj => by
    simp only [snaps, Option.some.injEq] at h
    subst h
    simpa only [RepAs, RepPs] using hr
  | c :: cs, ps, vs, h, hr, hj => by
    simp only [snaps] at h
    split at h
    · rename_i a b ha hb
      simp only [Option.some.injEq] at h
      subst h
      simp only [RepAs] at hr
      simp only [RepPs]
      obtain ⟨u, us, rfl, h0, h1, h2⟩ := hr
      exact ⟨u, us, rfl, h0, snap_rep hS HI _ _ _ ha h1 (fun id hid => hj id (by simp [idss, hid])), snaps_rep hS HI _ _ _ hb h2 (fun id hid => hj id (by simp [idss, hid]))⟩
    · cases h
end
end

/-! ### lists of ids -/
theorem idx_some : ∀ {I : List Nat} {id j : Nat}, idx I id = some j → I[j]? = some id
  | [], _, _, h => by simp [idx] at h
  | x :: r, id, j, h => by
    simp only [idx] at h
    split at h
    · rename_i hx
      simp only [Option.some.injEq] at h
      subst h
      simp [hx]
    · obtain ⟨k, hk, rfl⟩ := map_some h
      simpa using idx_some hk
theorem nodup_inj : ∀ {I : List Nat}, nodupB I = true → ∀ {i j id : Nat}, I[i]? = some id → I[j]? = some id → i = j
  | [], _, i, j, id, h, _ => by simp at h
  | x :: r, hn, i, j, id, hi, hj => by
    simp only [nodupB, Bool.and_eq_true, Bool.not_eq_true', List.contains_eq_mem, decide_eq_false_iff_not] at hn
    cases i with
    | zero =>
      cases j with
      | zero => rfl
      | succ j =>
        simp at hi hj
        subst hi
        exact absurd (List.mem_of_getElem? hj) hn.1
    | succ i =>
      cases j with
      | zero =>
        simp at hi hj
        subst hj
        exact absurd (List.mem_of_getElem? hi) hn.1
      | succ j =>
        simp at hi hj
        rw [nodup_inj hn.2 hi hj]
theorem setAll_length {γ : Type} : ∀ (l : List γ) (I : List Nat) (τ : List γ), (setAll l I τ).length = l.length
  | l, [], τ => by simp [setAll]
  | l, id :: I, [] => by simp [setAll]
  | l, id :: I, x :: τ => by simp [setAll, setAll_length]
theorem setAll_out {γ : Type} : ∀ (l : List γ) (I : List Nat) (τ : List γ) (i : Nat), i ∉ I → (setAll l I τ)[i]? = l[i]?
  | l, [], τ, i, h => by simp [setAll]
  | l, id :: I, [], i, h => by simp [setAll]
  | l, id :: I, x :: τ, i, h => by
    simp only [List.mem_cons, not_or] at h
    rw [setAll, setAll_out _ I τ i h.2, List.getElem?_set_ne (Ne.symm h.1)]
theorem setAll_in {γ : Type} : ∀ (l : List γ) (I : List Nat) (τ : List γ), nodupB I = true → ∀ (j i : Nat) (x : γ), I[j]? = some i → τ[j]? = some x → i < l.length → (setAll l I τ)[i]? = some x
  | l, [], τ, hn, j, i, x, h, _, _ => by simp at h
  | l, id :: I, [], hn, j, i, x, _, h, _ => by simp at h
  | l, id :: I, y :: τ, hn, j, i, x, h1, h2, h3 => by
    have hn' := hn
    simp only [nodupB, Bool.and_eq_true, Bool.not_eq_true', List.contains_eq_mem, decide_eq_false_iff_not] at hn'
    cases j with
    | zero =>
      simp at h1 h2
      subst h1 h2
      rw [setAll, setAll_out _ I τ id hn'.1, List.getElem?_set_self h3]
    | succ j =>
      simp at h1 h2
      rw [setAll]
      exact setAll_in _ I τ hn'.2 j i x h1 h2 (by simpa using h3)

theorem objsOf_some {σ : St} {I0 : List Nat} : ∀ {I : List Nat} {objs : List VObj}, objsOf σ I0 I = some objs → objs.length = I.length ∧
    ∀ (j id : Nat), I[j]? = some id → ∃ (o : VObj) (cs : List AV), σ[id]? = some (some o) ∧ rens (idx I0) o.cs = some cs ∧ objs[j]? = some (VObj.mk o.e o.g cs)
  | [], objs, h => by
    simp only [objsOf, Option.some.injEq] at h
    subst h
    exact ⟨rfl, by simp⟩
  | i :: I, objs, h => by
    simp only [objsOf] at h
    split at h
    · rename_i o ho
      split at h
      · rename_i cs r hcs hr
        simp only [Option.some.injEq] at h
        subst h
        obtain ⟨h1, h2⟩ := objsOf_some hr
        refine ⟨by simp [h1], fun j id hj => ?_⟩
        cases j with
        | zero => simp at hj; subst hj; exact ⟨o, cs, ho, hcs, by simp⟩
        | succ j => simp at hj; obtain ⟨o', cs', k1, k2, k3⟩ := h2 j id hj; exact ⟨o', cs', k1, k2, by simpa using k3⟩
      · cases h
    · cases h
theorem renSt_some {ρ : Nat → Option Nat} : ∀ {τ τ' : St}, renSt ρ τ = some τ' → τ'.length = τ.length ∧
    ∀ (j : Nat), (τ[j]? = some none → τ'[j]? = some none) ∧ (∀ o : VObj, τ[j]? = some (some o) → ∃ cs, rens ρ o.cs = some cs ∧ τ'[j]? = some (some (VObj.mk o.e o.g cs)))
  | [], τ', h => by
    simp only [renSt, Option.some.injEq] at h
    subst h
    exact ⟨rfl, by simp⟩
  | none :: τ, τ', h => by
    simp only [renSt] at h
    obtain ⟨r, hr, rfl⟩ := map_some h
    obtain ⟨h1, h2⟩ := renSt_some hr
    refine ⟨by simp [h1], fun j => ?_⟩
    cases j with
    | zero => simp
    | succ j => simpa using h2 j
  | some o :: τ, τ', h => by
    simp only [renSt] at h
    split at h
    · rename_i cs r hcs hr
      simp only [Option.some.injEq] at h
      subst h
      obtain ⟨h1, h2⟩ := renSt_some hr
      refine ⟨by simp [h1], fun j => ?_⟩
      cases j with
      | zero => simp [hcs]
      | succ j => simpa using h2 j
    · cases h

/-! ### what is handed on -/
section
variable {w : World} {σ : St} {β : List (Option Nat)} {Z : Nat → Prop}

/-- The blocks that whoever is called is to leave out of what it takes for immutable. -/
def avoid (σ : St) (β : List (Option Nat)) (Z : Nat → Prop) (I : List Nat) (bor : Bool) (b : Nat) : Prop :=
  Z b ∨ (bor = false ∧ ∃ id g, id ∉ I ∧ (mem σ β Z).al id = some (g, some b))

def subBlocks (β : List (Option Nat)) (I : List Nat) : List (Option Nat) := I.map fun id => (β[id]?).join

theorem sub_al {I : List Nat} {objs : List VObj} (hS : RepS w σ β Z) (ho : objsOf σ I I = some objs) {Zc : Nat → Prop} {j g : Nat} {B : Option Nat} :
    (mem (objs.map some) (subBlocks β I) Zc).al j = some (g, B) ↔ ∃ id, I[j]? = some id ∧ (mem σ β Z).al id = some (g, B) := by
  obtain ⟨hl, hobj⟩ := objsOf_some ho
  rw [mem_al]
  constructor
  · rintro ⟨o, h1, h2, h3⟩
    have hj : j < I.length := by
      have := (List.getElem?_eq_some_iff.1 h1).1
      simp at this
      omega
    have hid : I[j]? = some I[j] := List.getElem?_eq_getElem hj
    obtain ⟨o', cs, k1, k2, k3⟩ := hobj j _ hid
    refine ⟨_, hid, mem_al.2 ⟨o', k1, ?_, ?_⟩⟩
    · simp [k3] at h1
      subst h1
      exact h2
    · rw [← h3, subBlocks]
      simp [hj]
  · rintro ⟨id, hid, hal⟩
    obtain ⟨o', k1, k2, k3⟩ := mem_al.1 hal
    obtain ⟨o'', cs, q1, q2, q3⟩ := hobj j id hid
    rw [k1] at q1
    cases q1
    exact ⟨⟨o'.e, o'.g, cs⟩, by simp [q3], k2, by rw [← k3, subBlocks]; simp [hid]⟩

theorem sub_live {I : List Nat} {objs : List VObj} (hS : RepS w σ β Z) (ho : objsOf σ I I = some objs) {Zc : Nat → Prop} {b : Nat} (h : (mem (objs.map some) (subBlocks β I) Zc).live b) : ∃ id g, id ∈ I ∧ (mem σ β Z).al id = some (g, some b) := by
  obtain ⟨j, g, hal⟩ := h
  obtain ⟨id, hid, hal⟩ := (sub_al hS ho).1 hal
  exact ⟨id, g, List.mem_of_getElem? hid, hal⟩

theorem sub_imm {I : List Nat} {objs : List VObj} {bor : Bool} (hS : RepS w σ β Z) (ho : objsOf σ I I = some objs) : ∀ b, (mem σ β Z).imm w b → (mem (objs.map some) (subBlocks β I) (avoid σ β Z I bor)).imm w b := by
  intro b ⟨h1, h2, h3⟩
  refine ⟨h1, fun hl => ?_, fun ha => ?_⟩
  · obtain ⟨id, g, _, hal⟩ := sub_live hS ho hl
    exact h2 ⟨id, g, hal⟩
  · rcases ha with ha | ⟨_, id, g, _, hal⟩
    · exact h3 ha
    · exact h2 ⟨id, g, hal⟩

theorem sub_H {I : List Nat} {objs : List VObj} {Zc : Nat → Prop} (hS : RepS w σ β Z) (hn : nodupB I = true) (ho : objsOf σ I I = some objs) : ∀ id j, idx I id = some j → id < (mem σ β Z).n → j < (mem (objs.map some) (subBlocks β I) Zc).n ∧ ∀ g B, (mem (objs.map some) (subBlocks β I) Zc).al j = some (g, B) → (mem σ β Z).al id = some (g, B) := by
  intro id j hj _
  have h1 := idx_some hj
  obtain ⟨hl, _⟩ := objsOf_some ho
  refine ⟨?_, fun g B hal => ?_⟩
  · have := (List.getElem?_eq_some_iff.1 h1).1
    simp [mem]
    omega
  · obtain ⟨id', h2, h3⟩ := (sub_al hS ho).1 hal
    rw [h1] at h2
    cases h2
    exact h3

theorem sub_rep {I : List Nat} {objs : List VObj} {bor : Bool} (hS : RepS w σ β Z) (hn : nodupB I = true) (ho : objsOf σ I I = some objs) : RepS w (objs.map some) (subBlocks β I) (avoid σ β Z I bor) := by
  obtain ⟨hl, hobj⟩ := objsOf_some ho
  refine ⟨by simp [subBlocks, hl], ?_, ?_, ?_, ?_⟩
  · intro j o hj
    have hj' : j < I.length := by
      have := (List.getElem?_eq_some_iff.1 hj).1
      simp at this
      omega
    have hid : I[j]? = some I[j] := List.getElem?_eq_getElem hj'
    obtain ⟨o', cs, k1, k2, k3⟩ := hobj j _ hid
    simp [k3] at hj
    subst hj
    have hb : (subBlocks β I)[j]? = some (β[I[j]]?).join := by simp [subBlocks, hj']
    rw [hb]
    rcases hS.obj _ _ k1 with ⟨h1, h2⟩ | ⟨b, arr, h1, h2, h3⟩
    · refine .inl ⟨by rw [h1]; rfl, ?_⟩
      rw [h2] at k2
      simp [rens] at k2
      exact k2
    · refine .inr ⟨b, arr, by rw [h1]; rfl, h2, ?_⟩
      have hlen : cs.length = o'.cs.length := by
        have : ∀ (xs ys : List AV) (ρ : Nat → Option Nat), rens ρ xs = some ys → ys.length = xs.length := by
          intro xs
          induction xs with
          | nil => intro ys ρ h; simp [rens] at h; subst h; rfl
          | cons x xs ih =>
            intro ys ρ h
            simp only [rens] at h
            split at h
            · rename_i a b' ha hb'
              simp only [Option.some.injEq] at h
              subst h
              simp [ih _ _ hb']
            · cases h
        exact this _ _ _ k2
      show RepAs w _ true cs (arr.toList.take cs.length)
      rw [hlen]
      exact rens_rep (sub_H hS hn ho) (sub_imm hS ho) _ _ _ k2 h3
  · intro i j b hij g g' h1 h2
    obtain ⟨id, k1, k2⟩ := (sub_al hS ho).1 h1
    obtain ⟨id', k3, k4⟩ := (sub_al hS ho).1 h2
    refine hS.inj id id' b (fun e => ?_) g g' k2 k4
    subst e
    exact hij (nodup_inj hn k1 k3)
  · intro b hb
    rcases hb with hb | ⟨_, id, g, _, hal⟩
    · exact hS.avd b hb
    · exact hS.lt ⟨id, g, hal⟩
  · intro b hl hb
    obtain ⟨id, g, hid, hal⟩ := sub_live hS ho hl
    rcases hb with hb | ⟨_, id', g', hid', hal'⟩
    · exact hS.nav b ⟨id, g, hal⟩ hb
    · exact hS.inj id id' b (fun e => hid' (e ▸ hid)) g g' hal hal'

theorem pass_rep {I : List Nat} {objs : List VObj} (hS : RepS w σ β Z) (hn : nodupB I = true) (ho : objsOf σ I I = some objs) : ∀ (bs : List Bool) (as args : List AV) (bor : Bool) (vs : List Value), passArgs σ I bs as = some (args, bor) → RepAs w (mem σ β Z) false as vs →
    ∀ bor', (bor = true → bor' = true) → RepAs w (mem (objs.map some) (subBlocks β I) (avoid σ β Z I bor')) false args vs := by
  have byval : ∀ (a : AV) (p : PV) (v : Value) (bor' : Bool), snap σ a = some p → (ids a).all (fun id => !I.contains id) = true → ((!isPu a) = true → bor' = true) → RepA w (mem σ β Z) a v → RepA w (mem (objs.map some) (subBlocks β I) (avoid σ β Z I bor')) (.pu p) v := by
    intro a p v bor' hsn hid hb hr
    simp only [RepA]
    refine snap_rep hS (sub_imm hS ho) a p v hsn hr (fun id hm g b hal => ?_)
    have hni : id ∉ I := by
      have := (List.all_eq_true.1 hid) id hm
      simpa using this
    have hbt : bor' = true := by
      apply hb
      cases a <;> simp_all [isPu, ids]
    refine ⟨hS.lt ⟨id, g, hal⟩, fun hl => ?_, fun ha => ?_⟩
    · obtain ⟨id', g', hm', hal'⟩ := sub_live hS ho hl
      exact hS.inj id id' b (fun e => hni (e ▸ hm')) g g' hal hal'
    · rcases ha with ha | ⟨hf, _⟩
      · exact hS.nav b ⟨id, g, hal⟩ ha
      · rw [hbt] at hf; cases hf
  intro bs as
  induction as generalizing bs with
  | nil =>
    intro args bor vs h hr bor' hb
    cases bs <;> simp only [passArgs, Option.some.injEq, Prod.mk.injEq] at h <;> (obtain ⟨rfl, rfl⟩ := h; simpa only [RepAs] using hr)
  | cons a as ih =>
    intro args bor vs h hr bor' hb
    simp only [RepAs] at hr
    obtain ⟨u, us, rfl, h0, h1, h2⟩ := hr
    have val : ∀ (bs : List Bool), byVal σ I a (passArgs σ I bs as) = some (args, bor) → RepAs w (mem (objs.map some) (subBlocks β I) (avoid σ β Z I bor')) false args (u :: us) := by
      intro bs h
      unfold byVal at h
      split at h
      · rename_i p r b hsn hpa
        split at h
        · rename_i hid
          simp only [Option.some.injEq, Prod.mk.injEq] at h
          obtain ⟨rfl, rfl⟩ := h
          simp only [RepAs]
          exact ⟨u, us, rfl, h0, byval a p u bor' hsn hid (fun hp => hb (by simp [hp])) h1, ih bs r b us hpa h2 bor' (fun hbt => hb (by simp [hbt]))⟩
        · cases h
      · cases h
    have ref : ∀ (bs : List Bool), byRef I a (passArgs σ I bs as) = some (args, bor) → RepAs w (mem (objs.map some) (subBlocks β I) (avoid σ β Z I bor')) false args (u :: us) := by
      intro bs h
      unfold byRef at h
      split at h
      · rename_i a' r b ha hpa
        simp only [Option.some.injEq, Prod.mk.injEq] at h
        obtain ⟨rfl, rfl⟩ := h
        simp only [RepAs]
        exact ⟨u, us, rfl, h0, ren_rep (sub_H hS hn ho) (sub_imm hS ho) _ _ _ ha h1, ih bs r b us hpa h2 bor' hb⟩
      · cases h
    cases bs with
    | nil =>
      simp only [passArgs] at h
      split at h
      · exact ref [] h
      · exact val [] h
    | cons t bs =>
      cases t
      · exact val bs h
      · exact ref bs h

/-! ### what comes back -/
theorem rens_length {ρ : Nat → Option Nat} : ∀ {xs ys : List AV}, rens ρ xs = some ys → ys.length = xs.length
  | [], ys, h => by simp [rens] at h; subst h; rfl
  | x :: xs, ys, h => by
    simp only [rens] at h
    split at h
    · rename_i a b' ha hb'
      simp only [Option.some.injEq] at h
      subst h
      simp [rens_length hb']
    · cases h

theorem call_back {w' : World} {I : List Nat} {objs : List VObj} {bor : Bool} {τ τ' : St} {β' : List (Option Nat)} {r r' : AV} {v : Value} (hS : RepS w σ β Z) (hn : nodupB I = true) (ho : objsOf σ I I = some objs)
    (hst : Step w (mem (objs.map some) (subBlocks β I) (avoid σ β Z I bor)) w' (mem τ β' (avoid σ β Z I bor))) (hS' : RepS w' τ β' (avoid σ β Z I bor)) (hr : RepA w' (mem τ β' (avoid σ β Z I bor)) r v)
    (hk : I.length ≤ τ.length) (hal : bor = true → noSl r = true ∧ noSlSt τ = true) (hr' : ren (back I σ.length) r = some r') (hτ' : renSt (back I σ.length) τ = some τ') :
    ∃ β'', Step w (mem σ β Z) w' (mem (setAll σ I τ' ++ τ'.drop I.length) β'' Z) ∧ RepS w' (setAll σ I τ' ++ τ'.drop I.length) β'' Z ∧ RepA w' (mem (setAll σ I τ' ++ τ'.drop I.length) β'' Z) r' v := by
  obtain ⟨hτl, hτ⟩ := renSt_some hτ'
  obtain ⟨hol, hobj⟩ := objsOf_some ho
  have hIlt : ∀ (j id : Nat), I[j]? = some id → id < σ.length := by
    intro j id hj
    obtain ⟨o, cs, h1, _⟩ := hobj j id hj
    exact (List.getElem?_eq_some_iff.1 h1).1
  have hβl : β'.length = τ.length := hS'.len
  refine ⟨setAll β I β' ++ β'.drop I.length, ?_⟩
  -- where each object is found
  have atI : ∀ (j id : Nat), I[j]? = some id → (setAll σ I τ' ++ τ'.drop I.length)[id]? = τ'[j]? ∧ (setAll β I β' ++ β'.drop I.length)[id]? = β'[j]? := by
    intro j id hj
    have hid := hIlt j id hj
    have hjk : j < I.length := (List.getElem?_eq_some_iff.1 hj).1
    have h1 : τ'[j]? = some τ'[j] := List.getElem?_eq_getElem (by omega)
    have h2 : β'[j]? = some β'[j] := List.getElem?_eq_getElem (by omega)
    constructor
    · rw [List.getElem?_append_left (by rw [setAll_length]; exact hid), setAll_in σ I τ' hn j id _ hj h1 hid, h1]
    · have hid' : id < β.length := by rw [hS.len]; exact hid
      rw [List.getElem?_append_left (by rw [setAll_length]; exact hid'), setAll_in β I β' hn j id _ hj h2 hid', h2]
  have atO : ∀ id, id < σ.length → id ∉ I → (setAll σ I τ' ++ τ'.drop I.length)[id]? = σ[id]? ∧ (setAll β I β' ++ β'.drop I.length)[id]? = β[id]? := by
    intro id hid hni
    constructor
    · rw [List.getElem?_append_left (by rw [setAll_length]; exact hid), setAll_out σ I τ' id hni]
    · rw [List.getElem?_append_left (by rw [setAll_length, hS.len]; exact hid), setAll_out β I β' id hni]
  have atN : ∀ j, I.length ≤ j → (setAll σ I τ' ++ τ'.drop I.length)[σ.length + (j - I.length)]? = τ'[j]? ∧ (setAll β I β' ++ β'.drop I.length)[σ.length + (j - I.length)]? = β'[j]? := by
    intro j hj
    constructor
    · rw [List.getElem?_append_right (by rw [setAll_length]; omega), setAll_length, List.getElem?_drop]
      congr 1
      omega
    · rw [List.getElem?_append_right (by rw [setAll_length, hS.len]; omega), setAll_length, hS.len, List.getElem?_drop]
      congr 1
      omega
  have alτ : ∀ (i j : Nat), (setAll σ I τ' ++ τ'.drop I.length)[i]? = τ'[j]? → (setAll β I β' ++ β'.drop I.length)[i]? = β'[j]? → ∀ g B, (mem (setAll σ I τ' ++ τ'.drop I.length) (setAll β I β' ++ β'.drop I.length) Z).al i = some (g, B) → (mem τ β' (avoid σ β Z I bor)).al j = some (g, B) := by
    intro i j h1 h2 g B hal
    obtain ⟨o, k1, k2, k3⟩ := mem_al.1 hal
    rw [h1] at k1
    rw [h2] at k3
    have hj : j < τ.length := by rw [← hτl]; exact (List.getElem?_eq_some_iff.1 k1).1
    have hj' : τ[j]? = some τ[j] := List.getElem?_eq_getElem hj
    cases hx : τ[j] with
    | none =>
      rw [hx] at hj'
      rw [(hτ j).1 hj'] at k1
      cases k1
    | some o' =>
      rw [hx] at hj'
      obtain ⟨cs, q1, q2⟩ := (hτ j).2 o' hj'
      rw [q2] at k1
      cases k1
      exact mem_al.2 ⟨o', hj', k2, k3⟩
  -- which ids there are
  have cases_id : ∀ i, i < (setAll σ I τ' ++ τ'.drop I.length).length → (∃ j : Nat, I[j]? = some i) ∨ (i < σ.length ∧ i ∉ I) ∨ ∃ j, I.length ≤ j ∧ j < τ.length ∧ i = σ.length + (j - I.length) := by
    intro i hi
    simp [setAll_length, hτl] at hi
    by_cases h1 : i < σ.length
    · by_cases h2 : i ∈ I
      · obtain ⟨j, hj⟩ := List.mem_iff_getElem?.1 h2
        exact .inl ⟨j, hj⟩
      · exact .inr (.inl ⟨h1, h2⟩)
    · exact .inr (.inr ⟨I.length + (i - σ.length), by omega, by omega, by omega⟩)
  have alO : ∀ id, id < σ.length → id ∉ I → ∀ g B, (mem (setAll σ I τ' ++ τ'.drop I.length) (setAll β I β' ++ β'.drop I.length) Z).al id = some (g, B) ↔ (mem σ β Z).al id = some (g, B) := by
    intro id h1 h2 g B
    rw [mem_al, mem_al, (atO id h1 h2).1, (atO id h1 h2).2]
  have alI : ∀ (i : Nat), i < (setAll σ I τ' ++ τ'.drop I.length).length → ¬ (i < σ.length ∧ i ∉ I) → ∃ j, ((I[j]? = some i) ∨ (I.length ≤ j ∧ i = σ.length + (j - I.length))) ∧
      (setAll σ I τ' ++ τ'.drop I.length)[i]? = τ'[j]? ∧ (setAll β I β' ++ β'.drop I.length)[i]? = β'[j]? ∧
      ∀ g B, (mem (setAll σ I τ' ++ τ'.drop I.length) (setAll β I β' ++ β'.drop I.length) Z).al i = some (g, B) → (mem τ β' (avoid σ β Z I bor)).al j = some (g, B) := by
    intro i hi hno
    rcases cases_id i hi with ⟨j, hj⟩ | h | ⟨j, h1, h2, rfl⟩
    · exact ⟨j, .inl hj, (atI j i hj).1, (atI j i hj).2, alτ i j (atI j i hj).1 (atI j i hj).2⟩
    · exact absurd h hno
    · exact ⟨j, .inr ⟨h1, rfl⟩, (atN j h1).1, (atN j h1).2, alτ _ j (atN j h1).1 (atN j h1).2⟩
  have lt_of_al : ∀ {i g B}, (mem (setAll σ I τ' ++ τ'.drop I.length) (setAll β I β' ++ β'.drop I.length) Z).al i = some (g, B) → i < (setAll σ I τ' ++ τ'.drop I.length).length := by
    intro i g B hal
    obtain ⟨o, k1, _⟩ := mem_al.1 hal
    exact (List.getElem?_eq_some_iff.1 k1).1
  have liveBack : ∀ b, (mem (setAll σ I τ' ++ τ'.drop I.length) (setAll β I β' ++ β'.drop I.length) Z).live b → (mem τ β' (avoid σ β Z I bor)).live b ∨ ∃ id g, id < σ.length ∧ id ∉ I ∧ (mem σ β Z).al id = some (g, some b) := by
    rintro b ⟨i, g, hal⟩
    by_cases hno : i < σ.length ∧ i ∉ I
    · exact .inr ⟨i, g, hno.1, hno.2, (alO i hno.1 hno.2 g _).1 hal⟩
    · obtain ⟨j, _, _, _, hj⟩ := alI i (lt_of_al hal) hno
      exact .inl ⟨j, g, hj g _ hal⟩
  have subLive : ∀ b, (mem (objs.map some) (subBlocks β I) (avoid σ β Z I bor)).live b → (mem σ β Z).live b := by
    intro b hl
    obtain ⟨id, g, _, hal⟩ := sub_live hS ho hl
    exact ⟨id, g, hal⟩
  have subNot : ∀ id g b, id ∉ I → (mem σ β Z).al id = some (g, some b) → ¬ (mem (objs.map some) (subBlocks β I) (avoid σ β Z I bor)).live b := by
    intro id g b hni hal hl
    obtain ⟨id', g', hm, hal'⟩ := sub_live hS ho hl
    exact hS.inj id id' b (fun e => hni (e ▸ hm)) g g' hal hal'
  have hlive : ∀ b, (mem (setAll σ I τ' ++ τ'.drop I.length) (setAll β I β' ++ β'.drop I.length) Z).live b → w.heap.size ≤ b ∨ (mem σ β Z).live b := by
    intro b hl
    rcases liveBack b hl with h | ⟨id, g, _, _, hal⟩
    · rcases hst.alive b h with h | h
      · exact .inl h
      · exact .inr (subLive b h)
    · exact .inr ⟨id, g, hal⟩
  have hstep : Step w (mem σ β Z) w' (mem (setAll σ I τ' ++ τ'.drop I.length) (setAll β I β' ++ β'.drop I.length) Z) := by
    refine ⟨hst.os, hst.tape, hst.output, hst.size, fun b hb hl => hst.block b hb (fun h => hl (subLive b h)), hlive, by simp [mem, setAll_length], ?_, fun _ _ h => h⟩
    intro id g' B' hid hal'
    have hid' : id < σ.length := hid
    by_cases hni : id ∉ I
    · have h0 := (alO id hid' hni g' B').1 hal'
      refine ⟨g', B', h0, Nat.le_refl _, fun _ => ⟨rfl, fun b arr e hb hw => ⟨arr, ?_, rfl⟩⟩⟩
      subst hb
      rw [hst.block b (Array.getElem?_eq_some_iff.1 hw).1 (subNot id g' b hni h0)]
      exact hw
    · have hm : id ∈ I := Decidable.not_not.1 hni
      obtain ⟨j, hj⟩ := List.mem_iff_getElem?.1 hm
      have h1 := alτ id j (atI j id hj).1 (atI j id hj).2 g' B' hal'
      obtain ⟨g, B, h2, h3, h4⟩ := hst.al j g' B' (by have := (List.getElem?_eq_some_iff.1 hj).1; simp [mem]; omega) h1
      obtain ⟨id2, h5, h6⟩ := (sub_al hS ho).1 h2
      rw [hj] at h5
      cases h5
      exact ⟨g, B, h6, h3, h4⟩
  -- renaming back
  have HB : ∀ i j, back I σ.length i = some j → ∀ (hi : i < τ.length), j < (mem (setAll σ I τ' ++ τ'.drop I.length) (setAll β I β' ++ β'.drop I.length) Z).n ∧ ∀ g B, (mem (setAll σ I τ' ++ τ'.drop I.length) (setAll β I β' ++ β'.drop I.length) Z).al j = some (g, B) → (mem τ β' (avoid σ β Z I bor)).al i = some (g, B) := by
    intro i j hij hi
    unfold back at hij
    split at hij
    · rename_i id hid
      simp only [Option.some.injEq] at hij
      subst hij
      exact ⟨by have := hIlt i id hid; simp [mem, setAll_length]; omega, alτ id i (atI i id hid).1 (atI i id hid).2⟩
    · rename_i hid
      have hik : I.length ≤ i := by simpa using hid
      simp only [Option.some.injEq] at hij
      subst hij
      exact ⟨by simp [mem, setAll_length, hτl]; omega, alτ _ i (atN i hik).1 (atN i hik).2⟩
  have HI : bor = false → ∀ b, (mem τ β' (avoid σ β Z I bor)).imm w' b → (mem (setAll σ I τ' ++ τ'.drop I.length) (setAll β I β' ++ β'.drop I.length) Z).imm w' b := by
    intro hb b ⟨h1, h2, h3⟩
    refine ⟨h1, fun hl => ?_, fun hz => h3 (.inl hz)⟩
    rcases liveBack b hl with h | ⟨id, g, _, hni, hal'⟩
    · exact h2 h
    · exact h3 (.inr ⟨hb, id, g, hni, hal'⟩)
  have backA : ∀ {x y : AV} {u : Value}, (bor = true → noSl x = true) → ren (back I σ.length) x = some y → RepA w' (mem τ β' (avoid σ β Z I bor)) x u → RepA w' (mem (setAll σ I τ' ++ τ'.drop I.length) (setAll β I β' ++ β'.drop I.length) Z) y u := by
    intro x y u hnos hren hrep
    cases hb : bor with
    | false => exact ren_rep (fun i j h hi => HB i j h hi) (HI hb) _ _ _ hren hrep
    | true => exact renNo_rep (fun i j h hi => HB i j h hi) _ _ _ (hnos hb) hren hrep
  have backAs : ∀ {x y : List AV} {u : List Value}, (bor = true → noSls x = true) → rens (back I σ.length) x = some y → RepAs w' (mem τ β' (avoid σ β Z I bor)) true x u → RepAs w' (mem (setAll σ I τ' ++ τ'.drop I.length) (setAll β I β' ++ β'.drop I.length) Z) true y u := by
    intro x y u hnos hren hrep
    cases hb : bor with
    | false => exact rens_rep (fun i j h hi => HB i j h hi) (HI hb) _ _ _ hren hrep
    | true => exact rensNo_rep (fun i j h hi => HB i j h hi) _ _ _ (hnos hb) hren hrep
  have noAt : ∀ (τ : St) (j : Nat) (o : VObj), noSlSt τ = true → τ[j]? = some (some o) → noSls o.cs = true := by
    intro τ
    induction τ with
    | nil => intro j o _ h; simp at h
    | cons x τ ih =>
      intro j o hno h
      cases j with
      | zero =>
        simp at h
        subst h
        simp only [noSlSt, Bool.and_eq_true] at hno
        exact hno.1
      | succ j =>
        simp at h
        cases x with
        | none => exact ih j o (by simpa only [noSlSt] using hno) h
        | some y => simp only [noSlSt, Bool.and_eq_true] at hno; exact ih j o hno.2 h
  refine ⟨hstep, ⟨?_, ?_, ?_, ?_, ?_⟩, backA (fun hb => (hal hb).1) hr' hr⟩
  · simp only [List.length_append, setAll_length, List.length_drop, hS.len, hβl, hτl]
  · intro i o hio
    have hi : i < (setAll σ I τ' ++ τ'.drop I.length).length := (List.getElem?_eq_some_iff.1 hio).1
    by_cases hno : i < σ.length ∧ i ∉ I
    · rw [(atO i hno.1 hno.2).1] at hio
      rw [(atO i hno.1 hno.2).2]
      rcases hS.obj i o hio with h | ⟨b, arr, h1, h2, h3⟩
      · exact .inl h
      · refine .inr ⟨b, arr, h1, ?_, RepAs.mono hstep _ _ h3⟩
        rw [hst.block b (Array.getElem?_eq_some_iff.1 h2).1 (subNot i o.g b hno.2 (al_obj hio h1))]
        exact h2
    · obtain ⟨j, _, q1, q2, _⟩ := alI i hi hno
      rw [q1] at hio
      rw [q2]
      have hj : j < τ.length := by rw [← hτl]; exact (List.getElem?_eq_some_iff.1 hio).1
      have hj' : τ[j]? = some τ[j] := List.getElem?_eq_getElem hj
      cases hx : τ[j] with
      | none =>
        rw [hx] at hj'
        rw [(hτ j).1 hj'] at hio
        cases hio
      | some o' =>
        rw [hx] at hj'
        obtain ⟨cs, p1, p2⟩ := (hτ j).2 o' hj'
        rw [p2] at hio
        cases hio
        rcases hS'.obj j o' hj' with ⟨h1, h2⟩ | ⟨b, arr, h1, h2, h3⟩
        · refine .inl ⟨h1, ?_⟩
          rw [h2] at p1
          simp [rens] at p1
          exact p1
        · refine .inr ⟨b, arr, h1, h2, ?_⟩
          show RepAs w' _ true cs (arr.toList.take cs.length)
          rw [rens_length p1]
          exact backAs (fun hb => noAt τ j o' (hal hb).2 hj') p1 h3
  · intro i i' b hii g g' h1 h2
    by_cases hno : i < σ.length ∧ i ∉ I
    · have k1 := (alO i hno.1 hno.2 g _).1 h1
      by_cases hno' : i' < σ.length ∧ i' ∉ I
      · exact hS.inj i i' b hii g g' k1 ((alO i' hno'.1 hno'.2 g' _).1 h2)
      · obtain ⟨j, _, _, _, hj⟩ := alI i' (lt_of_al h2) hno'
        rcases hst.alive b ⟨j, g', hj g' _ h2⟩ with h | h
        · have := hS.lt ⟨i, g, k1⟩; omega
        · exact subNot i g b hno.2 k1 h
    · obtain ⟨j, p1, _, _, hj⟩ := alI i (lt_of_al h1) hno
      by_cases hno' : i' < σ.length ∧ i' ∉ I
      · have k1 := (alO i' hno'.1 hno'.2 g' _).1 h2
        rcases hst.alive b ⟨j, g, hj g _ h1⟩ with h | h
        · have := hS.lt ⟨i', g', k1⟩; omega
        · exact subNot i' g' b hno'.2 k1 h
      · obtain ⟨j', p2, _, _, hj'⟩ := alI i' (lt_of_al h2) hno'
        refine hS'.inj j j' b (fun e => hii ?_) g g' (hj g _ h1) (hj' g' _ h2)
        subst e
        rcases p1 with p1 | ⟨p1, rfl⟩
        · rcases p2 with p2 | ⟨p2, rfl⟩
          · rw [p1] at p2; cases p2; rfl
          · have := (List.getElem?_eq_some_iff.1 p1).1; omega
        · rcases p2 with p2 | ⟨p2, rfl⟩
          · have := (List.getElem?_eq_some_iff.1 p2).1; omega
          · rfl
  · intro b hb
    exact Nat.lt_of_lt_of_le (hS.avd b hb) hst.size
  · intro b hl hz
    rcases liveBack b hl with h | ⟨id, g, _, _, hal'⟩
    · exact hS'.nav b h (.inl hz)
    · exact hS.nav b ⟨id, g, hal'⟩ hz

end

end Go.Vm
