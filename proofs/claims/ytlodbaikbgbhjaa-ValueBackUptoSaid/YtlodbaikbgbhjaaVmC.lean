/- Vm, part C: the code of the abstract machine, and what it computes (weakest preconditions over pure values). -/
import Derived.Test.YtlodbaikbgbhjaaVmB
set_option linter.unusedVariables false
set_option linter.unusedSimpArgs false
namespace Go.Vm
open Go Go.RowKit

inductive X where
  | t (i : Nat)
  | c (p : PV)

inductive NK where
  | p | s | i | f

inductive VOp where
  | mv (x : X)
  | nilRow (e : TypeId) (sz : Nat)                 -- the constant nil, taken for an empty row of one's own
  | pick (c a b : X)
  | box (e : TypeId) (x : X)
  | alloc (e : TypeId) (z : List PV)
  | build (z : List PV) (parts : List (Nat × Nat × X))
  | lit (own : Bool) (e : TypeId) (sz n : Nat) (z : List PV) (parts : List (Nat × Nat × X))
  | load (ag : Bool) (sz : Nat) (x : X)
  | store (sz : Nat) (x y : X)
  | nilck (x : X)
  | bin (op : BinOp) (x y : X)
  | beq (neg : Bool) (x y : X)                     -- two bools
  | eqs (neg : Bool) (ks : List Nat) (x y : X)     -- two structs of plain cells: integers 0, texts 1, bools 2
  | isnil (nk : NK) (neg : Bool) (x : X)                     -- held against the constant nil
  | un (op : UnOp) (x : X)
  | cvInt (k : IntKind) (x : X)
  | cvStr (x : X)
  | toStr (x : X)
  | toBytes (e : TypeId) (x : X)
  | mkIfc (t : TypeId) (x : X)
  | mkFn (f : Fn) (fi ca : List X)
  | make (e : TypeId) (bytes sz : Nat) (z : List PV) (n c : X)
  | cutS (x : X) (lo hi : Option X)
  | cut (sz : Nat) (x : X) (lo hi mx : Option X)
  | cutA (len sz : Nat) (x : X) (lo hi : Option X)
  | fld (off : Nat) (x : X)                        -- a field's address
  | getf (ag : Bool) (off sz : Nat) (x : X)
  | idx (sz : Nat) (x i : X)                       -- an element's address
  | idxA (len sz : Nat) (x i : X)
  | chr (x i : X)
  | extract (x : X) (i : Nat)
  | call (f : FuncId) (by_ : List Bool) (xs : List X)
  | callV (x : X) (by_ : List Bool) (xs : List X)
  | len (x : X)
  | lenS (x : X)
  | app (e : TypeId) (bytes sz : Nat) (x y : X)
  | appS (e : TypeId) (x y : X)                    -- a string's bytes
  | copy (sz : Nat) (x y : X)
  | mm (max : Bool) (x y : X)
  | bad                                            -- what is not covered: not to be reached
  | frz (x : X)                                    -- ghost: a row, for good
  | kp (l : List Nat)                              -- ghost: what of the environment is kept

structure VO where
  d : Option Nat
  g : Option (Nat × Bool)
  op : VOp

/-- The orders of a region: an operation that is taken first, or that comes up, and by which temps it looks at objects, or what it must not change; one order or the other. -/
inductive DT where
  | done
  | op (first : Bool) (ts : List Nat) (vo : VO) (next : DT)
  | both (a b : DT)

inductive VCode where
  | skip
  | seq (a b : VCode)
  | cond (x : X) (a b : VCode)
  | block (id : Nat) (a : VCode)
  | loop (a : VCode)
  | scope (a : VCode)
  | exit (id : Nat)
  | ret
  | region (draw : Bool) (ops : List VO)
  | draws (l : List Nat) (t : DT)                -- a region that draws its order: what is kept, the orders
  | keep (l : List Nat) (c : VCode)
  | join (c : VCode)
  | stop (l : List Nat) (c : VCode)
  | bad

/-- One of two, as a bool tells: a form that no reduction takes apart. -/
inductive Br (A B : Prop) : Bool → Prop where
  | tt (h : A) : Br A B true
  | ff (h : B) : Br A B false
/-- Both: two ways that are both to be gone. -/
structure Both (A B : Prop) : Prop where
  one : A
  two : B
theorem br_eq {A B : Prop} {t : Bool} : Br A B t = if t = true then A else B := by
  apply propext
  cases t
  · exact ⟨fun h => by cases h; assumption, fun h => .ff h⟩
  · exact ⟨fun h => by cases h; assumption, fun h => .tt h⟩
theorem br_dec {A B c : Prop} [Decidable c] : Br A B (decide c) = if c then A else B := by
  rw [br_eq]
  by_cases h : c <;> simp [h]

/-- A proposition in a box: no reduction opens it. -/
inductive Box (p : Prop) : Prop where
  | mk (h : p)

/-! ### environments, values -/
def get : Env → Nat → Option AV
  | [], _ => none
  | (j, a) :: r, i => match Nat.beq j i with
    | true => some a
    | false => get r i
def put : Env → Nat → AV → Env
  | [], d, a => [(d, a)]
  | (j, b) :: r, d, a => match Nat.beq j d with
    | true => (j, a) :: r
    | false => (j, b) :: put r d a
theorem get_cons {j : Nat} {a : AV} {r : Env} {i : Nat} : get ((j, a) :: r) i = if j = i then some a else get r i := by
  rw [get]
  by_cases h : j = i
  · subst h; simp
  · rw [if_neg h]
    have : Nat.beq j i = false := by rw [← Bool.not_eq_true]; exact fun e => h (Nat.eq_of_beq_eq_true e)
    rw [this]
theorem put_cons {j : Nat} {b : AV} {r : Env} {d : Nat} {a : AV} : put ((j, b) :: r) d a = if j = d then (j, a) :: r else (j, b) :: put r d a := by
  rw [put]
  by_cases h : j = d
  · subst h; simp
  · rw [if_neg h]
    have : Nat.beq j d = false := by rw [← Bool.not_eq_true]; exact fun e => h (Nat.eq_of_beq_eq_true e)
    rw [this]
/-- an environment, taken apart and put together: so that a reduction has it whole -/
def force {γ : Type} : List γ → (List γ → Prop) → Prop
  | [], K => K []
  | x :: r, K => force r fun r' => K (x :: r')
theorem force_eq {γ : Type} : ∀ (env : List γ) (K : List γ → Prop), force env K = K env
  | [], K => rfl
  | x :: r, K => force_eq r _
def opnd (env : Env) : X → Option AV
  | .t i => get env i
  | .c p => some (.pu p)
def restrict (env : Env) : List Nat → Env
  | [] => []
  | i :: l => match get env i with
    | some a => (i, a) :: restrict env l
    | none => restrict env l

def unpus : List AV → Option (List PV)
  | [] => some []
  | .pu p :: r => (unpus r).map (p :: ·)
  | _ :: _ => none
def mkAgg (cs : List AV) : AV := match unpus cs with
  | some ps => .pu (.agg ps)
  | none => .agg cs
def withC (a : AV) (Q : List AV → Prop) : Prop := match a with
  | .agg cs => Q cs
  | .pu (.agg ps) => Q (ps.map .pu)
  | .tup _ => False
  | .pu (.tup _) => False
  | .pu (.val (.agg _)) => False
  | .pu (.val (.tuple _)) => False
  | a => Q [a]
/-- A value out of its cells. -/
def mkV (ag : Bool) (cs : List AV) (Q : AV → Prop) : Prop :=
  if ag then Q (mkAgg cs) else match cs with
    | [a] => Q a
    | _ => False
abbrev AV.val (v : Value) : AV := .pu (.val v)
def noV : AV := .pu (.val undef)

def withA (a : Option AV) (Q : AV → Prop) : Prop := match a with
  | some a => Q a
  | none => False
def withI (a : Option AV) (Q : IntKind → Int → Prop) : Prop := match a with
  | some (.pu (.val (.int k n))) => Q k n
  | _ => False
def withAs (env : Env) : List X → (List AV → Prop) → Prop
  | [], Q => Q []
  | x :: xs, Q => withA (opnd env x) fun a => withAs env xs fun as => Q (a :: as)

/-- cells 'ys' laid over 'cs' from 'off' on -/
def splice (cs : List AV) (off : Nat) (ys : List AV) : List AV := cs.take off ++ ys ++ cs.drop (off + ys.length)
def fillP : List AV → List (Nat × List AV) → List AV
  | cs, [] => cs
  | cs, (off, ys) :: r => fillP (splice cs off ys) r
/-- the parts of a literal, each of the size that its place has -/
def withParts (env : Env) (len : Nat) : List (Nat × Nat × X) → (List (Nat × List AV) → Prop) → Prop
  | [], Q => Q []
  | (off, sz, x) :: r, Q => withA (opnd env x) fun a => withC a fun cs => cs.length = sz ∧ off + sz ≤ len ∧ withParts env len r fun ps => Q ((off, cs) :: ps)

/-- the object that a row or a pointer leads to -/
def withO (σ : St) (id g : Nat) (Q : VObj → Prop) : Prop := match σ[id]? with
  | some (some o) => g = o.g ∧ Q o
  | _ => False

/-- what a slice holds, as pure cells: n elements of sz cells -/
def withCells (σ : St) (sz : Nat) (a : AV) (Q : Nat → List PV → Prop) : Prop := match a with
  | .pu (.sl n cs) => cs.length = n * sz ∧ Q n cs
  | .pu (.val (.slice none 0 0)) => Q 0 []
  | .own id g off n s => s = sz ∧ withO σ id g fun o => ∃ ps, unpus ((o.cs.drop off).take (n * sz)) = some ps ∧ ps.length = n * sz ∧ Q n ps
  | _ => False

def bt (s : ByteArray) (i : Nat) : Int := if h : i < s.size then ((s[i]'h).toNat : Int) else 0
def bytesOf (s : ByteArray) : List Int := s.data.toList.map fun b => (b.toNat : Int)
def strOf (xs : List Int) : ByteArray := ⟨(xs.map fun x => UInt8.ofNat x.toNat).toArray⟩
def pbytes (xs : List Int) : List PV := xs.map fun x => .val (.int .u8 x)
/-- the bytes that cells are -/
def unbytes : List PV → Option (List Int)
  | [] => some []
  | .val (.int .u8 x) :: r => (unbytes r).map (x :: ·)
  | _ :: _ => none

/-! ### operators -/
def bitsI (op : BinOp) (k : IntKind) (x y : Int) : Int := match op with
  | .and => k.wrap (BitVec.ofInt k.bits x &&& BitVec.ofInt k.bits y).toNat
  | .or => k.wrap (BitVec.ofInt k.bits x ||| BitVec.ofInt k.bits y).toNat
  | .xor => k.wrap (BitVec.ofInt k.bits x ^^^ BitVec.ofInt k.bits y).toNat
  | _ => k.wrap (BitVec.ofInt k.bits x &&& ~~~ (BitVec.ofInt k.bits y)).toNat
def binI (op : BinOp) (k : IntKind) (a b : Int) (Q : AV → Prop) : Prop := match op with
  | .add => Q (.val (.int k (k.wrap (a + b))))
  | .sub => Q (.val (.int k (k.wrap (a - b))))
  | .mul => Q (.val (.int k (k.wrap (a * b))))
  | .quo => b ≠ 0 ∧ Q (.val (.int k (k.wrap (a.tdiv b))))
  | .rem => b ≠ 0 ∧ Q (.val (.int k (a.tmod b)))
  | .and => Q (.val (.int k (bitsI .and k a b)))
  | .or => Q (.val (.int k (bitsI .or k a b)))
  | .xor => Q (.val (.int k (bitsI .xor k a b)))
  | .andNot => Q (.val (.int k (bitsI .andNot k a b)))
  | .eql => Q (.val (.bool (a == b)))
  | .neq => Q (.val (.bool (a != b)))
  | .lss => Q (.val (.bool (decide (a < b))))
  | .leq => Q (.val (.bool (decide (a ≤ b))))
  | .gtr => Q (.val (.bool (decide (a > b))))
  | .geq => Q (.val (.bool (decide (a ≥ b))))
  | _ => False
def strLt (s t : ByteArray) : Bool := Op.bytesLess s.toList t.toList
def strEq (s t : ByteArray) : Bool := s.toList == t.toList
def binS (op : BinOp) (s t : ByteArray) (Q : AV → Prop) : Prop := match op with
  | .add => s.size + t.size ≤ 9223372036854775807 ∧ Q (.val (.string (s ++ t)))
  | .eql => Q (.val (.bool (strEq s t)))
  | .neq => Q (.val (.bool (!strEq s t)))
  | .lss => Q (.val (.bool (strLt s t)))
  | .leq => Q (.val (.bool (strLt s t || strEq s t)))
  | .gtr => Q (.val (.bool (!(strLt s t || strEq s t))))
  | .geq => Q (.val (.bool (!strLt s t)))
  | _ => False
/-- Two plain values, held against each other. -/
def scEq : Nat → PV → PV → Option Bool
  | 0, .val (.int k a), .val (.int k' b) => if k = k' then some (a == b) else none
  | 1, .val (.string s), .val (.string t) => some (strEq s t)
  | 2, .val (.bool a), .val (.bool b) => some (a == b)
  | _, _, _ => none
def plainEq : List Nat → List PV → List PV → Option Bool
  | [], [], [] => some true
  | k :: ks, a :: u, b :: v => match scEq k a b, plainEq ks u v with
    | some r, some q => some (r && q)
    | _, _ => none
  | _, _, _ => none
def aggPs : AV → Option (List PV)
  | .pu (.agg cs) => some cs
  | .agg cs => unpus cs
  | _ => none
/-- Two floats, held against each other. -/
def binF (op : BinOp) (k : FloatKind) (a b : Nat) (Q : AV → Prop) : Prop := match op with
  | .eql => Q (.val (.bool (k.format.order a b == some .eq)))
  | .neq => Q (.val (.bool (k.format.order a b != some .eq)))
  | .lss => Q (.val (.bool (k.format.order a b == some .lt)))
  | .gtr => Q (.val (.bool (k.format.order a b == some .gt)))
  | _ => False
def binQ (op : BinOp) (x y : AV) (Q : AV → Prop) : Prop := match x, y with
  | .pu (.val (.int k a)), .pu (.val (.int k' b)) => match op with
    | .shl => 0 ≤ b ∧ Q (.val (.int k (k.wrap (a * 2 ^ min b.toNat k.bits))))
    | .shr => 0 ≤ b ∧ Q (.val (.int k (a.fdiv (2 ^ min b.toNat k.bits))))
    | _ => k = k' ∧ binI op k a b Q
  | .pu (.val (.string s)), .pu (.val (.string t)) => binS op s t Q
  | .pu (.val (.float k a)), .pu (.val (.float k' b)) => k = k' ∧ binF op k a b Q
  | _, _ => False
def unQ (op : UnOp) (x : AV) (Q : AV → Prop) : Prop := match op, x with
  | .not, .pu (.val (.bool b)) => Q (.val (.bool !b))
  | .neg, .pu (.val (.int k n)) => Q (.val (.int k (k.wrap (0 - n))))
  | .xor, .pu (.val (.int k n)) => Q (.val (.int k (bitsI .xor k (if k.signed then -1 else k.max) n)))
  | _, _ => False

/-- Is it nil? Of an empty slice nothing is known. -/
def isnilQ (σ : St) (nk : NK) (a : AV) (Q : Bool → Prop) : Prop := match nk, a with
  | .s, .pu (.val (.slice none 0 0)) => Q true
  | .p, .pu (.val (.pointer none)) => Q true
  | .i, .pu (.val .nilIface) => Q true
  | .f, .pu (.val .nilFunc) => Q true
  | .s, .pu (.sl n cs) => Br (Both (Q true) (Q false)) (cs ≠ [] ∧ Q false) (decide (n = 0))
  | .s, .own id g _ n _ => withO σ id g fun _ => Br (Both (Q true) (Q false)) (Q false) (decide (n = 0))
  | .p, .ptr id g _ => withO σ id g fun _ => Q false
  | .p, .pu (.rp _) => Q false
  | .i, .pu (.ifc _ _) => Q false
  | .i, .ifc _ _ => Q false
  | .f, .pu (.fn _ _ _) => Q false
  | .f, .fn _ _ _ => Q false
  | _, _ => False

def bnd (env : Env) (x : Option X) (dflt : Int) (Q : Int → Prop) : Prop := match x with
  | none => Q dflt
  | some x => withI (opnd env x) fun _ i => Q i

/-! ### snapshots: what is handed on by value -/
mutual
def snap (σ : St) : AV → Option PV
  | .pu p => some p
  | .agg cs => (snaps σ cs).map .agg
  | .tup cs => (snaps σ cs).map .tup
  | .own id g off n sz => match σ[id]? with
    | some (some o) => if g = o.g then (unpus ((o.cs.drop off).take (n * sz))).map (.sl n) else none
    | _ => none
  | .ptr id g off => match σ[id]? with
    | some (some o) => if g = o.g then (unpus (o.cs.drop off)).map .rp else none
    | _ => none
  | .ifc t x => (snap σ x).map (.ifc t)
  | .fn f fi ca => match snaps σ fi, snaps σ ca with
    | some a, some b => some (.fn f a b)
    | _, _ => none
def snaps (σ : St) : List AV → Option (List PV)
  | [] => some []
  | c :: cs => match snap σ c, snaps σ cs with
    | some a, some b => some (a :: b)
    | _, _ => none
end

/-! ### one operation, but for calls -/
def vop (env : Env) (σ : St) (Q : AV → St → Prop) : VOp → Prop
  | .mv x => withA (opnd env x) fun a => Q a σ
  | .nilRow e sz => Q (.own σ.length 0 0 0 sz) (σ ++ [some ⟨e, 0, []⟩])
  | .pick c a b => match opnd env c with
    | some (.pu (.val (.bool t))) => Br (withA (opnd env a) fun a => Q a σ) (withA (opnd env b) fun a => Q a σ) t
    | _ => False
  | .box e x => withA (opnd env x) fun a => withC a fun cs => Q (.ptr σ.length 0 0) (σ ++ [some ⟨e, 0, cs⟩])
  | .alloc e z => Q (.ptr σ.length 0 0) (σ ++ [some ⟨e, 0, z.map .pu⟩])
  | .build z parts => withParts env z.length parts fun ps => Q (mkAgg (fillP (z.map .pu) ps)) σ
  | .lit own e sz n z parts => withParts env (n * sz) parts fun ps =>
      if own then Q (.own σ.length 0 0 n sz) (σ ++ [some ⟨e, 0, fillP (z.map .pu) ps⟩])
      else match unpus (fillP (z.map .pu) ps) with
        | some qs => Q (.pu (.sl n qs)) σ
        | none => False
  | .load ag sz x => match opnd env x with
    | some (.pu (.rp cs)) => sz ≤ cs.length ∧ if ag then Q (.pu (.agg (cs.take sz))) σ else match cs with
      | c :: _ => Q (.pu c) σ
      | [] => False
    | some (.ptr id g off) => withO σ id g fun o => off + sz ≤ o.cs.length ∧ mkV ag ((o.cs.drop off).take sz) fun a => Q a σ
    | _ => False
  | .store sz x y => match opnd env x with
    | some (.ptr id g off) => withA (opnd env y) fun a => withC a fun ys => withO σ id g fun o =>
      ys.length = sz ∧ off + sz ≤ o.cs.length ∧ Q noV (σ.set id (some ⟨o.e, o.g, splice o.cs off ys⟩))
    | _ => False
  | .nilck x => match opnd env x with
    | some (.ptr id g off) => withO σ id g fun _ => Q (.ptr id g off) σ
    | some (.pu (.rp cs)) => Q (.pu (.rp cs)) σ
    | _ => False
  | .bin op x y => withA (opnd env x) fun a => withA (opnd env y) fun b => binQ op a b fun r => Q r σ
  | .beq neg x y => match opnd env x, opnd env y with
    | some (.pu (.val (.bool a))), some (.pu (.val (.bool b))) => match neg with
      | true => Q (.val (.bool (!(a == b)))) σ
      | false => Q (.val (.bool (a == b))) σ
    | _, _ => False
  | .eqs neg ks x y => withA (opnd env x) fun a => withA (opnd env y) fun b => match aggPs a, aggPs b with
    | some u, some v => match plainEq ks u v with
      | some r => match neg with
        | true => Q (.val (.bool (!r))) σ
        | false => Q (.val (.bool r)) σ
      | none => False
    | _, _ => False
  | .isnil nk neg x => withA (opnd env x) fun a => isnilQ σ nk a fun t => match neg with
    | true => Q (.val (.bool (!t))) σ
    | false => Q (.val (.bool t)) σ
  | .un op x => withA (opnd env x) fun a => unQ op a fun r => Q r σ
  | .cvInt k x => withI (opnd env x) fun _ n => Q (.val (.int k (k.wrap n))) σ
  | .cvStr x => match opnd env x with
    | some (.pu (.val (.string s))) => Q (.val (.string s)) σ
    | _ => False
  | .toStr x => withA (opnd env x) fun a => withCells σ 1 a fun _ cs => ∃ xs, unbytes cs = some xs ∧ Q (.val (.string (strOf xs))) σ
  | .toBytes _ x => match opnd env x with
    | some (.pu (.val (.string s))) => s.size ≤ 1099511627776 ∧ Q (.pu (.sl s.size (pbytes (bytesOf s)))) σ
    | _ => False
  | .mkIfc t x => match opnd env x with
    | some (.pu p) => Q (.pu (.ifc t p)) σ
    | some a => Q (.ifc t a) σ
    | none => False
  | .mkFn f fi ca => withAs env fi fun a => withAs env ca fun b => match unpus a, unpus b with
    | some p, some q => Q (.pu (.fn f p q)) σ
    | _, _ => Q (.fn f a b) σ
  | .make e bytes sz z n c => withI (opnd env n) fun _ n => withI (opnd env c) fun _ c =>
      0 ≤ n ∧ n ≤ c ∧ c * bytes ≤ 1099511627776 ∧ c ≤ 1099511627776 ∧ Q (.own σ.length 0 0 n.toNat sz) (σ ++ [some ⟨e, 0, ((List.replicate n.toNat z).flatten).map .pu⟩])
  | .cutS x lo hi => match opnd env x with
    | some (.pu (.val (.string s))) => bnd env lo 0 fun l => bnd env hi s.size fun h =>
      0 ≤ l ∧ l ≤ h ∧ h ≤ s.size ∧ Q (.val (.string (s.extract l.toNat h.toNat))) σ
    | _ => False
  | .cut sz x lo hi mx => match opnd env x with
    | some (.pu (.sl n cs)) => bnd env lo 0 fun l => bnd env hi n fun h => bnd env mx h fun m =>
      0 ≤ l ∧ l ≤ h ∧ h ≤ n ∧ m = h ∧ cs.length = n * sz ∧ Q (.pu (.sl (h.toNat - l.toNat) ((cs.take (h.toNat * sz)).drop (l.toNat * sz)))) σ
    | some (.own id g off n s) => s = sz ∧ 0 < sz ∧ mx.isNone = true ∧ withO σ id g fun _ => bnd env lo 0 fun l => bnd env hi n fun h =>
      0 ≤ l ∧ l ≤ h ∧ h ≤ n ∧ (Br (Q (.own id g off h.toNat sz) σ) (Br (Q (.own id g (off + l.toNat * sz) (h.toNat - l.toNat) sz) σ) (Q (.pu (.sl 0 [])) σ) (decide (l < h))) (decide (l = 0)))
    | _ => False
  | .cutA len sz x lo hi => match opnd env x with
    | some (.ptr id g off) => withO σ id g fun o => off = 0 ∧ bnd env lo 0 fun l => bnd env hi len fun h =>
      0 < l ∧ l ≤ h ∧ h ≤ len ∧ 0 < sz ∧ len ≤ 1099511627776 ∧ o.cs.length = len * sz ∧ (Br (Q (.own id g (l.toNat * sz) (h.toNat - l.toNat) sz) σ) (Q (.pu (.sl 0 [])) σ) (decide (l < h)))
    | _ => False
  | .fld off x => match opnd env x with
    | some (.ptr id g o) => withO σ id g fun _ => Q (.ptr id g (o + off)) σ
    | some (.pu (.rp cs)) => off ≤ cs.length ∧ Q (.pu (.rp (cs.drop off))) σ
    | _ => False
  | .getf ag off sz x => match opnd env x with
    | some (.agg cs) => off + sz ≤ cs.length ∧ mkV ag ((cs.drop off).take sz) fun r => Q r σ
    | some (.pu (.agg ps)) => off + sz ≤ ps.length ∧ if ag then Q (.pu (.agg ((ps.drop off).take sz))) σ else match ps.drop off with
      | p :: _ => Q (.pu p) σ
      | [] => False
    | _ => False
  | .idx sz x i => withI (opnd env i) fun _ i => match opnd env x with
    | some (.pu (.sl n cs)) => 0 ≤ i ∧ i < n ∧ cs.length = n * sz ∧ 0 < sz ∧ Q (.pu (.rp (cs.drop (i.toNat * sz)))) σ
    | some (.own id g off n s) => s = sz ∧ withO σ id g fun _ => 0 ≤ i ∧ i < n ∧ Q (.ptr id g (off + i.toNat * sz)) σ
    | _ => False
  | .idxA len sz x i => withI (opnd env i) fun _ i => match opnd env x with
    | some (.ptr id g off) => withO σ id g fun _ => 0 ≤ i ∧ i < len ∧ Q (.ptr id g (off + i.toNat * sz)) σ
    | some (.pu (.rp cs)) => 0 ≤ i ∧ i < len ∧ len * sz ≤ cs.length ∧ Q (.pu (.rp (cs.drop (i.toNat * sz)))) σ
    | _ => False
  | .chr x i => withI (opnd env i) fun _ i => match opnd env x with
    | some (.pu (.val (.string s))) => 0 ≤ i ∧ i < s.size ∧ Q (.val (.int .u8 (bt s i.toNat))) σ
    | _ => False
  | .extract x i => match opnd env x with
    | some (.tup cs) => withA cs[i]? fun a => Q a σ
    | some (.pu (.tup cs)) => match cs[i]? with
      | some p => Q (.pu p) σ
      | none => False
    | _ => False
  | .lenS x => match opnd env x with
    | some (.pu (.val (.string s))) => Q (.val (.int .i64 s.size)) σ
    | _ => False
  | .len x => match opnd env x with
    | some (.pu (.val (.slice none 0 0))) => Q (.val (.int .i64 0)) σ
    | some (.pu (.sl n _)) => Q (.val (.int .i64 n)) σ
    | some (.own id g _ n _) => withO σ id g fun _ => Q (.val (.int .i64 n)) σ
    | _ => False
  | .app e bytes sz x y => withA (opnd env y) fun b => withCells σ sz b fun m ys => match opnd env x with
    | some (.pu (.val (.slice none 0 0))) => 0 < sz ∧ m * bytes ≤ 1099511627776 ∧ m ≤ 1099511627776 ∧ Q (.own σ.length 0 0 m sz) (σ ++ [some ⟨e, 0, ys.map .pu⟩])
    | some (.own id g off n s) => s = sz ∧ 0 < sz ∧ off = 0 ∧ withO σ id g fun o => o.e = e ∧ o.cs.length = n * sz ∧ (n + m) * bytes ≤ 1099511627776 ∧ n + m ≤ 1099511627776 ∧
      Q (.own id (g + 1) 0 (n + m) sz) (σ.set id (some ⟨e, g + 1, o.cs ++ ys.map .pu⟩))
    | _ => False
  | .appS e x y => match opnd env y with
    | some (.pu (.val (.string t))) => match opnd env x with
      | some (.pu (.val (.slice none 0 0))) => t.size ≤ 1099511627776 ∧ Q (.own σ.length 0 0 t.size 1) (σ ++ [some ⟨e, 0, (pbytes (bytesOf t)).map .pu⟩])
      | some (.own id g off n s) => s = 1 ∧ off = 0 ∧ withO σ id g fun o => o.e = e ∧ o.cs.length = n ∧ n + t.size ≤ 1099511627776 ∧
        Q (.own id (g + 1) 0 (n + t.size) 1) (σ.set id (some ⟨e, g + 1, o.cs ++ (pbytes (bytesOf t)).map .pu⟩))
      | _ => False
    | _ => False
  | .copy sz x y => withA (opnd env y) fun b => withCells σ sz b fun m ys => match opnd env x with
    | some (.own id g off n s) => s = sz ∧ withO σ id g fun o => off + n * sz ≤ o.cs.length ∧
      Q (.val (.int .i64 (min m n : Nat))) (σ.set id (some ⟨o.e, o.g, splice o.cs off ((ys.take (min m n * sz)).map .pu)⟩))
    | _ => False
  | .mm mx x y => match opnd env x, opnd env y with
    | some (.pu (.val (.int k a))), some (.pu (.val (.int _ b))) => match mx with
      | true => Q (.val (.int k (if b > a then b else a))) σ
      | false => Q (.val (.int k (if b < a then b else a))) σ
    | _, _ => False
  | .frz _ => False
  | .kp _ => False
  | .bad => False
  | .call _ _ _ => False
  | .callV _ _ _ => False

end Go.Vm
