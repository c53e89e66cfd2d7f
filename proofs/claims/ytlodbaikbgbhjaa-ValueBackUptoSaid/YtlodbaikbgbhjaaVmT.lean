/- Vm, part T: words for values; bytes, and what numbers are as bytes. -/
import Derived.Test.YtlodbaikbgbhjaaVmS
import Derived.IntWalk
set_option linter.unusedVariables false
set_option linter.unusedSimpArgs false
namespace Go.Vm
open Go Go.RowKit Go.IntWalk

abbrev i64 (n : Int) : PV := .val (.int .i64 n)
abbrev u64 (n : Int) : PV := .val (.int .u64 n)
abbrev u32 (n : Int) : PV := .val (.int .u32 n)
abbrev u8 (n : Int) : PV := .val (.int .u8 n)
abbrev str (s : ByteArray) : PV := .val (.string s)
abbrev bl (b : Bool) : PV := .val (.bool b)
abbrev bsl (xs : List Int) : PV := .sl xs.length (pbytes xs)
abbrev nilS : PV := .val (.slice none 0 0)

/-- the bytes that a slice has -/
def asB : PV → Option (List Int)
  | .val (.slice none 0 0) => some []
  | .sl n cs => match unbytes cs with
    | some xs => if xs.length = n then some xs else none
    | none => none
  | _ => none
theorem asB_some {p : PV} {xs : List Int} (h : asB p = some xs) : (p = nilS ∧ xs = []) ∨ p = bsl xs := by
  unfold asB at h
  split at h
  · exact .inl ⟨rfl, by simpa using h.symm⟩
  · split at h
    · rename_i h1
      split at h
      · rename_i h2
        simp only [Option.some.injEq] at h
        subst h h2
        exact .inr (by rw [unbytes_some h1])
      · cases h
    · cases h
  · cases h
theorem asB_sl (xs : List Int) : asB (bsl xs) = some xs := by simp [asB, unbytes_pbytes]
theorem asB_nil : asB nilS = some [] := rfl
theorem asB_eq {p : PV} {xs : List Int} (h : p = bsl xs) : asB p = some xs := by rw [h, asB_sl]
theorem pbytes_length (xs : List Int) : (pbytes xs).length = xs.length := by simp [pbytes]
theorem pbytes_append (xs ys : List Int) : pbytes (xs ++ ys) = pbytes xs ++ pbytes ys := by simp [pbytes]
theorem noSlPs_pb : ∀ xs : List Int, noSlPs (pbytes xs) = true
  | [] => rfl
  | x :: xs => by
    have := noSlPs_pb xs
    simpa [pbytes, noSlPs, noSlP] using this
theorem splice_all {cs ys : List AV} (h : cs.length = ys.length) : Vm.splice cs 0 ys = ys := by
  unfold Vm.splice
  rw [List.take_zero, List.nil_append, Nat.zero_add, ← h, List.drop_length, List.append_nil]
theorem strEq_self (s : ByteArray) : strEq s s = true := by simp [strEq]

/-- how many bytes a number needs -/
def byt (n : Nat) : Nat := if h : n = 0 then 0 else byt (n / 256) + 1
termination_by n
decreasing_by omega
theorem byt_zero : byt 0 = 0 := by rw [byt]; simp
theorem byt_pos {n : Nat} (h : n ≠ 0) : byt n = byt (n / 256) + 1 := by rw [byt, dif_neg h]
theorem byt_le : ∀ (k n : Nat), n < 256 ^ k → byt n ≤ k
  | 0, n, h => by
    have : n = 0 := by simpa using h
    subst this
    rw [byt_zero]
    omega
  | k + 1, n, h => by
    by_cases h0 : n = 0
    · subst h0; rw [byt_zero]; omega
    · rw [byt_pos h0]
      have := byt_le k (n / 256) (by rw [Nat.div_lt_iff_lt_mul (by omega), ← Nat.pow_succ]; exact h)
      omega
theorem byt_lt : ∀ (k n : Nat), byt n ≤ k → n < 256 ^ k
  | 0, n, h => by
    by_cases h0 : n = 0
    · subst h0; decide
    · rw [byt_pos h0] at h; omega
  | k + 1, n, h => by
    by_cases h0 : n = 0
    · subst h0; exact Nat.pow_pos (by omega)
    · rw [byt_pos h0] at h
      have := byt_lt k (n / 256) (by omega)
      rw [Nat.div_lt_iff_lt_mul (by omega), ← Nat.pow_succ] at this
      exact this
/-- a number's lowest k bytes, the highest first -/
def be : Nat → Nat → List Int
  | 0, _ => []
  | k + 1, x => ((x / 256 ^ k % 256 : Nat) : Int) :: be k x
theorem be_length : ∀ (k x : Nat), (be k x).length = k
  | 0, _ => rfl
  | k + 1, x => by simp [be, be_length k x]
theorem be_cons (k x : Nat) : be (k + 1) x = ((x / 256 ^ k % 256 : Nat) : Int) :: be k x := rfl
theorem be_ok : ∀ (k x : Nat), okB (be k x)
  | 0, _ => by simp [be, okB]
  | k + 1, x => by
    intro y hy
    rw [be_cons] at hy
    rcases List.mem_cons.1 hy with rfl | hy
    · omega
    · exact be_ok k x y hy
/-- the number that bytes are, the highest first -/
def bev (l : List Int) : Nat := l.foldl (fun n c => n * 256 + c.toNat) 0
theorem foldl_bev : ∀ (l : List Int) (n : Nat), l.foldl (fun n c => n * 256 + c.toNat) n = n * 256 ^ l.length + bev l
  | [], n => by simp [bev]
  | c :: l, n => by
    unfold bev
    simp only [List.foldl_cons, List.length_cons, Nat.zero_mul, Nat.zero_add]
    rw [foldl_bev l, foldl_bev l c.toNat, Nat.add_mul, Nat.mul_assoc, show 256 ^ (l.length + 1) = 256 * 256 ^ l.length from Nat.pow_succ']
    omega
theorem bev_cons (c : Int) (l : List Int) : bev (c :: l) = c.toNat * 256 ^ l.length + bev l := by
  conv => lhs; unfold bev
  rw [List.foldl_cons, Nat.zero_mul, Nat.zero_add, foldl_bev]
theorem bev_lt : ∀ {l : List Int}, okB l → bev l < 256 ^ l.length
  | [], _ => by decide
  | c :: l, h => by
    rw [bev_cons, List.length_cons, Nat.pow_succ]
    have h1 := bev_lt (l := l) (fun x hx => h x (by simp [hx]))
    have h2 := h c (by simp)
    have h3 : c.toNat ≤ 255 := by omega
    have : c.toNat * 256 ^ l.length ≤ 255 * 256 ^ l.length := Nat.mul_le_mul_right _ h3
    omega
theorem bev_be : ∀ (k x : Nat), x < 256 ^ k → bev (be k x) = x
  | 0, x, h => by
    have : x = 0 := by simpa using h
    subst this
    rfl
  | k + 1, x, h => by
    rw [be_cons, bev_cons, be_length, Int.toNat_natCast]
    have h0 : 0 < 256 ^ k := Nat.pow_pos (by omega)
    have h1 : x / 256 ^ k < 256 := by rw [Nat.div_lt_iff_lt_mul h0, Nat.mul_comm, ← Nat.pow_succ]; exact h
    have h2 : be k x = be k (x % 256 ^ k) := by
      have : ∀ j, j ≤ k → be j x = be j (x % 256 ^ k) := by
        intro j
        induction j with
        | zero => intro _; rfl
        | succ j ih =>
          intro hj
          rw [be_cons, be_cons, ih (by omega)]
          congr 2
          have : 256 ^ k = 256 ^ j * (256 * 256 ^ (k - j - 1)) := by
            rw [← Nat.mul_assoc, ← Nat.pow_succ, ← Nat.pow_add]
            congr 1
            omega
          rw [this, Nat.mod_mul_right_div_self, Nat.mod_mul_right_mod]
      exact this k (Nat.le_refl _)
    rw [h2, bev_be k _ (Nat.mod_lt _ h0), Nat.mod_eq_of_lt h1]
    have := Nat.div_add_mod x (256 ^ k)
    rw [Nat.mul_comm] at this
    exact this
theorem be_bev : ∀ {l : List Int}, okB l → be l.length (bev l) = l
  | [], _ => rfl
  | c :: l, h => by
    have h1 := bev_lt (l := l) (fun x hx => h x (by simp [hx]))
    have h2 := h c (by simp)
    have h0 : 0 < 256 ^ l.length := Nat.pow_pos (by omega)
    rw [List.length_cons, be_cons, bev_cons]
    have e1 : (c.toNat * 256 ^ l.length + bev l) / 256 ^ l.length = c.toNat := by
      rw [Nat.mul_comm, Nat.mul_add_div h0, Nat.div_eq_of_lt h1, Nat.add_zero]
    have e2 : ∀ j, j ≤ l.length → be j (c.toNat * 256 ^ l.length + bev l) = be j (bev l) := by
      intro j
      induction j with
      | zero => intro _; rfl
      | succ j ih =>
        intro hj
        rw [be_cons, be_cons, ih (by omega)]
        congr 2
        have : 256 ^ l.length = 256 ^ j * (256 * 256 ^ (l.length - j - 1)) := by
          rw [← Nat.mul_assoc, ← Nat.pow_succ, ← Nat.pow_add]
          congr 1
          omega
        rw [this, show c.toNat * (256 ^ j * (256 * 256 ^ (l.length - j - 1))) = 256 ^ j * (256 * (256 ^ (l.length - j - 1) * c.toNat)) from by ac_rfl, Nat.mul_add_div (Nat.pow_pos (by omega)), Nat.mul_add_mod]
    rw [e1, e2 _ (Nat.le_refl _), be_bev (fun x hx => h x (by simp [hx]))]
    congr 1
    omega
/-- a number's bytes -/
def numB (n : Nat) : List Int := if n < 240 then [(n : Int)] else ((239 + byt n : Nat) : Int) :: be (byt n) n
theorem numB_length (n : Nat) (h : n < 9223372036854775808) : (numB n).length ≤ 9 := by
  unfold numB
  split
  · simp
  · have := byt_le 8 n (by omega)
    simp [be_length]
    exact this
theorem numB_pos (n : Nat) : 1 ≤ (numB n).length := by unfold numB; split <;> simp
theorem numB_ok (n : Nat) (h : n < 9223372036854775808) : okB (numB n) := by
  intro x hx
  unfold numB at hx
  split at hx
  · simp at hx; omega
  · have := byt_le 8 n (by omega)
    rcases List.mem_cons.1 hx with rfl | hx
    · omega
    · exact be_ok _ _ x hx
def textB (s : ByteArray) : List Int := numB s.size ++ bytesOf s
theorem textB_length (s : ByteArray) (h : s.size < 9223372036854775808) : (textB s).length ≤ 9 + s.size := by
  have := numB_length s.size h
  simp [textB, bytesOf_length]
  omega
theorem textB_ok (s : ByteArray) (h : s.size < 9223372036854775808) : okB (textB s) := by
  intro x hx
  rcases List.mem_append.1 hx with hx | hx
  · exact numB_ok _ h x hx
  · exact bytesOf_ok s x hx
def flagB (b : Bool) : Int := if b then 1 else 0
theorem u64_wrap_range (n : Int) : 0 ≤ IntKind.u64.wrap n ∧ IntKind.u64.wrap n < 18446744073709551616 := by
  have e : IntKind.u64.wrap n = n % 18446744073709551616 := by simp [IntKind.wrap, IntKind.bits, IntKind.signed]
  rw [e]
  omega
/-- a whole number of either sign, turned about its highest bit -/
def tw (n : Int) : Nat := (bitsI .xor .u64 (IntKind.u64.wrap n) 9223372036854775808).toNat
theorem tw_eq (n : Int) : bitsI .xor .u64 (IntKind.u64.wrap n) 9223372036854775808 = (tw n : Int) := by
  unfold tw
  rw [Int.toNat_of_nonneg]
  exact (u64_wrap_range _).1
theorem tw_lt (n : Int) : tw n < 18446744073709551616 := by
  have := (u64_wrap_range (BitVec.ofInt IntKind.u64.bits (IntKind.u64.wrap n) ^^^ BitVec.ofInt IntKind.u64.bits 9223372036854775808).toNat).2
  unfold tw
  unfold bitsI
  simp only
  omega
theorem u64_nat (n : Nat) (h : n < 18446744073709551616) : IntKind.u64.wrap (n : Int) = n := u64_in _ ⟨Int.natCast_nonneg _, by omega⟩
theorem shr8 (x : Nat) : (x : Int).fdiv (2 ^ min (Int.toNat 8) IntKind.u64.bits) = ((x / 256 : Nat) : Int) := by
  rw [show (2 : Int) ^ min (Int.toNat 8) IntKind.u64.bits = ((256 : Nat) : Int) from rfl, Int.fdiv_eq_ediv_of_nonneg _ (by omega)]
  exact (Int.natCast_ediv x 256).symm
theorem shrbyte (x i : Nat) (hi : i ≤ 7) : IntKind.u8.wrap ((x : Int).fdiv (2 ^ min (8 * (i : Int)).toNat IntKind.u64.bits)) = ((x / 256 ^ i % 256 : Nat) : Int) := by
  have e1 : (8 * (i : Int)).toNat = 8 * i := by omega
  have e2 : min (8 * i) IntKind.u64.bits = 8 * i := Nat.min_eq_left (by show 8 * i ≤ 64; omega)
  have e3 : (2 : Int) ^ (8 * i) = ((256 ^ i : Nat) : Int) := by rw [Int.pow_mul]; simp
  rw [e1, e2, e3, Int.fdiv_eq_ediv_of_nonneg _ (Int.natCast_nonneg _), ← Int.natCast_ediv, IntKind.wrap_u8]
  omega
theorem snapsA1 {σ : St} {i1 g1 i2 g2 : Nat} {xs : List Int} {e1 : TypeId} {p : PV} (h1 : σ[i1]? = some (some ⟨e1, g1, (pbytes xs).map .pu⟩)) : snaps σ [.own i1 g1 0 xs.length 1, .pu p] = some [bsl xs, p] := by
  simp only [snaps, snap_own h1 (show (pbytes xs).length = xs.length * 1 by simp [pbytes])]
  rfl
theorem snapsA {σ : St} {i1 g1 : Nat} {xs : List Int} {e1 : TypeId} (h1 : σ[i1]? = some (some ⟨e1, g1, (pbytes xs).map .pu⟩)) : snaps σ [.own i1 g1 0 xs.length 1] = some [bsl xs] := by
  simp only [snaps, snap_own h1 (show (pbytes xs).length = xs.length * 1 by simp [pbytes])]
theorem snaps1 {σ : St} {i1 g1 : Nat} {xs : List Int} {e1 : TypeId} {p : PV} (h1 : σ[i1]? = some (some ⟨e1, g1, (pbytes xs).map .pu⟩)) : snaps σ [.own i1 g1 0 xs.length 1, .pu p] = some [bsl xs, p] := by
  simp only [snaps, snap_own h1 (show (pbytes xs).length = xs.length * 1 by simp [pbytes])]
  rfl
theorem snaps1' {σ : St} {i1 g1 : Nat} {xs : List Int} {e1 : TypeId} {p : PV} (h1 : σ[i1]? = some (some ⟨e1, g1, (pbytes xs).map .pu⟩)) : snaps σ [.pu p, .own i1 g1 0 xs.length 1] = some [p, bsl xs] := by
  simp only [snaps, snap_own h1 (show (pbytes xs).length = xs.length * 1 by simp [pbytes])]
  rfl
theorem snaps2 {σ : St} {i1 g1 i2 g2 : Nat} {xs ys : List Int} {e1 e2 : TypeId} (h1 : σ[i1]? = some (some ⟨e1, g1, (pbytes xs).map .pu⟩)) (h2 : σ[i2]? = some (some ⟨e2, g2, (pbytes ys).map .pu⟩)) :
    snaps σ [.own i1 g1 0 xs.length 1, .own i2 g2 0 ys.length 1] = some [bsl xs, bsl ys] := by
  simp only [snaps, snap_own h1 (show (pbytes xs).length = xs.length * 1 by simp [pbytes]), snap_own h2 (show (pbytes ys).length = ys.length * 1 by simp [pbytes])]
/-- Bytes in, bytes out: a new row. -/
def RelB {α : Type} (e : TypeId) (pre : α → Prop) (args : α → List PV) (out : α → List Int) : Spec := RelO pre args e (fun x => (out x).length) (fun _ => 1) (fun x => pbytes (out x))
theorem call_relB {α : Type} {e : TypeId} {pre : α → Prop} {args : α → List PV} {out : α → List Int} {as : List AV} {σ : St} {Q : AV → St → Prop} {x : α} {o : List Int} (hs : snaps σ as = some (args x)) (hp : pre x) (ho : out x = o)
    (k : Q (.own σ.length 0 0 o.length 1) (σ ++ [some ⟨e, 0, (pbytes o).map .pu⟩])) (hn : hasPtrs as = false := by rfl) : VCall (RelB e pre args out) [] as σ Q := by
  subst ho
  exact call_relO hs hp (.inr (noSlPs_pb _)) k hn
theorem Contract.bytes {P : Program} {f : FuncId} {α : Type} {e : TypeId} {pre : α → Prop} {args : α → List PV} {out : α → List Int} (h : Contract P f (RelB e pre args out)) : Contract P f (RelP pre args fun x => bsl (out x)) :=
  Contract.pure h fun x _ => by rw [pbytes_length, Nat.mul_one]
end Go.Vm
