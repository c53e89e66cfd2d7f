/- Vm, part A: pure values, abstract values, what they stand for in memory. -/
import Derived.Orders
import Derived.Below
import Derived.Laws.AppendOwn
import Derived.Laws.OwnMore
set_option linter.unusedVariables false
set_option linter.unusedSimpArgs false
namespace Go.Vm
open Go Go.RowKit

/-- Pure values: no address that may be written. -/
inductive PV where
  | val (v : Value)
  | agg (cs : List PV)
  | tup (cs : List PV)
  | sl (n : Nat) (cs : List PV)
  | rp (cs : List PV)
  | ifc (t : TypeId) (v : PV)
  | fn (f : Fn) (fi ca : List PV)

/-- Abstract values: pure ones, rows of one's own, pointers into objects. -/
inductive AV where
  | pu (p : PV)
  | agg (cs : List AV)
  | tup (cs : List AV)
  | own (id g off n sz : Nat)
  | ptr (id g off : Nat)
  | ifc (t : TypeId) (v : AV)
  | fn (f : Fn) (fi ca : List AV)

/-- What the abstract objects are in memory: how many, which are alive (generation, block), which blocks are to be avoided. -/
structure Mem where
  n : Nat
  al : Nat → Option (Nat × Option Nat)
  av : Nat → Prop

def Mem.live (M : Mem) (b : Nat) : Prop := ∃ id g, M.al id = some (g, some b)
def Mem.imm (M : Mem) (w : World) (b : Nat) : Prop := b < w.heap.size ∧ ¬ M.live b ∧ ¬ M.av b

def Reads (w : World) (ad : Addr) (vs : List Value) : Prop := ∀ j u, vs[j]? = some u → w.cell? (ad.add j) = some u

mutual
def RepP (w : World) (I : Nat → Prop) : PV → Value → Prop
  | .val u, v => v = u
  | .agg cs, v => ∃ vs, v = .agg vs ∧ RepPs w I true cs vs.toList
  | .tup cs, v => ∃ vs, v = .tuple vs ∧ RepPs w I false cs vs.toList
  | .sl n cs, v => ∃ a c, v = .slice a n c ∧ n ≤ c ∧ c ≤ maxLen ∧ (cs = [] ∨ ∃ ad vs, a = some ad ∧ I ad.block ∧ Reads w ad vs ∧ RepPs w I true cs vs)
  | .rp cs, v => ∃ ad vs, v = .pointer (some ad) ∧ I ad.block ∧ Reads w ad vs ∧ RepPs w I true cs vs
  | .ifc t x, v => ∃ u, v = .iface t u ∧ RepP w I x u
  | .fn f fi ca, v => ∃ a b, v = .func f a b ∧ RepPs w I false fi a.toList ∧ RepPs w I false ca b.toList
def RepPs (w : World) (I : Nat → Prop) (one : Bool) : List PV → List Value → Prop
  | [], vs => vs = []
  | c :: cs, vs => ∃ u us, vs = u :: us ∧ (one = true → u.oneCell' = true) ∧ RepP w I c u ∧ RepPs w I one cs us
end

def OwnAt (w : World) (B : Option Nat) (off n sz : Nat) (v : Value) : Prop :=
  (B = none ∧ v = .slice none 0 0 ∧ n = 0 ∧ off = 0) ∨
  ∃ b c arr e, B = some b ∧ v = .slice (some ⟨b, off, none⟩) n c ∧ n ≤ c ∧ c ≤ maxLen ∧ w.heap[b]? = some (.cells arr e (0, 0)) ∧ off + c * sz ≤ arr.size ∧ (off = 0 → c * sz = arr.size)

mutual
def RepA (w : World) (M : Mem) : AV → Value → Prop
  | .pu p, v => RepP w (M.imm w) p v
  | .agg cs, v => ∃ vs, v = .agg vs ∧ RepAs w M true cs vs.toList
  | .tup cs, v => ∃ vs, v = .tuple vs ∧ RepAs w M false cs vs.toList
  | .own id g off n sz, v => (∃ A m c, v = .slice A m c) ∧ id < M.n ∧ ∀ g' B, M.al id = some (g', B) → g ≤ g' ∧ (g = g' → OwnAt w B off n sz v)
  | .ptr id g off, v => (∃ A, v = .pointer A) ∧ id < M.n ∧ ∀ g' B, M.al id = some (g', B) → g ≤ g' ∧ (g = g' → ∃ b, B = some b ∧ v = .pointer (some ⟨b, off, none⟩))
  | .ifc t x, v => ∃ u, v = .iface t u ∧ RepA w M x u
  | .fn f fi ca, v => ∃ a b, v = .func f a b ∧ RepAs w M false fi a.toList ∧ RepAs w M false ca b.toList
def RepAs (w : World) (M : Mem) (one : Bool) : List AV → List Value → Prop
  | [], vs => vs = []
  | c :: cs, vs => ∃ u us, vs = u :: us ∧ (one = true → u.oneCell' = true) ∧ RepA w M c u ∧ RepAs w M one cs us
end

/-! ### what stays -/
theorem reads_mono {w w' : World} {ad : Addr} {vs : List Value} (h : Reads w ad vs) (hb : w'.heap[ad.block]? = w.heap[ad.block]?) : Reads w' ad vs := by
  intro j u hj
  have hh : (ad.add j).block = ad.block := by unfold Addr.add; split <;> rfl
  rw [World.cell?_of_block (w := w) (by rw [hh]; exact hb)]
  exact h j u hj

mutual
theorem RepP.mono {w w' : World} {I I' : Nat → Prop} (hI : ∀ b, I b → w'.heap[b]? = w.heap[b]? ∧ I' b) : ∀ (p : PV) (v : Value), RepP w I p v → RepP w' I' p v
  | .val _, _, h => by simpa only [RepP] using h
  | .agg cs, v, h => by
    simp only [RepP] at h ⊢
    obtain ⟨vs, rfl, h⟩ := h
    exact ⟨vs, rfl, RepPs.mono hI cs _ h⟩
  | .tup cs, v, h => by
    simp only [RepP] at h ⊢
    obtain ⟨vs, rfl, h⟩ := h
    exact ⟨vs, rfl, RepPs.mono hI cs _ h⟩
  | .sl n cs, v, h => by
    simp only [RepP] at h ⊢
    obtain ⟨a, c, rfl, h1, h2, h3⟩ := h
    refine ⟨a, c, rfl, h1, h2, ?_⟩
    rcases h3 with h3 | ⟨ad, vs, rfl, h4, h5, h6⟩
    · exact .inl h3
    · exact .inr ⟨ad, vs, rfl, (hI _ h4).2, reads_mono h5 (hI _ h4).1, RepPs.mono hI cs _ h6⟩
  | .rp cs, v, h => by
    simp only [RepP] at h ⊢
    obtain ⟨ad, vs, rfl, h4, h5, h6⟩ := h
    exact ⟨ad, vs, rfl, (hI _ h4).2, reads_mono h5 (hI _ h4).1, RepPs.mono hI cs _ h6⟩
  | .ifc t x, v, h => by
    simp only [RepP] at h ⊢
    obtain ⟨u, rfl, h⟩ := h
    exact ⟨u, rfl, RepP.mono hI x _ h⟩
  | .fn f fi ca, v, h => by
    simp only [RepP] at h ⊢
    obtain ⟨a, b, rfl, h1, h2⟩ := h
    exact ⟨a, b, rfl, RepPs.mono hI fi _ h1, RepPs.mono hI ca _ h2⟩
theorem RepPs.mono {w w' : World} {I I' : Nat → Prop} {one : Bool} (hI : ∀ b, I b → w'.heap[b]? = w.heap[b]? ∧ I' b) : ∀ (cs : List PV) (vs : List Value), RepPs w I one cs vs → RepPs w' I' one cs vs
  | [], _, h => by simpa only [RepPs] using h
  | c :: cs, vs, h => by
    simp only [RepPs] at h ⊢
    obtain ⟨u, us, rfl, h0, h1, h2⟩ := h
    exact ⟨u, us, rfl, h0, RepP.mono hI c _ h1, RepPs.mono hI cs _ h2⟩
end

/-- From memory M at world w to memory M' at world w': blocks that no living object has stay; so do living objects' blocks, of one generation, but for their cells. -/
structure Step (w : World) (M : Mem) (w' : World) (M' : Mem) : Prop where
  os : w'.os = w.os
  tape : w'.tape = w.tape
  output : w'.output = w.output
  size : w.heap.size ≤ w'.heap.size
  block : ∀ b, b < w.heap.size → ¬ M.live b → w'.heap[b]? = w.heap[b]?
  alive : ∀ b, M'.live b → w.heap.size ≤ b ∨ M.live b
  n : M.n ≤ M'.n
  al : ∀ id g' B', id < M.n → M'.al id = some (g', B') → ∃ g B, M.al id = some (g, B) ∧ g ≤ g' ∧
    (g = g' → B' = B ∧ ∀ b arr e, B = some b → w.heap[b]? = some (.cells arr e (0, 0)) → ∃ arr', w'.heap[b]? = some (.cells arr' e (0, 0)) ∧ arr'.size = arr.size)
  av : ∀ b, b < w.heap.size → M'.av b → M.av b

theorem Step.refl (w : World) (M : Mem) : Step w M w M :=
  ⟨rfl, rfl, rfl, Nat.le_refl _, fun _ _ _ => rfl, fun _ h => .inr h, Nat.le_refl _, fun _ g' B' _ h => ⟨g', B', h, Nat.le_refl _, fun _ => ⟨rfl, fun _ arr _ _ h => ⟨arr, h, rfl⟩⟩⟩, fun _ _ h => h⟩

theorem Step.trans {w w1 w2 : World} {M M1 M2 : Mem} (h : Step w M w1 M1) (k : Step w1 M1 w2 M2) : Step w M w2 M2 := by
  refine ⟨k.os.trans h.os, k.tape.trans h.tape, k.output.trans h.output, Nat.le_trans h.size k.size, ?_, ?_, Nat.le_trans h.n k.n, ?_, ?_⟩
  · intro b hb hl
    rw [k.block b (Nat.lt_of_lt_of_le hb h.size) (fun hl1 => ?_), h.block b hb hl]
    rcases h.alive b hl1 with h1 | h1
    · omega
    · exact hl h1
  · intro b hl2
    rcases k.alive b hl2 with h1 | h1
    · exact .inl (Nat.le_trans h.size h1)
    · exact h.alive b h1
  · intro id g2 B2 hid hal
    obtain ⟨g1, B1, h1, hle1, he1⟩ := k.al id g2 B2 (Nat.lt_of_lt_of_le hid h.n) hal
    obtain ⟨g, B, h0, hle0, he0⟩ := h.al id g1 B1 hid h1
    refine ⟨g, B, h0, Nat.le_trans hle0 hle1, fun hg => ?_⟩
    have e0 : g = g1 := by omega
    have e1 : g1 = g2 := by omega
    obtain ⟨rfl, k0⟩ := he0 e0
    obtain ⟨rfl, k1⟩ := he1 e1
    refine ⟨rfl, fun b arr e hB hw => ?_⟩
    obtain ⟨arr1, hw1, hs1⟩ := k0 b arr e hB hw
    obtain ⟨arr2, hw2, hs2⟩ := k1 b arr1 e hB hw1
    exact ⟨arr2, hw2, hs2.trans hs1⟩
  · intro b hb hav
    exact h.av b hb (k.av b (Nat.lt_of_lt_of_le hb h.size) hav)

theorem Step.imm {w w' : World} {M M' : Mem} (h : Step w M w' M') : ∀ b, M.imm w b → w'.heap[b]? = w.heap[b]? ∧ M'.imm w' b := by
  intro b ⟨h1, h2, h3⟩
  refine ⟨h.block b h1 h2, Nat.lt_of_lt_of_le h1 h.size, fun hl => ?_, fun ha => h3 (h.av b h1 ha)⟩
  rcases h.alive b hl with h4 | h4
  · omega
  · exact h2 h4

mutual
theorem RepA.mono {w w' : World} {M M' : Mem} (hs : Step w M w' M') : ∀ (x : AV) (v : Value), RepA w M x v → RepA w' M' x v
  | .pu p, v, h => by
    simp only [RepA] at h ⊢
    exact RepP.mono hs.imm p v h
  | .agg cs, v, h => by
    simp only [RepA] at h ⊢
    obtain ⟨vs, rfl, h⟩ := h
    exact ⟨vs, rfl, RepAs.mono hs cs _ h⟩
  | .tup cs, v, h => by
    simp only [RepA] at h ⊢
    obtain ⟨vs, rfl, h⟩ := h
    exact ⟨vs, rfl, RepAs.mono hs cs _ h⟩
  | .own id g off n sz, v, h => by
    simp only [RepA] at h ⊢
    obtain ⟨h0, h1, h2⟩ := h
    refine ⟨h0, Nat.lt_of_lt_of_le h1 hs.n, fun g2 B2 hal => ?_⟩
    obtain ⟨g1, B1, h3, h4, h5⟩ := hs.al id g2 B2 h1 hal
    obtain ⟨h6, h7⟩ := h2 g1 B1 h3
    refine ⟨by omega, fun hg => ?_⟩
    obtain ⟨rfl, k⟩ := h5 (by omega)
    rcases h7 (by omega) with ⟨rfl, rfl, rfl, rfl⟩ | ⟨b, c, arr, e, rfl, rfl, k1, k2, k3, k4, k4'⟩
    · exact .inl ⟨rfl, rfl, rfl, rfl⟩
    · obtain ⟨arr', k5, k6⟩ := k b arr e rfl k3
      exact .inr ⟨b, c, arr', e, rfl, rfl, k1, k2, k5, by omega, fun h => (k4' h).trans k6.symm⟩
  | .ptr id g off, v, h => by
    simp only [RepA] at h ⊢
    obtain ⟨h0, h1, h2⟩ := h
    refine ⟨h0, Nat.lt_of_lt_of_le h1 hs.n, fun g2 B2 hal => ?_⟩
    obtain ⟨g1, B1, h3, h4, h5⟩ := hs.al id g2 B2 h1 hal
    obtain ⟨h6, h7⟩ := h2 g1 B1 h3
    refine ⟨by omega, fun hg => ?_⟩
    obtain ⟨rfl, k⟩ := h5 (by omega)
    exact h7 (by omega)
  | .ifc t x, v, h => by
    simp only [RepA] at h ⊢
    obtain ⟨u, rfl, h⟩ := h
    exact ⟨u, rfl, RepA.mono hs x _ h⟩
  | .fn f fi ca, v, h => by
    simp only [RepA] at h ⊢
    obtain ⟨a, b, rfl, h1, h2⟩ := h
    exact ⟨a, b, rfl, RepAs.mono hs fi _ h1, RepAs.mono hs ca _ h2⟩
theorem RepAs.mono {w w' : World} {M M' : Mem} {one : Bool} (hs : Step w M w' M') : ∀ (cs : List AV) (vs : List Value), RepAs w M one cs vs → RepAs w' M' one cs vs
  | [], _, h => by simpa only [RepAs] using h
  | c :: cs, vs, h => by
    simp only [RepAs] at h ⊢
    obtain ⟨u, us, rfl, h0, h1, h2⟩ := h
    exact ⟨u, us, rfl, h0, RepA.mono hs c _ h1, RepAs.mono hs cs _ h2⟩
end

/-! ### lists of values -/
theorem RepPs.length {w : World} {I : Nat → Prop} {one : Bool} : ∀ {cs : List PV} {vs : List Value}, RepPs w I one cs vs → vs.length = cs.length
  | [], _, h => by simp only [RepPs] at h; simp [h]
  | c :: cs, vs, h => by
    simp only [RepPs] at h
    obtain ⟨u, us, rfl, _, _, h2⟩ := h
    simp [h2.length]
theorem RepAs.length {w : World} {M : Mem} {one : Bool} : ∀ {cs : List AV} {vs : List Value}, RepAs w M one cs vs → vs.length = cs.length
  | [], _, h => by simp only [RepAs] at h; simp [h]
  | c :: cs, vs, h => by
    simp only [RepAs] at h
    obtain ⟨u, us, rfl, _, _, h2⟩ := h
    simp [h2.length]
theorem RepPs.get {w : World} {I : Nat → Prop} {one : Bool} : ∀ {cs : List PV} {vs : List Value}, RepPs w I one cs vs → ∀ {j : Nat} {p : PV}, cs[j]? = some p → ∃ u, vs[j]? = some u ∧ (one = true → u.oneCell' = true) ∧ RepP w I p u
  | [], _, _, j, p, hj => by simp at hj
  | c :: cs, vs, h, j, p, hj => by
    simp only [RepPs] at h
    obtain ⟨u, us, rfl, h0, h1, h2⟩ := h
    cases j with
    | zero => simp at hj; subst hj; exact ⟨u, by simp, h0, h1⟩
    | succ j => simp at hj; obtain ⟨x, hx, ho, hp⟩ := h2.get hj; exact ⟨x, by simpa using hx, ho, hp⟩
theorem RepAs.get {w : World} {M : Mem} {one : Bool} : ∀ {cs : List AV} {vs : List Value}, RepAs w M one cs vs → ∀ {j : Nat} {p : AV}, cs[j]? = some p → ∃ u, vs[j]? = some u ∧ (one = true → u.oneCell' = true) ∧ RepA w M p u
  | [], _, _, j, p, hj => by simp at hj
  | c :: cs, vs, h, j, p, hj => by
    simp only [RepAs] at h
    obtain ⟨u, us, rfl, h0, h1, h2⟩ := h
    cases j with
    | zero => simp at hj; subst hj; exact ⟨u, by simp, h0, h1⟩
    | succ j => simp at hj; obtain ⟨x, hx, ho, hp⟩ := h2.get hj; exact ⟨x, by simpa using hx, ho, hp⟩
theorem RepPs.append {w : World} {I : Nat → Prop} {one : Bool} : ∀ {cs ds : List PV} {vs us : List Value}, RepPs w I one cs vs → RepPs w I one ds us → RepPs w I one (cs ++ ds) (vs ++ us)
  | [], _, _, _, h, k => by simp only [RepPs] at h; subst h; simpa using k
  | c :: cs, ds, vs, us, h, k => by
    simp only [RepPs] at h
    obtain ⟨u, us', rfl, h0, h1, h2⟩ := h
    simp only [List.cons_append, RepPs]
    exact ⟨u, us' ++ us, rfl, h0, h1, h2.append k⟩
theorem RepAs.append {w : World} {M : Mem} {one : Bool} : ∀ {cs ds : List AV} {vs us : List Value}, RepAs w M one cs vs → RepAs w M one ds us → RepAs w M one (cs ++ ds) (vs ++ us)
  | [], _, _, _, h, k => by simp only [RepAs] at h; subst h; simpa using k
  | c :: cs, ds, vs, us, h, k => by
    simp only [RepAs] at h
    obtain ⟨u, us', rfl, h0, h1, h2⟩ := h
    simp only [List.cons_append, RepAs]
    exact ⟨u, us' ++ us, rfl, h0, h1, h2.append k⟩
theorem RepPs.take {w : World} {I : Nat → Prop} {one : Bool} : ∀ {cs : List PV} {vs : List Value} (k : Nat), RepPs w I one cs vs → RepPs w I one (cs.take k) (vs.take k)
  | [], _, k, h => by simp only [RepPs] at h; subst h; simp [RepPs]
  | c :: cs, vs, 0, h => by simp [RepPs]
  | c :: cs, vs, k + 1, h => by
    simp only [RepPs] at h
    obtain ⟨u, us', rfl, h0, h1, h2⟩ := h
    simp only [List.take_succ_cons, RepPs]
    exact ⟨u, us'.take k, rfl, h0, h1, h2.take k⟩
theorem RepPs.drop {w : World} {I : Nat → Prop} {one : Bool} : ∀ {cs : List PV} {vs : List Value} (k : Nat), RepPs w I one cs vs → RepPs w I one (cs.drop k) (vs.drop k)
  | [], _, k, h => by simp only [RepPs] at h; subst h; simp [RepPs]
  | c :: cs, vs, 0, h => by simpa using h
  | c :: cs, vs, k + 1, h => by
    simp only [RepPs] at h
    obtain ⟨u, us', rfl, h0, h1, h2⟩ := h
    simpa using h2.drop k
theorem RepAs.take {w : World} {M : Mem} {one : Bool} : ∀ {cs : List AV} {vs : List Value} (k : Nat), RepAs w M one cs vs → RepAs w M one (cs.take k) (vs.take k)
  | [], _, k, h => by simp only [RepAs] at h; subst h; simp [RepAs]
  | c :: cs, vs, 0, h => by simp [RepAs]
  | c :: cs, vs, k + 1, h => by
    simp only [RepAs] at h
    obtain ⟨u, us', rfl, h0, h1, h2⟩ := h
    simp only [List.take_succ_cons, RepAs]
    exact ⟨u, us'.take k, rfl, h0, h1, h2.take k⟩
theorem RepAs.drop {w : World} {M : Mem} {one : Bool} : ∀ {cs : List AV} {vs : List Value} (k : Nat), RepAs w M one cs vs → RepAs w M one (cs.drop k) (vs.drop k)
  | [], _, k, h => by simp only [RepAs] at h; subst h; simp [RepAs]
  | c :: cs, vs, 0, h => by simpa using h
  | c :: cs, vs, k + 1, h => by
    simp only [RepAs] at h
    obtain ⟨u, us', rfl, h0, h1, h2⟩ := h
    simpa using h2.drop k
theorem RepAs.of_pu {w : World} {M : Mem} {one : Bool} : ∀ {cs : List PV} {vs : List Value}, RepPs w (M.imm w) one cs vs → RepAs w M one (cs.map .pu) vs
  | [], _, h => by simp only [RepPs] at h; subst h; simp [RepAs]
  | c :: cs, vs, h => by
    simp only [RepPs] at h
    obtain ⟨u, us', rfl, h0, h1, h2⟩ := h
    simp only [List.map_cons, RepAs]
    exact ⟨u, us', rfl, h0, by simpa only [RepA] using h1, RepAs.of_pu h2⟩
theorem RepAs.to_pu {w : World} {M : Mem} {one : Bool} : ∀ {cs : List PV} {vs : List Value}, RepAs w M one (cs.map .pu) vs → RepPs w (M.imm w) one cs vs
  | [], _, h => by simp only [List.map_nil, RepAs] at h; subst h; simp [RepPs]
  | c :: cs, vs, h => by
    simp only [List.map_cons, RepAs] at h
    obtain ⟨u, us', rfl, h0, h1, h2⟩ := h
    simp only [RepPs]
    exact ⟨u, us', rfl, h0, by simpa only [RepA] using h1, RepAs.to_pu h2⟩
theorem Reads.drop {w : World} {ad : Addr} {vs : List Value} (h : Reads w ad vs) (k : Nat) : Reads w (ad.add k) (vs.drop k) := by
  intro j u hj
  have ha : (ad.add k).add j = ad.add (k + j) := by
    unfold Addr.add
    by_cases h1 : k = 0 <;> by_cases h2 : j = 0 <;> simp [h1, h2, Nat.add_assoc]
  rw [ha]
  exact h _ _ (by simpa [List.getElem?_drop] using hj)
theorem Reads.take {w : World} {ad : Addr} {vs : List Value} (h : Reads w ad vs) (k : Nat) : Reads w ad (vs.take k) := by
  intro j u hj
  rw [List.getElem?_take] at hj
  split at hj
  · exact h j u hj
  · cases hj

end Go.Vm
