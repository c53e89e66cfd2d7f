/- Vm, part B: the abstract store; what allocating, writing and drawing do to it. -/
import Derived.Test.YtlodbaikbgbhjaaVmA
set_option linter.unusedVariables false
set_option linter.unusedSimpArgs false
namespace Go.Vm
open Go Go.RowKit

/-- An abstract object: its block's element type, its generation, what its first cells hold. -/
structure VObj where
  e : TypeId
  g : Nat
  cs : List AV

abbrev St := List (Option VObj)
abbrev Env := List (Nat × AV)

def mem (σ : St) (β : List (Option Nat)) (Z : Nat → Prop) : Mem :=
  ⟨σ.length, fun id => match σ[id]? with | some (some o) => some (o.g, (β[id]?).join) | _ => none, Z⟩

theorem mem_n (σ : St) (β : List (Option Nat)) (Z : Nat → Prop) : (mem σ β Z).n = σ.length := rfl
theorem mem_al {σ : St} {β : List (Option Nat)} {Z : Nat → Prop} {id g : Nat} {B : Option Nat} :
    (mem σ β Z).al id = some (g, B) ↔ ∃ o : VObj, σ[id]? = some (some o) ∧ o.g = g ∧ (β[id]?).join = B := by
  simp only [mem]
  rcases h : σ[id]? with _ | _ | o
  · simp
  · simp
  · simp

structure RepS (w : World) (σ : St) (β : List (Option Nat)) (Z : Nat → Prop) : Prop where
  len : β.length = σ.length
  obj : ∀ (id : Nat) (o : VObj), σ[id]? = some (some o) → (β[id]? = some none ∧ o.cs = []) ∨
    ∃ b arr, β[id]? = some (some b) ∧ w.heap[b]? = some (.cells arr o.e (0, 0)) ∧ RepAs w (mem σ β Z) true o.cs (arr.toList.take o.cs.length)
  inj : ∀ (id id' b : Nat), id ≠ id' → ∀ (g g' : Nat), (mem σ β Z).al id = some (g, some b) → (mem σ β Z).al id' = some (g', some b) → False
  avd : ∀ b, Z b → b < w.heap.size
  nav : ∀ b, (mem σ β Z).live b → ¬ Z b

theorem RepS.lt {w : World} {σ : St} {β : List (Option Nat)} {Z : Nat → Prop} (h : RepS w σ β Z) {b : Nat} (hl : (mem σ β Z).live b) : b < w.heap.size := by
  obtain ⟨id, g, hal⟩ := hl
  obtain ⟨o, ho, rfl, hB⟩ := mem_al.1 hal
  rcases h.obj id o ho with ⟨h1, _⟩ | ⟨b', arr, h1, h2, _⟩
  · rw [h1] at hB; simp at hB
  · rw [h1] at hB
    simp at hB
    subst hB
    exact (Array.getElem?_eq_some_iff.1 h2).1

/-- The object of one id is written, or takes another block. -/
theorem set_obj {w w' : World} {σ : St} {β : List (Option Nat)} {Z : Nat → Prop} {id : Nat} {o o' : VObj} {B B' : Option Nat} (hS : RepS w σ β Z)
    (hid : σ[id]? = some (some o)) (hB : β[id]? = some B)
    (os : w'.os = w.os) (tape : w'.tape = w.tape) (output : w'.output = w.output) (size : w.heap.size ≤ w'.heap.size)
    (hblk : ∀ b, b < w.heap.size → B ≠ some b → w'.heap[b]? = w.heap[b]?)
    (hg : (o'.g = o.g ∧ B' = B ∧ ∀ b arr e, B = some b → w.heap[b]? = some (.cells arr e (0, 0)) → ∃ arr', w'.heap[b]? = some (.cells arr' e (0, 0)) ∧ arr'.size = arr.size) ∨ o.g < o'.g)
    (hB' : B' = none ∨ B' = B ∨ ∃ b', B' = some b' ∧ w.heap.size ≤ b')
    (hobj : (B' = none ∧ o'.cs = []) ∨ ∃ b' arr, B' = some b' ∧ w'.heap[b']? = some (.cells arr o'.e (0, 0)) ∧ RepAs w (mem σ β Z) true o'.cs (arr.toList.take o'.cs.length)) :
    Step w (mem σ β Z) w' (mem (σ.set id (some o')) (β.set id B') Z) ∧ RepS w' (σ.set id (some o')) (β.set id B') Z := by
  have hlt : id < σ.length := (List.getElem?_eq_some_iff.1 hid).1
  have hltb : id < β.length := (List.getElem?_eq_some_iff.1 hB).1
  have hother : ∀ j, j ≠ id → ∀ g C, (mem (σ.set id (some o')) (β.set id B') Z).al j = some (g, C) ↔ (mem σ β Z).al j = some (g, C) := by
    intro j hj g C
    rw [mem_al, mem_al]
    simp [List.getElem?_set_ne (Ne.symm hj)]
  have hself : ∀ g C, (mem (σ.set id (some o')) (β.set id B') Z).al id = some (g, C) ↔ o'.g = g ∧ B' = C := by
    intro g C
    rw [mem_al]
    simp [List.getElem?_set_self hlt, List.getElem?_set_self hltb]
  have hself0 : ∀ g C, (mem σ β Z).al id = some (g, C) ↔ o.g = g ∧ B = C := by
    intro g C
    rw [mem_al]
    simp [hid, hB]
  have hlive : ∀ b, (mem (σ.set id (some o')) (β.set id B') Z).live b → w.heap.size ≤ b ∨ (mem σ β Z).live b := by
    rintro b ⟨j, g, hal⟩
    by_cases hj : j = id
    · subst hj
      obtain ⟨_, hC⟩ := (hself _ _).1 hal
      rcases hB' with h1 | h1 | ⟨b', h1, h2⟩
      · rw [h1] at hC; cases hC
      · exact .inr ⟨j, o.g, (hself0 _ _).2 ⟨rfl, by rw [← h1]; exact hC⟩⟩
      · rw [h1] at hC; injection hC with hC; subst hC; exact .inl h2
    · exact .inr ⟨j, g, (hother j hj _ _).1 hal⟩
  have hstep : Step w (mem σ β Z) w' (mem (σ.set id (some o')) (β.set id B') Z) := by
    refine ⟨os, tape, output, size, fun b hb hl => hblk b hb (fun e => hl ⟨id, o.g, (hself0 _ _).2 ⟨rfl, e⟩⟩), hlive, by simp [mem], ?_, fun _ _ h => h⟩
    intro j g' C hj hal
    by_cases hji : j = id
    · subst hji
      obtain ⟨h1, h2⟩ := (hself _ _).1 hal
      refine ⟨o.g, B, (hself0 _ _).2 ⟨rfl, rfl⟩, ?_, fun hgg => ?_⟩
      · rcases hg with ⟨h3, _⟩ | h3 <;> omega
      · rcases hg with ⟨_, h4, h5⟩ | h3
        · exact ⟨by rw [← h2, h4], fun b arr e hb hw => h5 b arr e hb hw⟩
        · omega
    · have h0 := (hother j hji _ _).1 hal
      refine ⟨g', C, h0, Nat.le_refl _, fun _ => ⟨rfl, fun b arr e hb hw => ⟨arr, ?_, rfl⟩⟩⟩
      subst hb
      rw [hblk b (Array.getElem?_eq_some_iff.1 hw).1 (fun e => hS.inj j id b hji g' o.g h0 ((hself0 _ _).2 ⟨rfl, e⟩))]
      exact hw
  refine ⟨hstep, ⟨by simp [hS.len], ?_, ?_, fun b hb => Nat.lt_of_lt_of_le (hS.avd b hb) size, fun b hb hz => ?_⟩⟩
  rotate_right 1
  · rcases hlive b hb with h | h
    · have := hS.avd b hz; omega
    · exact hS.nav b h hz
  · intro j oj hoj
    by_cases hj : j = id
    · subst hj
      rw [List.getElem?_set_self hlt] at hoj
      cases hoj
      rw [List.getElem?_set_self hltb]
      rcases hobj with ⟨h1, h2⟩ | ⟨b', arr, h1, h2, h3⟩
      · exact .inl ⟨by rw [h1], h2⟩
      · exact .inr ⟨b', arr, by rw [h1], h2, RepAs.mono hstep _ _ h3⟩
    · rw [List.getElem?_set_ne (Ne.symm hj)] at hoj ⊢
      rcases hS.obj j oj hoj with h1 | ⟨b, arr, h1, h2, h3⟩
      · exact .inl h1
      · refine .inr ⟨b, arr, h1, ?_, RepAs.mono hstep _ _ h3⟩
        rw [hblk b (Array.getElem?_eq_some_iff.1 h2).1 (fun e => hS.inj j id b hj oj.g o.g (mem_al.2 ⟨oj, hoj, rfl, by simp [h1]⟩) ((hself0 _ _).2 ⟨rfl, e⟩))]
        exact h2
  · intro j k b hjk g g' h1 h2
    by_cases hj : j = id
    · subst hj
      have h3 := (hother k (Ne.symm hjk) _ _).1 h2
      obtain ⟨_, hC⟩ := (hself _ _).1 h1
      rcases hB' with h4 | h4 | ⟨b', h4, h5⟩
      · rw [h4] at hC; cases hC
      · exact hS.inj j k b hjk o.g g' ((hself0 _ _).2 ⟨rfl, by rw [← h4]; exact hC⟩) h3
      · rw [h4] at hC; injection hC with hC; subst hC
        have := hS.lt ⟨k, g', h3⟩
        omega
    · by_cases hk : k = id
      · subst hk
        have h3 := (hother j hj _ _).1 h1
        obtain ⟨_, hC⟩ := (hself _ _).1 h2
        rcases hB' with h4 | h4 | ⟨b', h4, h5⟩
        · rw [h4] at hC; cases hC
        · exact hS.inj j k b hjk g o.g h3 ((hself0 _ _).2 ⟨rfl, by rw [← h4]; exact hC⟩)
        · rw [h4] at hC; injection hC with hC; subst hC
          have := hS.lt ⟨j, g, h3⟩
          omega
      · exact hS.inj j k b hjk g g' ((hother j hj _ _).1 h1) ((hother k hk _ _).1 h2)

/-- The world changes where no object and nothing immutable lies: a new block that is no object's, a draw. -/
theorem step_same {w w' : World} {σ : St} {β : List (Option Nat)} {Z : Nat → Prop} (hS : RepS w σ β Z)
    (os : w'.os = w.os) (tape : w'.tape = w.tape) (output : w'.output = w.output) (size : w.heap.size ≤ w'.heap.size)
    (hblk : ∀ b, b < w.heap.size → w'.heap[b]? = w.heap[b]?) : Step w (mem σ β Z) w' (mem σ β Z) ∧ RepS w' σ β Z := by
  have hstep : Step w (mem σ β Z) w' (mem σ β Z) := by
    refine ⟨os, tape, output, size, fun b hb _ => hblk b hb, fun b h => .inr h, Nat.le_refl _, fun id g' B' _ h => ⟨g', B', h, Nat.le_refl _, fun _ => ⟨rfl, fun b arr e _ hw => ⟨arr, ?_, rfl⟩⟩⟩, fun _ _ h => h⟩
    rw [hblk b (Array.getElem?_eq_some_iff.1 hw).1]
    exact hw
  refine ⟨hstep, hS.len, ?_, hS.inj, fun b hb => Nat.lt_of_lt_of_le (hS.avd b hb) size, hS.nav⟩
  intro j oj hoj
  rcases hS.obj j oj hoj with h1 | ⟨b, arr, h1, h2, h3⟩
  · exact .inl h1
  · refine .inr ⟨b, arr, h1, ?_, RepAs.mono hstep _ _ h3⟩
    rw [hblk b (Array.getElem?_eq_some_iff.1 h2).1]
    exact h2

theorem step_alloc {w : World} {σ : St} {β : List (Option Nat)} {Z : Nat → Prop} (hS : RepS w σ β Z) (o : Go.Obj) :
    Step w (mem σ β Z) (w.alloc o) (mem σ β Z) ∧ RepS (w.alloc o) σ β Z :=
  step_same hS rfl rfl rfl (by simp) fun b hb => Below.heap_alloc w o b hb

theorem step_drew {w : World} {σ : St} {β : List (Option Nat)} {Z : Nat → Prop} (hS : RepS w σ β Z) :
    Step w (mem σ β Z) w.drew (mem σ β Z) ∧ RepS w.drew σ β Z := step_same hS rfl rfl rfl (Nat.le_refl _) fun _ _ => rfl

/-- A new object. -/
theorem new_obj {w w' : World} {σ : St} {β : List (Option Nat)} {Z : Nat → Prop} {o' : VObj} {B' : Option Nat} (hS : RepS w σ β Z)
    (os : w'.os = w.os) (tape : w'.tape = w.tape) (output : w'.output = w.output) (size : w.heap.size ≤ w'.heap.size)
    (hblk : ∀ b, b < w.heap.size → w'.heap[b]? = w.heap[b]?)
    (hB' : B' = none ∨ ∃ b', B' = some b' ∧ w.heap.size ≤ b')
    (hobj : (B' = none ∧ o'.cs = []) ∨ ∃ b' arr, B' = some b' ∧ w'.heap[b']? = some (.cells arr o'.e (0, 0)) ∧ RepAs w (mem σ β Z) true o'.cs (arr.toList.take o'.cs.length)) :
    Step w (mem σ β Z) w' (mem (σ ++ [some o']) (β ++ [B']) Z) ∧ RepS w' (σ ++ [some o']) (β ++ [B']) Z := by
  have hold : ∀ j, j < σ.length → ∀ g C, (mem (σ ++ [some o']) (β ++ [B']) Z).al j = some (g, C) ↔ (mem σ β Z).al j = some (g, C) := by
    intro j hj g C
    rw [mem_al, mem_al, List.getElem?_append_left hj, List.getElem?_append_left (by rw [hS.len]; exact hj)]
  have hnew : ∀ g C, (mem (σ ++ [some o']) (β ++ [B']) Z).al σ.length = some (g, C) ↔ o'.g = g ∧ B' = C := by
    intro g C
    rw [mem_al]
    simp [← hS.len]
  have hcase : ∀ j g C, (mem (σ ++ [some o']) (β ++ [B']) Z).al j = some (g, C) → j < σ.length ∨ j = σ.length := by
    intro j g C h
    obtain ⟨o, ho, _⟩ := mem_al.1 h
    have := (List.getElem?_eq_some_iff.1 ho).1
    simp at this
    omega
  have hlive : ∀ b, (mem (σ ++ [some o']) (β ++ [B']) Z).live b → w.heap.size ≤ b ∨ (mem σ β Z).live b := by
    rintro b ⟨j, g, hal⟩
    rcases hcase j _ _ hal with hj | rfl
    · exact .inr ⟨j, g, (hold j hj _ _).1 hal⟩
    · obtain ⟨_, hC⟩ := (hnew _ _).1 hal
      rcases hB' with h1 | ⟨b', h1, h2⟩
      · rw [h1] at hC; cases hC
      · rw [h1] at hC; injection hC with hC; subst hC; exact .inl h2
  have hstep : Step w (mem σ β Z) w' (mem (σ ++ [some o']) (β ++ [B']) Z) := by
    refine ⟨os, tape, output, size, fun b hb _ => hblk b hb, hlive, by simp [mem], ?_, fun _ _ h => h⟩
    intro j g' C hj hal
    have h0 := (hold j hj _ _).1 hal
    refine ⟨g', C, h0, Nat.le_refl _, fun _ => ⟨rfl, fun b arr e hb hw => ⟨arr, ?_, rfl⟩⟩⟩
    rw [hblk b (Array.getElem?_eq_some_iff.1 hw).1]
    exact hw
  refine ⟨hstep, ⟨by simp [hS.len], ?_, ?_, fun b hb => Nat.lt_of_lt_of_le (hS.avd b hb) size, fun b hb hz => ?_⟩⟩
  rotate_right 1
  · rcases hlive b hb with h | h
    · have := hS.avd b hz; omega
    · exact hS.nav b h hz
  · intro j oj hoj
    have hj : j < σ.length ∨ j = σ.length := by
      have := (List.getElem?_eq_some_iff.1 hoj).1
      simp at this
      omega
    rcases hj with hj | rfl
    · rw [List.getElem?_append_left hj] at hoj
      rw [List.getElem?_append_left (by rw [hS.len]; exact hj)]
      rcases hS.obj j oj hoj with h1 | ⟨b, arr, h1, h2, h3⟩
      · exact .inl h1
      · refine .inr ⟨b, arr, h1, ?_, RepAs.mono hstep _ _ h3⟩
        rw [hblk b (Array.getElem?_eq_some_iff.1 h2).1]
        exact h2
    · simp at hoj
      subst hoj
      have hb : (β ++ [B'])[σ.length]? = some B' := by rw [← hS.len]; simp
      rw [hb]
      rcases hobj with ⟨h1, h2⟩ | ⟨b', arr, h1, h2, h3⟩
      · exact .inl ⟨by rw [h1], h2⟩
      · exact .inr ⟨b', arr, by rw [h1], h2, RepAs.mono hstep _ _ h3⟩
  · intro j k b hjk g g' h1 h2
    rcases hcase j _ _ h1 with hj | rfl
    · have h3 := (hold j hj _ _).1 h1
      rcases hcase k _ _ h2 with hk | rfl
      · exact hS.inj j k b hjk g g' h3 ((hold k hk _ _).1 h2)
      · obtain ⟨_, hC⟩ := (hnew _ _).1 h2
        rcases hB' with h4 | ⟨b', h4, h5⟩
        · rw [h4] at hC; cases hC
        · rw [h4] at hC; injection hC with hC; subst hC
          have := hS.lt ⟨j, g, h3⟩
          omega
    · rcases hcase k _ _ h2 with hk | rfl
      · have h3 := (hold k hk _ _).1 h2
        obtain ⟨_, hC⟩ := (hnew _ _).1 h1
        rcases hB' with h4 | ⟨b', h4, h5⟩
        · rw [h4] at hC; cases hC
        · rw [h4] at hC; injection hC with hC; subst hC
          have := hS.lt ⟨k, g', h3⟩
          omega
      · exact hjk rfl

end Go.Vm
