/- strings.Contains of a byte that is nowhere; NamesBack. -/
import Derived.Test.YtdjgfjnnafddnaaNameB
import Derived.Lib.Bytealg
set_option linter.unusedVariables false
set_option linter.unusedSimpArgs false
set_option maxRecDepth 20000
namespace Go.Proofs.Ytdjgfjnnafddnaa
open Go Go.Vm Go.IntWalk

theorem indexByte_no : ∀ (l : List UInt8), (∀ b ∈ l, b ≠ 47) → Lib.indexByte l 47 = -1
  | [], _ => rfl
  | b :: l, h => by
    unfold Lib.indexByte
    have h1 : (b == (47 : UInt8)) = false := by rw [beq_eq_false_iff_ne]; exact h b (by simp)
    have h2 := indexByte_no l (fun x hx => h x (by simp [hx]))
    rw [h1, h2]
    rfl
theorem x_bytealg_IndexByteString : XContract Try.prog id_bytealg_IndexByteString (RelP (fun (s : ByteArray) => (47 : Int) ∉ bytesOf s) (fun s => [str s, u8 47]) fun _ => i64 (-1)) := by
  intro w objs β Z vs ars K hS hR hK
  obtain ⟨rfl, s, hs, rfl, k⟩ := hK
  simp only [List.map, RepAs, RepA] at hR
  obtain ⟨u, _, rfl, _, h1, v, _, rfl, _, h2, rfl⟩ := hR
  simp only [RepP] at h1 h2
  subst h1 h2
  refine ⟨.int .i64 (-1), w, β, .pu (i64 (-1)), [], ?_, Step.refl _ _, hS, rfl, k⟩
  rw [run_callFunc_extern Try.func112 (by kernel_rfl) (by kernel_rfl) (by kernel_rfl) (e := Extern.BytealgIndexByte.indexByte) (by kernel_rfl)]
  show (Sem.run Try.prog (Extern.BytealgIndexByte.indexByte #[.string s, .int .u8 47]) w).andThen _ = _
  rw [Lib.run_indexByteString, show (47 : Int).toNat.toUInt8 = 47 from rfl, indexByte_no]
  · rfl
  · rintro b hb rfl
    exact hs (by simp only [bytesOf, List.mem_map]; exact ⟨_, hb, rfl⟩)
theorem con_stringslite_IndexByte : Contract Try.prog id_stringslite_IndexByte (RelP (fun (s : ByteArray) => (47 : Int) ∉ bytesOf s) (fun s => [str s, u8 47]) fun _ => i64 (-1)) := by
  refine (code_stringslite_IndexByte).pure (Known.consX x_bytealg_IndexByteString Known.nil) (by rintro x -; first | exact Nat.le_of_ble_eq_true rfl | (obtain ⟨_, _⟩ := x; exact Nat.le_of_ble_eq_true rfl) | (obtain ⟨_, _, _⟩ := x; exact Nat.le_of_ble_eq_true rfl) | (obtain ⟨_, _, _, _⟩ := x; exact Nat.le_of_ble_eq_true rfl) | (obtain ⟨_, _, _, _, _⟩ := x; exact Nat.le_of_ble_eq_true rfl) | (obtain ⟨_, _, _, _, _, _⟩ := x; exact Nat.le_of_ble_eq_true rfl) | (obtain ⟨_, _, _, _, _, _, _⟩ := x; exact Nat.le_of_ble_eq_true rfl) | (obtain ⟨_, _, _, _, _, _, _, _⟩ := x; exact Nat.le_of_ble_eq_true rfl)) ?_
  rintro s hs
  repeat' first
    | (with_reducible refine bo_run ?_); conv => whnf
    | (with_reducible refine bw_run ?_); conv => whnf
    | (with_reducible refine bd_run ?_); conv => whnf
    | (with_reducible refine Br.tt ?_); conv => whnf
    | (with_reducible refine Br.ff ?_); conv => whnf
    | (with_reducible refine br_not ?_)
    | (with_reducible refine br_dec_tt (by assumption) ?_); conv => whnf
    | (with_reducible refine br_dec_ff (by assumption) ?_); conv => whnf
    | (with_reducible refine br_dec_tt (by decide) ?_); conv => whnf
    | (with_reducible refine br_dec_ff (by decide) ?_); conv => whnf
    | (with_reducible refine br_dec_intro (fun _ => ?_) (fun _ => ?_)) <;> conv => whnf
    | (with_reducible refine br_beq_tt (by assumption) ?_); conv => whnf
    | (with_reducible refine br_beq_ff (by assumption) ?_); conv => whnf
    | (with_reducible refine br_beq_tt (by decide) ?_); conv => whnf
    | (with_reducible refine br_beq_ff (by decide) ?_); conv => whnf
    | (with_reducible refine br_beq_intro (fun _ => ?_) (fun _ => ?_)) <;> conv => whnf
    | (with_reducible refine br_bne_tt (by assumption) ?_); conv => whnf
    | (with_reducible refine br_bne_ff (by assumption) ?_); conv => whnf
    | (with_reducible refine br_bne_tt (by decide) ?_); conv => whnf
    | (with_reducible refine br_bne_ff (by decide) ?_); conv => whnf
    | (with_reducible refine br_bne_intro (fun _ => ?_) (fun _ => ?_)) <;> conv => whnf
    | (with_reducible refine br_of_true (by assumption) ?_); conv => whnf
    | (with_reducible refine br_of_false (by assumption) ?_); conv => whnf
    | (with_reducible refine br_intro (fun _ => ?_) (fun _ => ?_)) <;> conv => whnf
    | (with_reducible refine and_rfl ?_); conv => whnf
    | (refine and_late (fun _ => ?_) (by first | omega | (show _ = _; rfl) | exact trivial | exact ⟨rfl, trivial⟩ | exact ⟨rfl, rfl, trivial⟩ | exact (fun h => by cases h) | exact (fun _ => ⟨rfl, rfl⟩) | exact Nat.le_of_ble_eq_true rfl | (simp only [List.length_map, List.length_append, pbytes, Nat.mul_one, List.length_cons, List.length_nil]; done) | (simp only [List.length_map, List.length_append, pbytes, Nat.mul_one, List.length_cons, List.length_nil]; omega))); conv => whnf
    | (with_reducible refine and_late (fun _ => ?_) ?_); conv => whnf
    | (with_reducible refine vcall_id ?_)
      first
      | (refine vcall_inl rfl rfl rfl rfl (Nat.le_of_ble_eq_true rfl) ?_)
    | (with_reducible refine Both.mk ?_ ?_) <;> conv => whnf
    | (refine ⟨[], _, _, rfl, ?_⟩); conv => whnf
    | (refine ⟨_, rfl, ?_⟩); conv => whnf
    | (refine ⟨_, unbytes_pbytes _, ?_⟩); conv => whnf
    | exact ⟨_, _, rfl, rfl⟩
    | exact rensG_pu _ _ _ _
    | rfl
    | (rw [snap_own rfl (show (pbytes _).length = _ * 1 from by rw [pbytes_length, Nat.mul_one])]); conv => whnf
    | fail
  refine call_rel (x := s) rfl hs rfl (.inl rfl) ?_
  conv => whnf
  repeat' first
    | (with_reducible refine bo_run ?_); conv => whnf
    | (with_reducible refine bw_run ?_); conv => whnf
    | (with_reducible refine bd_run ?_); conv => whnf
    | (with_reducible refine Br.tt ?_); conv => whnf
    | (with_reducible refine Br.ff ?_); conv => whnf
    | (with_reducible refine br_not ?_)
    | (with_reducible refine br_dec_tt (by assumption) ?_); conv => whnf
    | (with_reducible refine br_dec_ff (by assumption) ?_); conv => whnf
    | (with_reducible refine br_dec_tt (by decide) ?_); conv => whnf
    | (with_reducible refine br_dec_ff (by decide) ?_); conv => whnf
    | (with_reducible refine br_dec_intro (fun _ => ?_) (fun _ => ?_)) <;> conv => whnf
    | (with_reducible refine br_beq_tt (by assumption) ?_); conv => whnf
    | (with_reducible refine br_beq_ff (by assumption) ?_); conv => whnf
    | (with_reducible refine br_beq_tt (by decide) ?_); conv => whnf
    | (with_reducible refine br_beq_ff (by decide) ?_); conv => whnf
    | (with_reducible refine br_beq_intro (fun _ => ?_) (fun _ => ?_)) <;> conv => whnf
    | (with_reducible refine br_bne_tt (by assumption) ?_); conv => whnf
    | (with_reducible refine br_bne_ff (by assumption) ?_); conv => whnf
    | (with_reducible refine br_bne_tt (by decide) ?_); conv => whnf
    | (with_reducible refine br_bne_ff (by decide) ?_); conv => whnf
    | (with_reducible refine br_bne_intro (fun _ => ?_) (fun _ => ?_)) <;> conv => whnf
    | (with_reducible refine br_of_true (by assumption) ?_); conv => whnf
    | (with_reducible refine br_of_false (by assumption) ?_); conv => whnf
    | (with_reducible refine br_intro (fun _ => ?_) (fun _ => ?_)) <;> conv => whnf
    | (with_reducible refine and_rfl ?_); conv => whnf
    | (refine and_late (fun _ => ?_) (by first | omega | (show _ = _; rfl) | exact trivial | exact ⟨rfl, trivial⟩ | exact ⟨rfl, rfl, trivial⟩ | exact (fun h => by cases h) | exact (fun _ => ⟨rfl, rfl⟩) | exact Nat.le_of_ble_eq_true rfl | (simp only [List.length_map, List.length_append, pbytes, Nat.mul_one, List.length_cons, List.length_nil]; done) | (simp only [List.length_map, List.length_append, pbytes, Nat.mul_one, List.length_cons, List.length_nil]; omega))); conv => whnf
    | (with_reducible refine and_late (fun _ => ?_) ?_); conv => whnf
    | (with_reducible refine vcall_id ?_)
      first
      | (refine vcall_inl rfl rfl rfl rfl (Nat.le_of_ble_eq_true rfl) ?_)
    | (with_reducible refine Both.mk ?_ ?_) <;> conv => whnf
    | (refine ⟨[], _, _, rfl, ?_⟩); conv => whnf
    | (refine ⟨_, rfl, ?_⟩); conv => whnf
    | (refine ⟨_, unbytes_pbytes _, ?_⟩); conv => whnf
    | exact ⟨_, _, rfl, rfl⟩
    | exact rensG_pu _ _ _ _
    | rfl
    | (rw [snap_own rfl (show (pbytes _).length = _ * 1 from by rw [pbytes_length, Nat.mul_one])]); conv => whnf
    | fail
theorem con_stringslite_Index : Contract Try.prog id_stringslite_Index (RelP (fun (s : ByteArray) => (47 : Int) ∉ bytesOf s) (fun s => [str s, str ⟨#[47]⟩]) fun _ => i64 (-1)) := by
  refine (code_stringslite_Index).pure (Known.cons con_stringslite_IndexByte Known.nil) (by rintro x -; first | exact Nat.le_of_ble_eq_true rfl | (obtain ⟨_, _⟩ := x; exact Nat.le_of_ble_eq_true rfl) | (obtain ⟨_, _, _⟩ := x; exact Nat.le_of_ble_eq_true rfl) | (obtain ⟨_, _, _, _⟩ := x; exact Nat.le_of_ble_eq_true rfl) | (obtain ⟨_, _, _, _, _⟩ := x; exact Nat.le_of_ble_eq_true rfl) | (obtain ⟨_, _, _, _, _, _⟩ := x; exact Nat.le_of_ble_eq_true rfl) | (obtain ⟨_, _, _, _, _, _, _⟩ := x; exact Nat.le_of_ble_eq_true rfl) | (obtain ⟨_, _, _, _, _, _, _, _⟩ := x; exact Nat.le_of_ble_eq_true rfl)) ?_
  rintro s hs
  have z : (((⟨#[47]⟩ : ByteArray).size : Nat) : Int) = 1 := rfl
  have z0 : ¬ (((⟨#[47]⟩ : ByteArray).size : Nat) : Int) = 0 := by rw [z]; decide
  have b : bt ⟨#[47]⟩ (Int.toNat 0) = 47 := by decide +kernel
  have b0 : strEq ⟨#[47]⟩ s = false := by
    rw [← Bool.not_eq_true, strEq_bytes, decide_eq_true_eq]
    intro h
    exact hs (by rw [← h]; decide +kernel)
  repeat' first
    | (with_reducible refine bo_run ?_); conv => whnf
    | (with_reducible refine bw_run ?_); conv => whnf
    | (with_reducible refine bd_run ?_); conv => whnf
    | (with_reducible refine Br.tt ?_); conv => whnf
    | (with_reducible refine Br.ff ?_); conv => whnf
    | (with_reducible refine br_not ?_)
    | (with_reducible refine br_dec_tt (by assumption) ?_); conv => whnf
    | (with_reducible refine br_dec_ff (by assumption) ?_); conv => whnf
    | (with_reducible refine br_dec_tt (by decide) ?_); conv => whnf
    | (with_reducible refine br_dec_ff (by decide) ?_); conv => whnf
    | (with_reducible refine br_dec_intro (fun _ => ?_) (fun _ => ?_)) <;> conv => whnf
    | (with_reducible refine br_beq_tt (by assumption) ?_); conv => whnf
    | (with_reducible refine br_beq_ff (by assumption) ?_); conv => whnf
    | (with_reducible refine br_beq_tt (by decide) ?_); conv => whnf
    | (with_reducible refine br_beq_ff (by decide) ?_); conv => whnf
    | (with_reducible refine br_beq_intro (fun _ => ?_) (fun _ => ?_)) <;> conv => whnf
    | (with_reducible refine br_bne_tt (by assumption) ?_); conv => whnf
    | (with_reducible refine br_bne_ff (by assumption) ?_); conv => whnf
    | (with_reducible refine br_bne_tt (by decide) ?_); conv => whnf
    | (with_reducible refine br_bne_ff (by decide) ?_); conv => whnf
    | (with_reducible refine br_bne_intro (fun _ => ?_) (fun _ => ?_)) <;> conv => whnf
    | (with_reducible refine br_of_true (by assumption) ?_); conv => whnf
    | (with_reducible refine br_of_false (by assumption) ?_); conv => whnf
    | (with_reducible refine br_intro (fun _ => ?_) (fun _ => ?_)) <;> conv => whnf
    | (with_reducible refine and_rfl ?_); conv => whnf
    | (refine and_late (fun _ => ?_) (by first | omega | (show _ = _; rfl) | exact trivial | exact ⟨rfl, trivial⟩ | exact ⟨rfl, rfl, trivial⟩ | exact (fun h => by cases h) | exact (fun _ => ⟨rfl, rfl⟩) | exact Nat.le_of_ble_eq_true rfl | (simp only [List.length_map, List.length_append, pbytes, Nat.mul_one, List.length_cons, List.length_nil]; done) | (simp only [List.length_map, List.length_append, pbytes, Nat.mul_one, List.length_cons, List.length_nil]; omega))); conv => whnf
    | (with_reducible refine and_late (fun _ => ?_) ?_); conv => whnf
    | (with_reducible refine vcall_id ?_)
      first
      | (refine vcall_inl rfl rfl rfl rfl (Nat.le_of_ble_eq_true rfl) ?_)
    | (with_reducible refine Both.mk ?_ ?_) <;> conv => whnf
    | (refine ⟨[], _, _, rfl, ?_⟩); conv => whnf
    | (refine ⟨_, rfl, ?_⟩); conv => whnf
    | (refine ⟨_, unbytes_pbytes _, ?_⟩); conv => whnf
    | exact ⟨_, _, rfl, rfl⟩
    | exact rensG_pu _ _ _ _
    | rfl
    | (rw [snap_own rfl (show (pbytes _).length = _ * 1 from by rw [pbytes_length, Nat.mul_one])]); conv => whnf
    | fail
  refine call_rel (x := s) (by rw [b]; rfl) hs rfl (.inl rfl) ?_
  conv => whnf
  repeat' first
    | (with_reducible refine bo_run ?_); conv => whnf
    | (with_reducible refine bw_run ?_); conv => whnf
    | (with_reducible refine bd_run ?_); conv => whnf
    | (with_reducible refine Br.tt ?_); conv => whnf
    | (with_reducible refine Br.ff ?_); conv => whnf
    | (with_reducible refine br_not ?_)
    | (with_reducible refine br_dec_tt (by assumption) ?_); conv => whnf
    | (with_reducible refine br_dec_ff (by assumption) ?_); conv => whnf
    | (with_reducible refine br_dec_tt (by decide) ?_); conv => whnf
    | (with_reducible refine br_dec_ff (by decide) ?_); conv => whnf
    | (with_reducible refine br_dec_intro (fun _ => ?_) (fun _ => ?_)) <;> conv => whnf
    | (with_reducible refine br_beq_tt (by assumption) ?_); conv => whnf
    | (with_reducible refine br_beq_ff (by assumption) ?_); conv => whnf
    | (with_reducible refine br_beq_tt (by decide) ?_); conv => whnf
    | (with_reducible refine br_beq_ff (by decide) ?_); conv => whnf
    | (with_reducible refine br_beq_intro (fun _ => ?_) (fun _ => ?_)) <;> conv => whnf
    | (with_reducible refine br_bne_tt (by assumption) ?_); conv => whnf
    | (with_reducible refine br_bne_ff (by assumption) ?_); conv => whnf
    | (with_reducible refine br_bne_tt (by decide) ?_); conv => whnf
    | (with_reducible refine br_bne_ff (by decide) ?_); conv => whnf
    | (with_reducible refine br_bne_intro (fun _ => ?_) (fun _ => ?_)) <;> conv => whnf
    | (with_reducible refine br_of_true (by assumption) ?_); conv => whnf
    | (with_reducible refine br_of_false (by assumption) ?_); conv => whnf
    | (with_reducible refine br_intro (fun _ => ?_) (fun _ => ?_)) <;> conv => whnf
    | (with_reducible refine and_rfl ?_); conv => whnf
    | (refine and_late (fun _ => ?_) (by first | omega | (show _ = _; rfl) | exact trivial | exact ⟨rfl, trivial⟩ | exact ⟨rfl, rfl, trivial⟩ | exact (fun h => by cases h) | exact (fun _ => ⟨rfl, rfl⟩) | exact Nat.le_of_ble_eq_true rfl | (simp only [List.length_map, List.length_append, pbytes, Nat.mul_one, List.length_cons, List.length_nil]; done) | (simp only [List.length_map, List.length_append, pbytes, Nat.mul_one, List.length_cons, List.length_nil]; omega))); conv => whnf
    | (with_reducible refine and_late (fun _ => ?_) ?_); conv => whnf
    | (with_reducible refine vcall_id ?_)
      first
      | (refine vcall_inl rfl rfl rfl rfl (Nat.le_of_ble_eq_true rfl) ?_)
    | (with_reducible refine Both.mk ?_ ?_) <;> conv => whnf
    | (refine ⟨[], _, _, rfl, ?_⟩); conv => whnf
    | (refine ⟨_, rfl, ?_⟩); conv => whnf
    | (refine ⟨_, unbytes_pbytes _, ?_⟩); conv => whnf
    | exact ⟨_, _, rfl, rfl⟩
    | exact rensG_pu _ _ _ _
    | rfl
    | (rw [snap_own rfl (show (pbytes _).length = _ * 1 from by rw [pbytes_length, Nat.mul_one])]); conv => whnf
    | fail
theorem con_strings_Index : Contract Try.prog id_strings_Index (RelP (fun (s : ByteArray) => (47 : Int) ∉ bytesOf s) (fun s => [str s, str ⟨#[47]⟩]) fun _ => i64 (-1)) := by
  refine (code_strings_Index).pure (Known.cons con_stringslite_Index Known.nil) (by rintro x -; first | exact Nat.le_of_ble_eq_true rfl | (obtain ⟨_, _⟩ := x; exact Nat.le_of_ble_eq_true rfl) | (obtain ⟨_, _, _⟩ := x; exact Nat.le_of_ble_eq_true rfl) | (obtain ⟨_, _, _, _⟩ := x; exact Nat.le_of_ble_eq_true rfl) | (obtain ⟨_, _, _, _, _⟩ := x; exact Nat.le_of_ble_eq_true rfl) | (obtain ⟨_, _, _, _, _, _⟩ := x; exact Nat.le_of_ble_eq_true rfl) | (obtain ⟨_, _, _, _, _, _, _⟩ := x; exact Nat.le_of_ble_eq_true rfl) | (obtain ⟨_, _, _, _, _, _, _, _⟩ := x; exact Nat.le_of_ble_eq_true rfl)) ?_
  rintro s hs
  repeat' first
    | (with_reducible refine bo_run ?_); conv => whnf
    | (with_reducible refine bw_run ?_); conv => whnf
    | (with_reducible refine bd_run ?_); conv => whnf
    | (with_reducible refine Br.tt ?_); conv => whnf
    | (with_reducible refine Br.ff ?_); conv => whnf
    | (with_reducible refine br_not ?_)
    | (with_reducible refine br_dec_tt (by assumption) ?_); conv => whnf
    | (with_reducible refine br_dec_ff (by assumption) ?_); conv => whnf
    | (with_reducible refine br_dec_tt (by decide) ?_); conv => whnf
    | (with_reducible refine br_dec_ff (by decide) ?_); conv => whnf
    | (with_reducible refine br_dec_intro (fun _ => ?_) (fun _ => ?_)) <;> conv => whnf
    | (with_reducible refine br_beq_tt (by assumption) ?_); conv => whnf
    | (with_reducible refine br_beq_ff (by assumption) ?_); conv => whnf
    | (with_reducible refine br_beq_tt (by decide) ?_); conv => whnf
    | (with_reducible refine br_beq_ff (by decide) ?_); conv => whnf
    | (with_reducible refine br_beq_intro (fun _ => ?_) (fun _ => ?_)) <;> conv => whnf
    | (with_reducible refine br_bne_tt (by assumption) ?_); conv => whnf
    | (with_reducible refine br_bne_ff (by assumption) ?_); conv => whnf
    | (with_reducible refine br_bne_tt (by decide) ?_); conv => whnf
    | (with_reducible refine br_bne_ff (by decide) ?_); conv => whnf
    | (with_reducible refine br_bne_intro (fun _ => ?_) (fun _ => ?_)) <;> conv => whnf
    | (with_reducible refine br_of_true (by assumption) ?_); conv => whnf
    | (with_reducible refine br_of_false (by assumption) ?_); conv => whnf
    | (with_reducible refine br_intro (fun _ => ?_) (fun _ => ?_)) <;> conv => whnf
    | (with_reducible refine and_rfl ?_); conv => whnf
    | (refine and_late (fun _ => ?_) (by first | omega | (show _ = _; rfl) | exact trivial | exact ⟨rfl, trivial⟩ | exact ⟨rfl, rfl, trivial⟩ | exact (fun h => by cases h) | exact (fun _ => ⟨rfl, rfl⟩) | exact Nat.le_of_ble_eq_true rfl | (simp only [List.length_map, List.length_append, pbytes, Nat.mul_one, List.length_cons, List.length_nil]; done) | (simp only [List.length_map, List.length_append, pbytes, Nat.mul_one, List.length_cons, List.length_nil]; omega))); conv => whnf
    | (with_reducible refine and_late (fun _ => ?_) ?_); conv => whnf
    | (with_reducible refine vcall_id ?_)
      first
      | (refine vcall_inl rfl rfl rfl rfl (Nat.le_of_ble_eq_true rfl) ?_)
    | (with_reducible refine Both.mk ?_ ?_) <;> conv => whnf
    | (refine ⟨[], _, _, rfl, ?_⟩); conv => whnf
    | (refine ⟨_, rfl, ?_⟩); conv => whnf
    | (refine ⟨_, unbytes_pbytes _, ?_⟩); conv => whnf
    | exact ⟨_, _, rfl, rfl⟩
    | exact rensG_pu _ _ _ _
    | rfl
    | (rw [snap_own rfl (show (pbytes _).length = _ * 1 from by rw [pbytes_length, Nat.mul_one])]); conv => whnf
    | fail
  refine call_rel (x := s) rfl hs rfl (.inl rfl) ?_
  conv => whnf
  repeat' first
    | (with_reducible refine bo_run ?_); conv => whnf
    | (with_reducible refine bw_run ?_); conv => whnf
    | (with_reducible refine bd_run ?_); conv => whnf
    | (with_reducible refine Br.tt ?_); conv => whnf
    | (with_reducible refine Br.ff ?_); conv => whnf
    | (with_reducible refine br_not ?_)
    | (with_reducible refine br_dec_tt (by assumption) ?_); conv => whnf
    | (with_reducible refine br_dec_ff (by assumption) ?_); conv => whnf
    | (with_reducible refine br_dec_tt (by decide) ?_); conv => whnf
    | (with_reducible refine br_dec_ff (by decide) ?_); conv => whnf
    | (with_reducible refine br_dec_intro (fun _ => ?_) (fun _ => ?_)) <;> conv => whnf
    | (with_reducible refine br_beq_tt (by assumption) ?_); conv => whnf
    | (with_reducible refine br_beq_ff (by assumption) ?_); conv => whnf
    | (with_reducible refine br_beq_tt (by decide) ?_); conv => whnf
    | (with_reducible refine br_beq_ff (by decide) ?_); conv => whnf
    | (with_reducible refine br_beq_intro (fun _ => ?_) (fun _ => ?_)) <;> conv => whnf
    | (with_reducible refine br_bne_tt (by assumption) ?_); conv => whnf
    | (with_reducible refine br_bne_ff (by assumption) ?_); conv => whnf
    | (with_reducible refine br_bne_tt (by decide) ?_); conv => whnf
    | (with_reducible refine br_bne_ff (by decide) ?_); conv => whnf
    | (with_reducible refine br_bne_intro (fun _ => ?_) (fun _ => ?_)) <;> conv => whnf
    | (with_reducible refine br_of_true (by assumption) ?_); conv => whnf
    | (with_reducible refine br_of_false (by assumption) ?_); conv => whnf
    | (with_reducible refine br_intro (fun _ => ?_) (fun _ => ?_)) <;> conv => whnf
    | (with_reducible refine and_rfl ?_); conv => whnf
    | (refine and_late (fun _ => ?_) (by first | omega | (show _ = _; rfl) | exact trivial | exact ⟨rfl, trivial⟩ | exact ⟨rfl, rfl, trivial⟩ | exact (fun h => by cases h) | exact (fun _ => ⟨rfl, rfl⟩) | exact Nat.le_of_ble_eq_true rfl | (simp only [List.length_map, List.length_append, pbytes, Nat.mul_one, List.length_cons, List.length_nil]; done) | (simp only [List.length_map, List.length_append, pbytes, Nat.mul_one, List.length_cons, List.length_nil]; omega))); conv => whnf
    | (with_reducible refine and_late (fun _ => ?_) ?_); conv => whnf
    | (with_reducible refine vcall_id ?_)
      first
      | (refine vcall_inl rfl rfl rfl rfl (Nat.le_of_ble_eq_true rfl) ?_)
    | (with_reducible refine Both.mk ?_ ?_) <;> conv => whnf
    | (refine ⟨[], _, _, rfl, ?_⟩); conv => whnf
    | (refine ⟨_, rfl, ?_⟩); conv => whnf
    | (refine ⟨_, unbytes_pbytes _, ?_⟩); conv => whnf
    | exact ⟨_, _, rfl, rfl⟩
    | exact rensG_pu _ _ _ _
    | rfl
    | (rw [snap_own rfl (show (pbytes _).length = _ * 1 from by rw [pbytes_length, Nat.mul_one])]); conv => whnf
    | fail
theorem con_strings_Contains : Contract Try.prog id_strings_Contains (RelP (fun (s : ByteArray) => (47 : Int) ∉ bytesOf s) (fun s => [str s, str ⟨#[47]⟩]) fun _ => bl false) := by
  refine (code_strings_Contains).pure (Known.cons con_strings_Index Known.nil) (by rintro x -; first | exact Nat.le_of_ble_eq_true rfl | (obtain ⟨_, _⟩ := x; exact Nat.le_of_ble_eq_true rfl) | (obtain ⟨_, _, _⟩ := x; exact Nat.le_of_ble_eq_true rfl) | (obtain ⟨_, _, _, _⟩ := x; exact Nat.le_of_ble_eq_true rfl) | (obtain ⟨_, _, _, _, _⟩ := x; exact Nat.le_of_ble_eq_true rfl) | (obtain ⟨_, _, _, _, _, _⟩ := x; exact Nat.le_of_ble_eq_true rfl) | (obtain ⟨_, _, _, _, _, _, _⟩ := x; exact Nat.le_of_ble_eq_true rfl) | (obtain ⟨_, _, _, _, _, _, _, _⟩ := x; exact Nat.le_of_ble_eq_true rfl)) ?_
  rintro s hs
  repeat' first
    | (with_reducible refine bo_run ?_); conv => whnf
    | (with_reducible refine bw_run ?_); conv => whnf
    | (with_reducible refine bd_run ?_); conv => whnf
    | (with_reducible refine Br.tt ?_); conv => whnf
    | (with_reducible refine Br.ff ?_); conv => whnf
    | (with_reducible refine br_not ?_)
    | (with_reducible refine br_dec_tt (by assumption) ?_); conv => whnf
    | (with_reducible refine br_dec_ff (by assumption) ?_); conv => whnf
    | (with_reducible refine br_dec_tt (by decide) ?_); conv => whnf
    | (with_reducible refine br_dec_ff (by decide) ?_); conv => whnf
    | (with_reducible refine br_dec_intro (fun _ => ?_) (fun _ => ?_)) <;> conv => whnf
    | (with_reducible refine br_beq_tt (by assumption) ?_); conv => whnf
    | (with_reducible refine br_beq_ff (by assumption) ?_); conv => whnf
    | (with_reducible refine br_beq_tt (by decide) ?_); conv => whnf
    | (with_reducible refine br_beq_ff (by decide) ?_); conv => whnf
    | (with_reducible refine br_beq_intro (fun _ => ?_) (fun _ => ?_)) <;> conv => whnf
    | (with_reducible refine br_bne_tt (by assumption) ?_); conv => whnf
    | (with_reducible refine br_bne_ff (by assumption) ?_); conv => whnf
    | (with_reducible refine br_bne_tt (by decide) ?_); conv => whnf
    | (with_reducible refine br_bne_ff (by decide) ?_); conv => whnf
    | (with_reducible refine br_bne_intro (fun _ => ?_) (fun _ => ?_)) <;> conv => whnf
    | (with_reducible refine br_of_true (by assumption) ?_); conv => whnf
    | (with_reducible refine br_of_false (by assumption) ?_); conv => whnf
    | (with_reducible refine br_intro (fun _ => ?_) (fun _ => ?_)) <;> conv => whnf
    | (with_reducible refine and_rfl ?_); conv => whnf
    | (refine and_late (fun _ => ?_) (by first | omega | (show _ = _; rfl) | exact trivial | exact ⟨rfl, trivial⟩ | exact ⟨rfl, rfl, trivial⟩ | exact (fun h => by cases h) | exact (fun _ => ⟨rfl, rfl⟩) | exact Nat.le_of_ble_eq_true rfl | (simp only [List.length_map, List.length_append, pbytes, Nat.mul_one, List.length_cons, List.length_nil]; done) | (simp only [List.length_map, List.length_append, pbytes, Nat.mul_one, List.length_cons, List.length_nil]; omega))); conv => whnf
    | (with_reducible refine and_late (fun _ => ?_) ?_); conv => whnf
    | (with_reducible refine vcall_id ?_)
      first
      | (refine vcall_inl rfl rfl rfl rfl (Nat.le_of_ble_eq_true rfl) ?_)
    | (with_reducible refine Both.mk ?_ ?_) <;> conv => whnf
    | (refine ⟨[], _, _, rfl, ?_⟩); conv => whnf
    | (refine ⟨_, rfl, ?_⟩); conv => whnf
    | (refine ⟨_, unbytes_pbytes _, ?_⟩); conv => whnf
    | exact ⟨_, _, rfl, rfl⟩
    | exact rensG_pu _ _ _ _
    | rfl
    | (rw [snap_own rfl (show (pbytes _).length = _ * 1 from by rw [pbytes_length, Nat.mul_one])]); conv => whnf
    | fail
  refine call_rel (x := s) rfl hs rfl (.inl rfl) ?_
  conv => whnf
  repeat' first
    | (with_reducible refine bo_run ?_); conv => whnf
    | (with_reducible refine bw_run ?_); conv => whnf
    | (with_reducible refine bd_run ?_); conv => whnf
    | (with_reducible refine Br.tt ?_); conv => whnf
    | (with_reducible refine Br.ff ?_); conv => whnf
    | (with_reducible refine br_not ?_)
    | (with_reducible refine br_dec_tt (by assumption) ?_); conv => whnf
    | (with_reducible refine br_dec_ff (by assumption) ?_); conv => whnf
    | (with_reducible refine br_dec_tt (by decide) ?_); conv => whnf
    | (with_reducible refine br_dec_ff (by decide) ?_); conv => whnf
    | (with_reducible refine br_dec_intro (fun _ => ?_) (fun _ => ?_)) <;> conv => whnf
    | (with_reducible refine br_beq_tt (by assumption) ?_); conv => whnf
    | (with_reducible refine br_beq_ff (by assumption) ?_); conv => whnf
    | (with_reducible refine br_beq_tt (by decide) ?_); conv => whnf
    | (with_reducible refine br_beq_ff (by decide) ?_); conv => whnf
    | (with_reducible refine br_beq_intro (fun _ => ?_) (fun _ => ?_)) <;> conv => whnf
    | (with_reducible refine br_bne_tt (by assumption) ?_); conv => whnf
    | (with_reducible refine br_bne_ff (by assumption) ?_); conv => whnf
    | (with_reducible refine br_bne_tt (by decide) ?_); conv => whnf
    | (with_reducible refine br_bne_ff (by decide) ?_); conv => whnf
    | (with_reducible refine br_bne_intro (fun _ => ?_) (fun _ => ?_)) <;> conv => whnf
    | (with_reducible refine br_of_true (by assumption) ?_); conv => whnf
    | (with_reducible refine br_of_false (by assumption) ?_); conv => whnf
    | (with_reducible refine br_intro (fun _ => ?_) (fun _ => ?_)) <;> conv => whnf
    | (with_reducible refine and_rfl ?_); conv => whnf
    | (refine and_late (fun _ => ?_) (by first | omega | (show _ = _; rfl) | exact trivial | exact ⟨rfl, trivial⟩ | exact ⟨rfl, rfl, trivial⟩ | exact (fun h => by cases h) | exact (fun _ => ⟨rfl, rfl⟩) | exact Nat.le_of_ble_eq_true rfl | (simp only [List.length_map, List.length_append, pbytes, Nat.mul_one, List.length_cons, List.length_nil]; done) | (simp only [List.length_map, List.length_append, pbytes, Nat.mul_one, List.length_cons, List.length_nil]; omega))); conv => whnf
    | (with_reducible refine and_late (fun _ => ?_) ?_); conv => whnf
    | (with_reducible refine vcall_id ?_)
      first
      | (refine vcall_inl rfl rfl rfl rfl (Nat.le_of_ble_eq_true rfl) ?_)
    | (with_reducible refine Both.mk ?_ ?_) <;> conv => whnf
    | (refine ⟨[], _, _, rfl, ?_⟩); conv => whnf
    | (refine ⟨_, rfl, ?_⟩); conv => whnf
    | (refine ⟨_, unbytes_pbytes _, ?_⟩); conv => whnf
    | exact ⟨_, _, rfl, rfl⟩
    | exact rensG_pu _ _ _ _
    | rfl
    | (rw [snap_own rfl (show (pbytes _).length = _ * 1 from by rw [pbytes_length, Nat.mul_one])]); conv => whnf
    | fail
  all_goals rfl
/-! ### the law -/
theorem row_extract (s : ByteArray) : (row s).extract 2 (row s).size = s := by
  apply bytesOf_inj
  rw [bytesOf_extract, List.take_of_length_le (by rw [bytesOf_length]; exact Nat.le_refl _)]
  unfold row
  rw [bytesOf_append]
  rfl
theorem row_size (s : ByteArray) : (row s).size = 2 + s.size := by
  unfold row
  rw [ByteArray.size_append]
  rfl
theorem row_hasP (s : ByteArray) : hasP (row s) ⟨#[119, 47]⟩ = true := by
  simp only [hasP, size_w, Bool.and_eq_true, decide_eq_true_eq]
  refine ⟨by rw [row_size]; omega, ?_⟩
  rw [strEq_bytes, decide_eq_true_eq, bytesOf_extract]
  unfold row
  rw [bytesOf_append]
  rfl
theorem rowOf_row {s : ByteArray} (h : name s = true) : rowOf (row s) = .tup [.val (.string s), .val (.bool true)] := by
  unfold rowOf
  rw [row_hasP, row_extract, h]
  rfl
theorem rowOf_branch (s : ByteArray) (n : Nat) : rowOf (branch s n) = .tup [.val (.string ⟨#[]⟩), .val (.bool false)] := by
  unfold rowOf
  have : hasP (branch s n) ⟨#[119, 47]⟩ = false := by
    simp only [hasP, size_w]
    rw [Bool.and_eq_false_iff]
    right
    rw [← Bool.not_eq_true, strEq_bytes, decide_eq_true_eq, bytesOf_extract, bytesOf_branch]
    intro h
    have := congrArg List.head? h
    simp [bytesOf] at this
  rw [this]
  rfl
theorem brOf_row (s : ByteArray) : brOf (row s) = .tup [.val (.string ⟨#[]⟩), .val (.int .i64 0), .val (.bool false)] := by
  apply brOf_no
  intro a n h
  have h1 := h.1
  have h2 := congrArg bytesOf h1
  rw [bytesOf_branch] at h2
  unfold row at h2
  rw [bytesOf_append] at h2
  have := congrArg List.head? h2
  simp [bytesOf] at this
theorem name_size {s : ByteArray} (h : name s = true) : s.size ≤ 24 := by
  unfold name at h
  simp only [Bool.and_eq_true, decide_eq_true_eq] at h
  exact h.1.1.2
theorem con_law04_NamesBack : Contract Try.prog id_law04_NamesBack (RelP (fun ((s, n) : ByteArray × Int) => s.size ≤ 140737488355328) (fun (s, n) => [str s, i64 n]) fun _ => bl true) := by
  refine (code_law04_NamesBack).pure (Known.cons con_names_Name (Known.cons con_law04_awake (Known.cons con_names_Row (Known.cons con_names_Branch (Known.cons con_names_ParseRow (Known.cons con_names_ParseBranch (Known.cons con_strings_Contains Known.nil))))))) (by rintro x -; first | exact Nat.le_of_ble_eq_true rfl | (obtain ⟨_, _⟩ := x; exact Nat.le_of_ble_eq_true rfl) | (obtain ⟨_, _, _⟩ := x; exact Nat.le_of_ble_eq_true rfl) | (obtain ⟨_, _, _, _⟩ := x; exact Nat.le_of_ble_eq_true rfl) | (obtain ⟨_, _, _, _, _⟩ := x; exact Nat.le_of_ble_eq_true rfl) | (obtain ⟨_, _, _, _, _, _⟩ := x; exact Nat.le_of_ble_eq_true rfl) | (obtain ⟨_, _, _, _, _, _, _⟩ := x; exact Nat.le_of_ble_eq_true rfl) | (obtain ⟨_, _, _, _, _, _, _, _⟩ := x; exact Nat.le_of_ble_eq_true rfl)) ?_
  rintro ⟨s, n⟩ hs
  simp only at hs
  obtain ⟨m, hm, hm1, hm2⟩ : ∃ m : Nat, IntKind.i64.wrap (1 + IntKind.i64.wrap ((IntKind.u64.wrap n).tmod 10)) = (m : Int) ∧ 1 ≤ m ∧ m ≤ 10 := by
    obtain ⟨u, hu⟩ : ∃ u : Nat, IntKind.u64.wrap n = u := by
      refine ⟨(IntKind.u64.wrap n).toNat, ?_⟩
      have : 0 ≤ IntKind.u64.wrap n := by simp only [IntKind.wrap, IntKind.signed, IntKind.bits]; simp; omega
      omega
    refine ⟨1 + u % 10, ?_, by omega, by omega⟩
    rw [hu, show ((u : Int)).tmod 10 = ((u % 10 : Nat) : Int) from rfl, i64_in ((u % 10 : Nat) : Int) (by omega), i64_in _ (by omega)]
    omega
  dsimp only
  repeat' first
    | (with_reducible refine bo_run ?_); conv => whnf
    | (with_reducible refine bw_run ?_); conv => whnf
    | (with_reducible refine bd_run ?_); conv => whnf
    | (with_reducible refine Br.tt ?_); conv => whnf
    | (with_reducible refine Br.ff ?_); conv => whnf
    | (with_reducible refine br_not ?_)
    | (with_reducible refine br_dec_tt (by assumption) ?_); conv => whnf
    | (with_reducible refine br_dec_ff (by assumption) ?_); conv => whnf
    | (with_reducible refine br_dec_tt (by decide) ?_); conv => whnf
    | (with_reducible refine br_dec_ff (by decide) ?_); conv => whnf
    | (with_reducible refine br_dec_intro (fun _ => ?_) (fun _ => ?_)) <;> conv => whnf
    | (with_reducible refine br_beq_tt (by assumption) ?_); conv => whnf
    | (with_reducible refine br_beq_ff (by assumption) ?_); conv => whnf
    | (with_reducible refine br_beq_tt (by decide) ?_); conv => whnf
    | (with_reducible refine br_beq_ff (by decide) ?_); conv => whnf
    | (with_reducible refine br_beq_intro (fun _ => ?_) (fun _ => ?_)) <;> conv => whnf
    | (with_reducible refine br_bne_tt (by assumption) ?_); conv => whnf
    | (with_reducible refine br_bne_ff (by assumption) ?_); conv => whnf
    | (with_reducible refine br_bne_tt (by decide) ?_); conv => whnf
    | (with_reducible refine br_bne_ff (by decide) ?_); conv => whnf
    | (with_reducible refine br_bne_intro (fun _ => ?_) (fun _ => ?_)) <;> conv => whnf
    | (with_reducible refine br_of_true (by assumption) ?_); conv => whnf
    | (with_reducible refine br_of_false (by assumption) ?_); conv => whnf
    | (with_reducible refine br_intro (fun _ => ?_) (fun _ => ?_)) <;> conv => whnf
    | (with_reducible refine and_rfl ?_); conv => whnf
    | (refine and_late (fun _ => ?_) (by first | omega | (show _ = _; rfl) | exact trivial | exact ⟨rfl, trivial⟩ | exact ⟨rfl, rfl, trivial⟩ | exact (fun h => by cases h) | exact (fun _ => ⟨rfl, rfl⟩) | exact Nat.le_of_ble_eq_true rfl | (simp only [List.length_map, List.length_append, pbytes, Nat.mul_one, List.length_cons, List.length_nil]; done) | (simp only [List.length_map, List.length_append, pbytes, Nat.mul_one, List.length_cons, List.length_nil]; omega))); conv => whnf
    | (with_reducible refine and_late (fun _ => ?_) ?_); conv => whnf
    | (with_reducible refine vcall_id ?_)
      first
      | (refine vcall_inl rfl rfl rfl rfl (Nat.le_of_ble_eq_true rfl) ?_)
    | (with_reducible refine Both.mk ?_ ?_) <;> conv => whnf
    | (refine ⟨[], _, _, rfl, ?_⟩); conv => whnf
    | (refine ⟨_, rfl, ?_⟩); conv => whnf
    | (refine ⟨_, unbytes_pbytes _, ?_⟩); conv => whnf
    | exact ⟨_, _, rfl, rfl⟩
    | exact rensG_pu _ _ _ _
    | rfl
    | (rw [snap_own rfl (show (pbytes _).length = _ * 1 from by rw [pbytes_length, Nat.mul_one])]); conv => whnf
    | fail
  refine call_pure (p := .val (.bool (name s))) rfl rfl (.inl rfl) ?_
  conv => whnf
  repeat' first
    | (with_reducible refine bo_run ?_); conv => whnf
    | (with_reducible refine bw_run ?_); conv => whnf
    | (with_reducible refine bd_run ?_); conv => whnf
    | (with_reducible refine Br.tt ?_); conv => whnf
    | (with_reducible refine Br.ff ?_); conv => whnf
    | (with_reducible refine br_not ?_)
    | (with_reducible refine br_dec_tt (by assumption) ?_); conv => whnf
    | (with_reducible refine br_dec_ff (by assumption) ?_); conv => whnf
    | (with_reducible refine br_dec_tt (by decide) ?_); conv => whnf
    | (with_reducible refine br_dec_ff (by decide) ?_); conv => whnf
    | (with_reducible refine br_dec_intro (fun _ => ?_) (fun _ => ?_)) <;> conv => whnf
    | (with_reducible refine br_beq_tt (by assumption) ?_); conv => whnf
    | (with_reducible refine br_beq_ff (by assumption) ?_); conv => whnf
    | (with_reducible refine br_beq_tt (by decide) ?_); conv => whnf
    | (with_reducible refine br_beq_ff (by decide) ?_); conv => whnf
    | (with_reducible refine br_beq_intro (fun _ => ?_) (fun _ => ?_)) <;> conv => whnf
    | (with_reducible refine br_bne_tt (by assumption) ?_); conv => whnf
    | (with_reducible refine br_bne_ff (by assumption) ?_); conv => whnf
    | (with_reducible refine br_bne_tt (by decide) ?_); conv => whnf
    | (with_reducible refine br_bne_ff (by decide) ?_); conv => whnf
    | (with_reducible refine br_bne_intro (fun _ => ?_) (fun _ => ?_)) <;> conv => whnf
    | (with_reducible refine br_of_true (by assumption) ?_); conv => whnf
    | (with_reducible refine br_of_false (by assumption) ?_); conv => whnf
    | (with_reducible refine br_intro (fun _ => ?_) (fun _ => ?_)) <;> conv => whnf
    | (with_reducible refine and_rfl ?_); conv => whnf
    | (refine and_late (fun _ => ?_) (by first | omega | (show _ = _; rfl) | exact trivial | exact ⟨rfl, trivial⟩ | exact ⟨rfl, rfl, trivial⟩ | exact (fun h => by cases h) | exact (fun _ => ⟨rfl, rfl⟩) | exact Nat.le_of_ble_eq_true rfl | (simp only [List.length_map, List.length_append, pbytes, Nat.mul_one, List.length_cons, List.length_nil]; done) | (simp only [List.length_map, List.length_append, pbytes, Nat.mul_one, List.length_cons, List.length_nil]; omega))); conv => whnf
    | (with_reducible refine and_late (fun _ => ?_) ?_); conv => whnf
    | (with_reducible refine vcall_id ?_)
      first
      | (refine vcall_inl rfl rfl rfl rfl (Nat.le_of_ble_eq_true rfl) ?_)
    | (with_reducible refine Both.mk ?_ ?_) <;> conv => whnf
    | (refine ⟨[], _, _, rfl, ?_⟩); conv => whnf
    | (refine ⟨_, rfl, ?_⟩); conv => whnf
    | (refine ⟨_, unbytes_pbytes _, ?_⟩); conv => whnf
    | exact ⟨_, _, rfl, rfl⟩
    | exact rensG_pu _ _ _ _
    | rfl
    | (rw [snap_own rfl (show (pbytes _).length = _ * 1 from by rw [pbytes_length, Nat.mul_one])]); conv => whnf
    | fail
  · rename_i hn
    have hz := name_size hn
    have e1 : (if s.size ≤ 140737488355328 ∧ (m : Int) ≤ 9223372036854775807 then some (PV.val (.string (branch s (m : Int).toNat))) else none) = some (.val (.string (branch s m))) := by
      rw [if_pos ⟨hs, by omega⟩, Int.toNat_natCast]
    have fr : F20 [.val (.string s)] = some (.val (.string (row s))) := by unfold F20; simp only; rw [if_pos hs]
    have fb : F22 [.val (.string s), .val (.int .i64 (m : Int))] = some (.val (.string (branch s m))) := by unfold F22; exact e1
    have hd := dec_size m (by omega)
    have hbz : (branch s m).size ≤ 64 := by
      have := congrArg List.length (bytesOf_branch s m)
      rw [bytesOf_length] at this
      have h2 : (dec m).length ≤ 19 := by rw [← strOf_size]; exact hd
      simp [bytesOf_length] at this
      omega
    have hrz : (row s).size ≤ 64 := by rw [row_size]; omega
    have p1 : F44 [.val (.string (row s))] = some (.tup [.val (.string s), .val (.bool true)]) := by rw [← rowOf_row hn]; rfl
    have p2 : F46 [.val (.string (branch s m))] = some (.tup [.val (.string s), .val (.int .i64 m), .val (.bool true)]) := by rw [F46_eq (by omega), brOf_yes ⟨rfl, hn, hm1, hm2⟩]
    have p3 : F44 [.val (.string (branch s m))] = some (.tup [.val (.string ⟨#[]⟩), .val (.bool false)]) := by rw [← rowOf_branch s m]; rfl
    have p4 : F46 [.val (.string (row s))] = some (.tup [.val (.string ⟨#[]⟩), .val (.int .i64 0), .val (.bool false)]) := by rw [F46_eq (by omega), brOf_row]
    have q1 : strEq s s = true := strEq_self s
    have q2 : (m : Int) = m := rfl
    have q3 : ((row s).size : Int) ≤ 64 := by omega
    have q4 : ((branch s m).size : Int) ≤ 64 := by omega
    refine call_pure rfl fr (.inl rfl) ?_
    conv => whnf
    repeat' first
      | (with_reducible refine bo_run ?_); conv => whnf
      | (with_reducible refine bw_run ?_); conv => whnf
      | (with_reducible refine bd_run ?_); conv => whnf
      | (with_reducible refine Br.tt ?_); conv => whnf
      | (with_reducible refine Br.ff ?_); conv => whnf
      | (with_reducible refine br_not ?_)
      | (with_reducible refine br_dec_tt (by assumption) ?_); conv => whnf
      | (with_reducible refine br_dec_ff (by assumption) ?_); conv => whnf
      | (with_reducible refine br_dec_tt (by decide) ?_); conv => whnf
      | (with_reducible refine br_dec_ff (by decide) ?_); conv => whnf
      | (with_reducible refine br_dec_intro (fun _ => ?_) (fun _ => ?_)) <;> conv => whnf
      | (with_reducible refine br_beq_tt (by assumption) ?_); conv => whnf
      | (with_reducible refine br_beq_ff (by assumption) ?_); conv => whnf
      | (with_reducible refine br_beq_tt (by decide) ?_); conv => whnf
      | (with_reducible refine br_beq_ff (by decide) ?_); conv => whnf
      | (with_reducible refine br_beq_intro (fun _ => ?_) (fun _ => ?_)) <;> conv => whnf
      | (with_reducible refine br_bne_tt (by assumption) ?_); conv => whnf
      | (with_reducible refine br_bne_ff (by assumption) ?_); conv => whnf
      | (with_reducible refine br_bne_tt (by decide) ?_); conv => whnf
      | (with_reducible refine br_bne_ff (by decide) ?_); conv => whnf
      | (with_reducible refine br_bne_intro (fun _ => ?_) (fun _ => ?_)) <;> conv => whnf
      | (with_reducible refine br_of_true (by assumption) ?_); conv => whnf
      | (with_reducible refine br_of_false (by assumption) ?_); conv => whnf
      | (with_reducible refine br_intro (fun _ => ?_) (fun _ => ?_)) <;> conv => whnf
      | (with_reducible refine and_rfl ?_); conv => whnf
      | (refine and_late (fun _ => ?_) (by first | omega | (show _ = _; rfl) | exact trivial | exact ⟨rfl, trivial⟩ | exact ⟨rfl, rfl, trivial⟩ | exact (fun h => by cases h) | exact (fun _ => ⟨rfl, rfl⟩) | exact Nat.le_of_ble_eq_true rfl | (simp only [List.length_map, List.length_append, pbytes, Nat.mul_one, List.length_cons, List.length_nil]; done) | (simp only [List.length_map, List.length_append, pbytes, Nat.mul_one, List.length_cons, List.length_nil]; omega))); conv => whnf
      | (with_reducible refine and_late (fun _ => ?_) ?_); conv => whnf
      | (with_reducible refine vcall_id ?_)
        first
        | (refine vcall_inl rfl rfl rfl rfl (Nat.le_of_ble_eq_true rfl) ?_)
      | (with_reducible refine Both.mk ?_ ?_) <;> conv => whnf
      | (refine ⟨[], _, _, rfl, ?_⟩); conv => whnf
      | (refine ⟨_, rfl, ?_⟩); conv => whnf
      | (refine ⟨_, unbytes_pbytes _, ?_⟩); conv => whnf
      | exact ⟨_, _, rfl, rfl⟩
      | exact rensG_pu _ _ _ _
      | rfl
      | (rw [snap_own rfl (show (pbytes _).length = _ * 1 from by rw [pbytes_length, Nat.mul_one])]); conv => whnf
      | fail
    rw [hm]
    refine call_pure rfl fb (.inl rfl) ?_
    conv => whnf
    repeat' first
      | (with_reducible refine bo_run ?_); conv => whnf
      | (with_reducible refine bw_run ?_); conv => whnf
      | (with_reducible refine bd_run ?_); conv => whnf
      | (with_reducible refine Br.tt ?_); conv => whnf
      | (with_reducible refine Br.ff ?_); conv => whnf
      | (with_reducible refine br_not ?_)
      | (with_reducible refine br_dec_tt (by assumption) ?_); conv => whnf
      | (with_reducible refine br_dec_ff (by assumption) ?_); conv => whnf
      | (with_reducible refine br_dec_tt (by decide) ?_); conv => whnf
      | (with_reducible refine br_dec_ff (by decide) ?_); conv => whnf
      | (with_reducible refine br_dec_intro (fun _ => ?_) (fun _ => ?_)) <;> conv => whnf
      | (with_reducible refine br_beq_tt (by assumption) ?_); conv => whnf
      | (with_reducible refine br_beq_ff (by assumption) ?_); conv => whnf
      | (with_reducible refine br_beq_tt (by decide) ?_); conv => whnf
      | (with_reducible refine br_beq_ff (by decide) ?_); conv => whnf
      | (with_reducible refine br_beq_intro (fun _ => ?_) (fun _ => ?_)) <;> conv => whnf
      | (with_reducible refine br_bne_tt (by assumption) ?_); conv => whnf
      | (with_reducible refine br_bne_ff (by assumption) ?_); conv => whnf
      | (with_reducible refine br_bne_tt (by decide) ?_); conv => whnf
      | (with_reducible refine br_bne_ff (by decide) ?_); conv => whnf
      | (with_reducible refine br_bne_intro (fun _ => ?_) (fun _ => ?_)) <;> conv => whnf
      | (with_reducible refine br_of_true (by assumption) ?_); conv => whnf
      | (with_reducible refine br_of_false (by assumption) ?_); conv => whnf
      | (with_reducible refine br_intro (fun _ => ?_) (fun _ => ?_)) <;> conv => whnf
      | (with_reducible refine and_rfl ?_); conv => whnf
      | (refine and_late (fun _ => ?_) (by first | omega | (show _ = _; rfl) | exact trivial | exact ⟨rfl, trivial⟩ | exact ⟨rfl, rfl, trivial⟩ | exact (fun h => by cases h) | exact (fun _ => ⟨rfl, rfl⟩) | exact Nat.le_of_ble_eq_true rfl | (simp only [List.length_map, List.length_append, pbytes, Nat.mul_one, List.length_cons, List.length_nil]; done) | (simp only [List.length_map, List.length_append, pbytes, Nat.mul_one, List.length_cons, List.length_nil]; omega))); conv => whnf
      | (with_reducible refine and_late (fun _ => ?_) ?_); conv => whnf
      | (with_reducible refine vcall_id ?_)
        first
        | (refine vcall_inl rfl rfl rfl rfl (Nat.le_of_ble_eq_true rfl) ?_)
      | (with_reducible refine Both.mk ?_ ?_) <;> conv => whnf
      | (refine ⟨[], _, _, rfl, ?_⟩); conv => whnf
      | (refine ⟨_, rfl, ?_⟩); conv => whnf
      | (refine ⟨_, unbytes_pbytes _, ?_⟩); conv => whnf
      | exact ⟨_, _, rfl, rfl⟩
      | exact rensG_pu _ _ _ _
      | rfl
      | (rw [snap_own rfl (show (pbytes _).length = _ * 1 from by rw [pbytes_length, Nat.mul_one])]); conv => whnf
      | fail
    refine call_pure rfl p1 (.inl rfl) ?_
    conv => whnf
    repeat' first
      | (with_reducible refine bo_run ?_); conv => whnf
      | (with_reducible refine bw_run ?_); conv => whnf
      | (with_reducible refine bd_run ?_); conv => whnf
      | (with_reducible refine Br.tt ?_); conv => whnf
      | (with_reducible refine Br.ff ?_); conv => whnf
      | (with_reducible refine br_not ?_)
      | (with_reducible refine br_dec_tt (by assumption) ?_); conv => whnf
      | (with_reducible refine br_dec_ff (by assumption) ?_); conv => whnf
      | (with_reducible refine br_dec_tt (by decide) ?_); conv => whnf
      | (with_reducible refine br_dec_ff (by decide) ?_); conv => whnf
      | (with_reducible refine br_dec_intro (fun _ => ?_) (fun _ => ?_)) <;> conv => whnf
      | (with_reducible refine br_beq_tt (by assumption) ?_); conv => whnf
      | (with_reducible refine br_beq_ff (by assumption) ?_); conv => whnf
      | (with_reducible refine br_beq_tt (by decide) ?_); conv => whnf
      | (with_reducible refine br_beq_ff (by decide) ?_); conv => whnf
      | (with_reducible refine br_beq_intro (fun _ => ?_) (fun _ => ?_)) <;> conv => whnf
      | (with_reducible refine br_bne_tt (by assumption) ?_); conv => whnf
      | (with_reducible refine br_bne_ff (by assumption) ?_); conv => whnf
      | (with_reducible refine br_bne_tt (by decide) ?_); conv => whnf
      | (with_reducible refine br_bne_ff (by decide) ?_); conv => whnf
      | (with_reducible refine br_bne_intro (fun _ => ?_) (fun _ => ?_)) <;> conv => whnf
      | (with_reducible refine br_of_true (by assumption) ?_); conv => whnf
      | (with_reducible refine br_of_false (by assumption) ?_); conv => whnf
      | (with_reducible refine br_intro (fun _ => ?_) (fun _ => ?_)) <;> conv => whnf
      | (with_reducible refine and_rfl ?_); conv => whnf
      | (refine and_late (fun _ => ?_) (by first | omega | (show _ = _; rfl) | exact trivial | exact ⟨rfl, trivial⟩ | exact ⟨rfl, rfl, trivial⟩ | exact (fun h => by cases h) | exact (fun _ => ⟨rfl, rfl⟩) | exact Nat.le_of_ble_eq_true rfl | (simp only [List.length_map, List.length_append, pbytes, Nat.mul_one, List.length_cons, List.length_nil]; done) | (simp only [List.length_map, List.length_append, pbytes, Nat.mul_one, List.length_cons, List.length_nil]; omega))); conv => whnf
      | (with_reducible refine and_late (fun _ => ?_) ?_); conv => whnf
      | (with_reducible refine vcall_id ?_)
        first
        | (refine vcall_inl rfl rfl rfl rfl (Nat.le_of_ble_eq_true rfl) ?_)
      | (with_reducible refine Both.mk ?_ ?_) <;> conv => whnf
      | (refine ⟨[], _, _, rfl, ?_⟩); conv => whnf
      | (refine ⟨_, rfl, ?_⟩); conv => whnf
      | (refine ⟨_, unbytes_pbytes _, ?_⟩); conv => whnf
      | exact ⟨_, _, rfl, rfl⟩
      | exact rensG_pu _ _ _ _
      | rfl
      | (rw [snap_own rfl (show (pbytes _).length = _ * 1 from by rw [pbytes_length, Nat.mul_one])]); conv => whnf
      | fail
    refine call_pure rfl p2 (.inl rfl) ?_
    conv => whnf
    repeat' first
      | (with_reducible refine bo_run ?_); conv => whnf
      | (with_reducible refine bw_run ?_); conv => whnf
      | (with_reducible refine bd_run ?_); conv => whnf
      | (with_reducible refine Br.tt ?_); conv => whnf
      | (with_reducible refine Br.ff ?_); conv => whnf
      | (with_reducible refine br_not ?_)
      | (with_reducible refine br_dec_tt (by assumption) ?_); conv => whnf
      | (with_reducible refine br_dec_ff (by assumption) ?_); conv => whnf
      | (with_reducible refine br_dec_tt (by decide) ?_); conv => whnf
      | (with_reducible refine br_dec_ff (by decide) ?_); conv => whnf
      | (with_reducible refine br_dec_intro (fun _ => ?_) (fun _ => ?_)) <;> conv => whnf
      | (with_reducible refine br_beq_tt (by assumption) ?_); conv => whnf
      | (with_reducible refine br_beq_ff (by assumption) ?_); conv => whnf
      | (with_reducible refine br_beq_tt (by decide) ?_); conv => whnf
      | (with_reducible refine br_beq_ff (by decide) ?_); conv => whnf
      | (with_reducible refine br_beq_intro (fun _ => ?_) (fun _ => ?_)) <;> conv => whnf
      | (with_reducible refine br_bne_tt (by assumption) ?_); conv => whnf
      | (with_reducible refine br_bne_ff (by assumption) ?_); conv => whnf
      | (with_reducible refine br_bne_tt (by decide) ?_); conv => whnf
      | (with_reducible refine br_bne_ff (by decide) ?_); conv => whnf
      | (with_reducible refine br_bne_intro (fun _ => ?_) (fun _ => ?_)) <;> conv => whnf
      | (with_reducible refine br_of_true (by assumption) ?_); conv => whnf
      | (with_reducible refine br_of_false (by assumption) ?_); conv => whnf
      | (with_reducible refine br_intro (fun _ => ?_) (fun _ => ?_)) <;> conv => whnf
      | (with_reducible refine and_rfl ?_); conv => whnf
      | (refine and_late (fun _ => ?_) (by first | omega | (show _ = _; rfl) | exact trivial | exact ⟨rfl, trivial⟩ | exact ⟨rfl, rfl, trivial⟩ | exact (fun h => by cases h) | exact (fun _ => ⟨rfl, rfl⟩) | exact Nat.le_of_ble_eq_true rfl | (simp only [List.length_map, List.length_append, pbytes, Nat.mul_one, List.length_cons, List.length_nil]; done) | (simp only [List.length_map, List.length_append, pbytes, Nat.mul_one, List.length_cons, List.length_nil]; omega))); conv => whnf
      | (with_reducible refine and_late (fun _ => ?_) ?_); conv => whnf
      | (with_reducible refine vcall_id ?_)
        first
        | (refine vcall_inl rfl rfl rfl rfl (Nat.le_of_ble_eq_true rfl) ?_)
      | (with_reducible refine Both.mk ?_ ?_) <;> conv => whnf
      | (refine ⟨[], _, _, rfl, ?_⟩); conv => whnf
      | (refine ⟨_, rfl, ?_⟩); conv => whnf
      | (refine ⟨_, unbytes_pbytes _, ?_⟩); conv => whnf
      | exact ⟨_, _, rfl, rfl⟩
      | exact rensG_pu _ _ _ _
      | rfl
      | (rw [snap_own rfl (show (pbytes _).length = _ * 1 from by rw [pbytes_length, Nat.mul_one])]); conv => whnf
      | fail
    refine call_pure rfl p3 (.inl rfl) ?_
    conv => whnf
    repeat' first
      | (with_reducible refine bo_run ?_); conv => whnf
      | (with_reducible refine bw_run ?_); conv => whnf
      | (with_reducible refine bd_run ?_); conv => whnf
      | (with_reducible refine Br.tt ?_); conv => whnf
      | (with_reducible refine Br.ff ?_); conv => whnf
      | (with_reducible refine br_not ?_)
      | (with_reducible refine br_dec_tt (by assumption) ?_); conv => whnf
      | (with_reducible refine br_dec_ff (by assumption) ?_); conv => whnf
      | (with_reducible refine br_dec_tt (by decide) ?_); conv => whnf
      | (with_reducible refine br_dec_ff (by decide) ?_); conv => whnf
      | (with_reducible refine br_dec_intro (fun _ => ?_) (fun _ => ?_)) <;> conv => whnf
      | (with_reducible refine br_beq_tt (by assumption) ?_); conv => whnf
      | (with_reducible refine br_beq_ff (by assumption) ?_); conv => whnf
      | (with_reducible refine br_beq_tt (by decide) ?_); conv => whnf
      | (with_reducible refine br_beq_ff (by decide) ?_); conv => whnf
      | (with_reducible refine br_beq_intro (fun _ => ?_) (fun _ => ?_)) <;> conv => whnf
      | (with_reducible refine br_bne_tt (by assumption) ?_); conv => whnf
      | (with_reducible refine br_bne_ff (by assumption) ?_); conv => whnf
      | (with_reducible refine br_bne_tt (by decide) ?_); conv => whnf
      | (with_reducible refine br_bne_ff (by decide) ?_); conv => whnf
      | (with_reducible refine br_bne_intro (fun _ => ?_) (fun _ => ?_)) <;> conv => whnf
      | (with_reducible refine br_of_true (by assumption) ?_); conv => whnf
      | (with_reducible refine br_of_false (by assumption) ?_); conv => whnf
      | (with_reducible refine br_intro (fun _ => ?_) (fun _ => ?_)) <;> conv => whnf
      | (with_reducible refine and_rfl ?_); conv => whnf
      | (refine and_late (fun _ => ?_) (by first | omega | (show _ = _; rfl) | exact trivial | exact ⟨rfl, trivial⟩ | exact ⟨rfl, rfl, trivial⟩ | exact (fun h => by cases h) | exact (fun _ => ⟨rfl, rfl⟩) | exact Nat.le_of_ble_eq_true rfl | (simp only [List.length_map, List.length_append, pbytes, Nat.mul_one, List.length_cons, List.length_nil]; done) | (simp only [List.length_map, List.length_append, pbytes, Nat.mul_one, List.length_cons, List.length_nil]; omega))); conv => whnf
      | (with_reducible refine and_late (fun _ => ?_) ?_); conv => whnf
      | (with_reducible refine vcall_id ?_)
        first
        | (refine vcall_inl rfl rfl rfl rfl (Nat.le_of_ble_eq_true rfl) ?_)
      | (with_reducible refine Both.mk ?_ ?_) <;> conv => whnf
      | (refine ⟨[], _, _, rfl, ?_⟩); conv => whnf
      | (refine ⟨_, rfl, ?_⟩); conv => whnf
      | (refine ⟨_, unbytes_pbytes _, ?_⟩); conv => whnf
      | exact ⟨_, _, rfl, rfl⟩
      | exact rensG_pu _ _ _ _
      | rfl
      | (rw [snap_own rfl (show (pbytes _).length = _ * 1 from by rw [pbytes_length, Nat.mul_one])]); conv => whnf
      | fail
    refine call_pure rfl p4 (.inl rfl) ?_
    conv => whnf
    repeat' first
      | (with_reducible refine bo_run ?_); conv => whnf
      | (with_reducible refine bw_run ?_); conv => whnf
      | (with_reducible refine bd_run ?_); conv => whnf
      | (with_reducible refine Br.tt ?_); conv => whnf
      | (with_reducible refine Br.ff ?_); conv => whnf
      | (with_reducible refine br_not ?_)
      | (with_reducible refine br_dec_tt (by assumption) ?_); conv => whnf
      | (with_reducible refine br_dec_ff (by assumption) ?_); conv => whnf
      | (with_reducible refine br_dec_tt (by decide) ?_); conv => whnf
      | (with_reducible refine br_dec_ff (by decide) ?_); conv => whnf
      | (with_reducible refine br_dec_intro (fun _ => ?_) (fun _ => ?_)) <;> conv => whnf
      | (with_reducible refine br_beq_tt (by assumption) ?_); conv => whnf
      | (with_reducible refine br_beq_ff (by assumption) ?_); conv => whnf
      | (with_reducible refine br_beq_tt (by decide) ?_); conv => whnf
      | (with_reducible refine br_beq_ff (by decide) ?_); conv => whnf
      | (with_reducible refine br_beq_intro (fun _ => ?_) (fun _ => ?_)) <;> conv => whnf
      | (with_reducible refine br_bne_tt (by assumption) ?_); conv => whnf
      | (with_reducible refine br_bne_ff (by assumption) ?_); conv => whnf
      | (with_reducible refine br_bne_tt (by decide) ?_); conv => whnf
      | (with_reducible refine br_bne_ff (by decide) ?_); conv => whnf
      | (with_reducible refine br_bne_intro (fun _ => ?_) (fun _ => ?_)) <;> conv => whnf
      | (with_reducible refine br_of_true (by assumption) ?_); conv => whnf
      | (with_reducible refine br_of_false (by assumption) ?_); conv => whnf
      | (with_reducible refine br_intro (fun _ => ?_) (fun _ => ?_)) <;> conv => whnf
      | (with_reducible refine and_rfl ?_); conv => whnf
      | (refine and_late (fun _ => ?_) (by first | omega | (show _ = _; rfl) | exact trivial | exact ⟨rfl, trivial⟩ | exact ⟨rfl, rfl, trivial⟩ | exact (fun h => by cases h) | exact (fun _ => ⟨rfl, rfl⟩) | exact Nat.le_of_ble_eq_true rfl | (simp only [List.length_map, List.length_append, pbytes, Nat.mul_one, List.length_cons, List.length_nil]; done) | (simp only [List.length_map, List.length_append, pbytes, Nat.mul_one, List.length_cons, List.length_nil]; omega))); conv => whnf
      | (with_reducible refine and_late (fun _ => ?_) ?_); conv => whnf
      | (with_reducible refine vcall_id ?_)
        first
        | (refine vcall_inl rfl rfl rfl rfl (Nat.le_of_ble_eq_true rfl) ?_)
      | (with_reducible refine Both.mk ?_ ?_) <;> conv => whnf
      | (refine ⟨[], _, _, rfl, ?_⟩); conv => whnf
      | (refine ⟨_, rfl, ?_⟩); conv => whnf
      | (refine ⟨_, unbytes_pbytes _, ?_⟩); conv => whnf
      | exact ⟨_, _, rfl, rfl⟩
      | exact rensG_pu _ _ _ _
      | rfl
      | (rw [snap_own rfl (show (pbytes _).length = _ * 1 from by rw [pbytes_length, Nat.mul_one])]); conv => whnf
      | fail
    refine call_rel (x := s) rfl (name_slash hn) rfl (.inl rfl) ?_
    conv => whnf
    repeat' first
      | (with_reducible refine bo_run ?_); conv => whnf
      | (with_reducible refine bw_run ?_); conv => whnf
      | (with_reducible refine bd_run ?_); conv => whnf
      | (with_reducible refine Br.tt ?_); conv => whnf
      | (with_reducible refine Br.ff ?_); conv => whnf
      | (with_reducible refine br_not ?_)
      | (with_reducible refine br_dec_tt (by assumption) ?_); conv => whnf
      | (with_reducible refine br_dec_ff (by assumption) ?_); conv => whnf
      | (with_reducible refine br_dec_tt (by decide) ?_); conv => whnf
      | (with_reducible refine br_dec_ff (by decide) ?_); conv => whnf
      | (with_reducible refine br_dec_intro (fun _ => ?_) (fun _ => ?_)) <;> conv => whnf
      | (with_reducible refine br_beq_tt (by assumption) ?_); conv => whnf
      | (with_reducible refine br_beq_ff (by assumption) ?_); conv => whnf
      | (with_reducible refine br_beq_tt (by decide) ?_); conv => whnf
      | (with_reducible refine br_beq_ff (by decide) ?_); conv => whnf
      | (with_reducible refine br_beq_intro (fun _ => ?_) (fun _ => ?_)) <;> conv => whnf
      | (with_reducible refine br_bne_tt (by assumption) ?_); conv => whnf
      | (with_reducible refine br_bne_ff (by assumption) ?_); conv => whnf
      | (with_reducible refine br_bne_tt (by decide) ?_); conv => whnf
      | (with_reducible refine br_bne_ff (by decide) ?_); conv => whnf
      | (with_reducible refine br_bne_intro (fun _ => ?_) (fun _ => ?_)) <;> conv => whnf
      | (with_reducible refine br_of_true (by assumption) ?_); conv => whnf
      | (with_reducible refine br_of_false (by assumption) ?_); conv => whnf
      | (with_reducible refine br_intro (fun _ => ?_) (fun _ => ?_)) <;> conv => whnf
      | (with_reducible refine and_rfl ?_); conv => whnf
      | (refine and_late (fun _ => ?_) (by first | omega | (show _ = _; rfl) | exact trivial | exact ⟨rfl, trivial⟩ | exact ⟨rfl, rfl, trivial⟩ | exact (fun h => by cases h) | exact (fun _ => ⟨rfl, rfl⟩) | exact Nat.le_of_ble_eq_true rfl | (simp only [List.length_map, List.length_append, pbytes, Nat.mul_one, List.length_cons, List.length_nil]; done) | (simp only [List.length_map, List.length_append, pbytes, Nat.mul_one, List.length_cons, List.length_nil]; omega))); conv => whnf
      | (with_reducible refine and_late (fun _ => ?_) ?_); conv => whnf
      | (with_reducible refine vcall_id ?_)
        first
        | (refine vcall_inl rfl rfl rfl rfl (Nat.le_of_ble_eq_true rfl) ?_)
      | (with_reducible refine Both.mk ?_ ?_) <;> conv => whnf
      | (refine ⟨[], _, _, rfl, ?_⟩); conv => whnf
      | (refine ⟨_, rfl, ?_⟩); conv => whnf
      | (refine ⟨_, unbytes_pbytes _, ?_⟩); conv => whnf
      | exact ⟨_, _, rfl, rfl⟩
      | exact rensG_pu _ _ _ _
      | rfl
      | (rw [snap_own rfl (show (pbytes _).length = _ * 1 from by rw [pbytes_length, Nat.mul_one])]); conv => whnf
      | fail
    refine call_pure (p := .val (.bool true)) rfl rfl (.inl rfl) ?_
    conv => whnf
    repeat' first
      | (with_reducible refine bo_run ?_); conv => whnf
      | (with_reducible refine bw_run ?_); conv => whnf
      | (with_reducible refine bd_run ?_); conv => whnf
      | (with_reducible refine Br.tt ?_); conv => whnf
      | (with_reducible refine Br.ff ?_); conv => whnf
      | (with_reducible refine br_not ?_)
      | (with_reducible refine br_dec_tt (by assumption) ?_); conv => whnf
      | (with_reducible refine br_dec_ff (by assumption) ?_); conv => whnf
      | (with_reducible refine br_dec_tt (by decide) ?_); conv => whnf
      | (with_reducible refine br_dec_ff (by decide) ?_); conv => whnf
      | (with_reducible refine br_dec_intro (fun _ => ?_) (fun _ => ?_)) <;> conv => whnf
      | (with_reducible refine br_beq_tt (by assumption) ?_); conv => whnf
      | (with_reducible refine br_beq_ff (by assumption) ?_); conv => whnf
      | (with_reducible refine br_beq_tt (by decide) ?_); conv => whnf
      | (with_reducible refine br_beq_ff (by decide) ?_); conv => whnf
      | (with_reducible refine br_beq_intro (fun _ => ?_) (fun _ => ?_)) <;> conv => whnf
      | (with_reducible refine br_bne_tt (by assumption) ?_); conv => whnf
      | (with_reducible refine br_bne_ff (by assumption) ?_); conv => whnf
      | (with_reducible refine br_bne_tt (by decide) ?_); conv => whnf
      | (with_reducible refine br_bne_ff (by decide) ?_); conv => whnf
      | (with_reducible refine br_bne_intro (fun _ => ?_) (fun _ => ?_)) <;> conv => whnf
      | (with_reducible refine br_of_true (by assumption) ?_); conv => whnf
      | (with_reducible refine br_of_false (by assumption) ?_); conv => whnf
      | (with_reducible refine br_intro (fun _ => ?_) (fun _ => ?_)) <;> conv => whnf
      | (with_reducible refine and_rfl ?_); conv => whnf
      | (refine and_late (fun _ => ?_) (by first | omega | (show _ = _; rfl) | exact trivial | exact ⟨rfl, trivial⟩ | exact ⟨rfl, rfl, trivial⟩ | exact (fun h => by cases h) | exact (fun _ => ⟨rfl, rfl⟩) | exact Nat.le_of_ble_eq_true rfl | (simp only [List.length_map, List.length_append, pbytes, Nat.mul_one, List.length_cons, List.length_nil]; done) | (simp only [List.length_map, List.length_append, pbytes, Nat.mul_one, List.length_cons, List.length_nil]; omega))); conv => whnf
      | (with_reducible refine and_late (fun _ => ?_) ?_); conv => whnf
      | (with_reducible refine vcall_id ?_)
        first
        | (refine vcall_inl rfl rfl rfl rfl (Nat.le_of_ble_eq_true rfl) ?_)
      | (with_reducible refine Both.mk ?_ ?_) <;> conv => whnf
      | (refine ⟨[], _, _, rfl, ?_⟩); conv => whnf
      | (refine ⟨_, rfl, ?_⟩); conv => whnf
      | (refine ⟨_, unbytes_pbytes _, ?_⟩); conv => whnf
      | exact ⟨_, _, rfl, rfl⟩
      | exact rensG_pu _ _ _ _
      | rfl
      | (rw [snap_own rfl (show (pbytes _).length = _ * 1 from by rw [pbytes_length, Nat.mul_one])]); conv => whnf
      | fail
  · refine call_pure (p := .val (.bool true)) rfl rfl (.inl rfl) ?_
    conv => whnf
    repeat' first
      | (with_reducible refine bo_run ?_); conv => whnf
      | (with_reducible refine bw_run ?_); conv => whnf
      | (with_reducible refine bd_run ?_); conv => whnf
      | (with_reducible refine Br.tt ?_); conv => whnf
      | (with_reducible refine Br.ff ?_); conv => whnf
      | (with_reducible refine br_not ?_)
      | (with_reducible refine br_dec_tt (by assumption) ?_); conv => whnf
      | (with_reducible refine br_dec_ff (by assumption) ?_); conv => whnf
      | (with_reducible refine br_dec_tt (by decide) ?_); conv => whnf
      | (with_reducible refine br_dec_ff (by decide) ?_); conv => whnf
      | (with_reducible refine br_dec_intro (fun _ => ?_) (fun _ => ?_)) <;> conv => whnf
      | (with_reducible refine br_beq_tt (by assumption) ?_); conv => whnf
      | (with_reducible refine br_beq_ff (by assumption) ?_); conv => whnf
      | (with_reducible refine br_beq_tt (by decide) ?_); conv => whnf
      | (with_reducible refine br_beq_ff (by decide) ?_); conv => whnf
      | (with_reducible refine br_beq_intro (fun _ => ?_) (fun _ => ?_)) <;> conv => whnf
      | (with_reducible refine br_bne_tt (by assumption) ?_); conv => whnf
      | (with_reducible refine br_bne_ff (by assumption) ?_); conv => whnf
      | (with_reducible refine br_bne_tt (by decide) ?_); conv => whnf
      | (with_reducible refine br_bne_ff (by decide) ?_); conv => whnf
      | (with_reducible refine br_bne_intro (fun _ => ?_) (fun _ => ?_)) <;> conv => whnf
      | (with_reducible refine br_of_true (by assumption) ?_); conv => whnf
      | (with_reducible refine br_of_false (by assumption) ?_); conv => whnf
      | (with_reducible refine br_intro (fun _ => ?_) (fun _ => ?_)) <;> conv => whnf
      | (with_reducible refine and_rfl ?_); conv => whnf
      | (refine and_late (fun _ => ?_) (by first | omega | (show _ = _; rfl) | exact trivial | exact ⟨rfl, trivial⟩ | exact ⟨rfl, rfl, trivial⟩ | exact (fun h => by cases h) | exact (fun _ => ⟨rfl, rfl⟩) | exact Nat.le_of_ble_eq_true rfl | (simp only [List.length_map, List.length_append, pbytes, Nat.mul_one, List.length_cons, List.length_nil]; done) | (simp only [List.length_map, List.length_append, pbytes, Nat.mul_one, List.length_cons, List.length_nil]; omega))); conv => whnf
      | (with_reducible refine and_late (fun _ => ?_) ?_); conv => whnf
      | (with_reducible refine vcall_id ?_)
        first
        | (refine vcall_inl rfl rfl rfl rfl (Nat.le_of_ble_eq_true rfl) ?_)
      | (with_reducible refine Both.mk ?_ ?_) <;> conv => whnf
      | (refine ⟨[], _, _, rfl, ?_⟩); conv => whnf
      | (refine ⟨_, rfl, ?_⟩); conv => whnf
      | (refine ⟨_, unbytes_pbytes _, ?_⟩); conv => whnf
      | exact ⟨_, _, rfl, rfl⟩
      | exact rensG_pu _ _ _ _
      | rfl
      | (rw [snap_own rfl (show (pbytes _).length = _ * 1 from by rw [pbytes_length, Nat.mul_one])]); conv => whnf
      | fail
end Go.Proofs.Ytdjgfjnnafddnaa
