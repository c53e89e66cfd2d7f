/- ValueBack: a value that may be is read of its bytes; what is read has those bytes. -/
import Derived.Test.YtlodbaikbgbhjaaValueK
import Derived.Test.YtlodbaikbgbhjaaValueA
import Derived.Test.YtlodbaikbgbhjaaProg
set_option linter.unusedVariables false
set_option linter.unusedSimpArgs false
set_option maxRecDepth 20000
namespace Go.Proofs.Ytlodbaikbgbhjaa
open Go Go.Vm Go.IntWalk

mutual
theorem bytesV_okB : ∀ v : V, okV v → okB (bytesV v)
  | .mk k i b s l, h => by
    rw [okV_mk] at h
    rw [bytesV_mk]
    refine okB_append (numB_ok _ (by omega)) ?_
    split
    · exact be_ok _ _
    · split
      · exact be_ok _ _
      · split
        · exact textB_ok s (by omega)
        · split
          · exact okB_append (numB_ok _ (by omega)) (bytesL_okB l h.2.2.2.2.2)
          · simp [okB]
theorem bytesL_okB : ∀ l : List V, okL l → okB (bytesL l)
  | [], _ => by rw [bytesL]; simp [okB]
  | v :: l, h => by
    rw [okL] at h
    rw [bytesL]
    exact okB_append (bytesV_okB v h.1) (bytesL_okB l h.2)
end
theorem parse_back {v : V} (ok : okV v) (h : checkV v = 0) : parseE (bytesV v) = 0 ∧ parseV (bytesV v) = v := by
  obtain ⟨h1, h2⟩ := checkV_ok h
  have h3 := readV_back 4 v [] ok h1
  rw [List.append_nil] at h3
  have h4 := bytesV_len v 4 h1
  have e1 : readT1 (r0 (bytesV v)) = ([], 0) := by
    unfold readT1
    rw [show readV 4 (r0 (bytesV v)) = (v, ([], 0)) from h3]
    rw [if_neg (by show ¬ ((bytesV v).length : Int) - (([] : List Int).length : Int) > 1000; simp; omega)]
  have e2 : readT (r0 (bytesV v)) = (v, ([], 0)) := by
    unfold readT
    rw [e1, show readV 4 (r0 (bytesV v)) = (v, ([], 0)) from h3]
    rfl
  have e3 : parseE (bytesV v) = 0 := by
    unfold parseE
    rw [e2]
    rfl
  refine ⟨e3, ?_⟩
  unfold parseV
  rw [if_pos e3, e2]
theorem parse_inv {xs : List Int} (ok : okB xs) (hl : xs.length ≤ 1099511627776) (h : parseE xs = 0) : checkV (parseV xs) = 0 ∧ bytesV (parseV xs) = xs := by
  unfold parseV
  rw [if_pos h]
  unfold parseE rEnd at h
  have h2 : (readT1 (r0 xs)).2 = 0 ∧ (readT1 (r0 xs)).1 = [] := by
    unfold readT at h
    simp only at h
    split at h
    · cases h
    · rename_i q
      refine ⟨h, ?_⟩
      have : ¬ (readT1 (r0 xs)).1.length > 0 := fun a => q ⟨a, h⟩
      exact List.eq_nil_of_length_eq_zero (by omega)
  unfold readT
  rw [if_pos h2.1]
  simp only
  have h3 : readT1 (r0 xs) = (readV 4 (r0 xs)).2 ∧ ¬ ((r0 xs).1.length : Int) - (readV 4 (r0 xs)).2.1.length > 1000 := by
    have h4 := h2.1
    unfold readT1 at h4 ⊢
    split
    · rename_i a
      rw [if_pos a] at h4
      exact absurd h4 (rFail_ne (by decide))
    · rename_i a
      exact ⟨rfl, a⟩
  rw [h3.1] at h2
  have h5 : readV 4 (xs, 0) = ((readV 4 (r0 xs)).1, ([], 0)) := Prod.ext rfl (Prod.ext h2.2 h2.1)
  obtain ⟨h6, h7⟩ := readV_inv 4 xs _ _ ok hl h5
  rw [List.append_nil] at h6
  have h8 := bytesV_len _ 4 h7
  have h9 := h3.2
  rw [h2.2] at h9
  have h10 : ((r0 xs).1.length : Int) = xs.length := rfl
  have h11 := congrArg List.length h6
  refine ⟨?_, h6.symm⟩
  unfold checkV
  rw [if_neg]
  simp only [List.length_nil] at h9
  omega
theorem parse_okV {xs : List Int} (ok : okB xs) (hl : xs.length ≤ 1099511627776) : okV (parseV xs) := by
  unfold parseV
  split
  · unfold readT
    show okV (if _ then _ else _)
    split
    · exact readV_okV 4 (okR_0 ok hl)
    · exact okV_zero
  · exact okV_zero
mutual
theorem sameV_refl : ∀ v : V, sameV v v = true
  | .mk k i b s l => by rw [sameV_mk, sameL_refl l, strEq_self]; simp
theorem sameL_refl : ∀ l : List V, sameL l l = true
  | [] => by rw [sameL]
  | v :: l => by rw [sameL, sameV_refl v, sameL_refl l]; rfl
end
set_option maxHeartbeats 4000000 in
theorem con_law05_ValueBack : Contract Try.prog id_law05_ValueBack (RelP (fun ((v, xs) : V × List Int) => okV v ∧ okB xs ∧ xs.length ≤ 1048576) (fun (v, xs) => [pvV v, bsl xs]) fun _ => bl true) := by
  have hP := con_value_Parse'
  refine (code_law05_ValueBack).pure (Known.cons con_law05_fine (Known.cons con_value_Check (Known.cons con_value_Put (Known.cons hP (Known.cons con_value_Same (Known.cons con_bytes_Equal (Known.cons con_law05_awake Known.nil))))))) (by rintro x -; first | exact Nat.le_of_ble_eq_true rfl | (obtain ⟨_, _⟩ := x; exact Nat.le_of_ble_eq_true rfl) | (obtain ⟨_, _, _⟩ := x; exact Nat.le_of_ble_eq_true rfl) | (obtain ⟨_, _, _, _⟩ := x; exact Nat.le_of_ble_eq_true rfl) | (obtain ⟨_, _, _, _, _⟩ := x; exact Nat.le_of_ble_eq_true rfl) | (obtain ⟨_, _, _, _, _, _⟩ := x; exact Nat.le_of_ble_eq_true rfl) | (obtain ⟨_, _, _, _, _, _, _⟩ := x; exact Nat.le_of_ble_eq_true rfl) | (obtain ⟨_, _, _, _, _, _, _, _⟩ := x; exact Nat.le_of_ble_eq_true rfl)) ?_
  rintro ⟨a, xs⟩ ⟨ha, ok, hl⟩
  dsimp only at ha ok hl ⊢
  have hb1 := @parse_back a ha
  have hb2 := bytesV_okB a ha
  have hb3 : checkV a = 0 → (bytesV a).length ≤ 1048576 := fun h => by
    obtain ⟨h1, h2⟩ := checkV_ok h
    have := bytesV_len _ _ h1
    omega
  have hi1 := @parse_inv xs ok (by omega)
  have hi2 := parse_okV ok (by omega : xs.length ≤ 1099511627776)
  obtain ⟨x, hx⟩ : ∃ x, parseV xs = x := ⟨_, rfl⟩
  obtain ⟨e, he⟩ : ∃ e, parseE xs = e := ⟨_, rfl⟩
  rw [hx] at hi1 hi2
  rw [he] at hi1
  obtain ⟨ka, ia, ba, ta, la⟩ := a
  obtain ⟨kx, ix, bx, tx, lx⟩ := x
  have pa := pvV_mk ka ia ba ta la
  have px := pvV_mk kx ix bx tx lx
  simp only [pa]
  generalize hA : V.mk ka ia ba ta la = a at *
  generalize hX : V.mk kx ix bx tx lx = x at *
  have n1 : asB nilS = some [] := rfl
  repeat' first
    | (with_reducible first | refine bo_run ?_ | refine bw_run ?_ | refine bd_run ?_ | refine Br.tt ?_ | refine Br.ff ?_); conv => whnf
    | (with_reducible refine br_not ?_)
    | (with_reducible first | refine br_dec_tt (by assumption) ?_ | refine br_dec_ff (by assumption) ?_ | refine br_dec_tt (by decide) ?_ | refine br_dec_ff (by decide) ?_); conv => whnf
    | (with_reducible refine br_dec_intro (fun _ => ?_) (fun _ => ?_)) <;> conv => whnf
    | (with_reducible first | refine br_beq_tt (by assumption) ?_ | refine br_beq_ff (by assumption) ?_ | refine br_beq_tt (by decide) ?_ | refine br_beq_ff (by decide) ?_); conv => whnf
    | (with_reducible refine br_beq_intro (fun _ => ?_) (fun _ => ?_)) <;> conv => whnf
    | (with_reducible first | refine br_bne_tt (by assumption) ?_ | refine br_bne_ff (by assumption) ?_ | refine br_bne_tt (by decide) ?_ | refine br_bne_ff (by decide) ?_); conv => whnf
    | (with_reducible refine br_bne_intro (fun _ => ?_) (fun _ => ?_)) <;> conv => whnf
    | (with_reducible first | refine br_of_true (by assumption) ?_ | refine br_of_false (by assumption) ?_); conv => whnf
    | (with_reducible refine br_intro (fun _ => ?_) (fun _ => ?_)) <;> conv => whnf
    | (with_reducible refine and_rfl ?_); conv => whnf
    | (refine and_late (fun _ => ?_) (by first | omega | (show _ = _; rfl) | exact trivial | exact ⟨rfl, trivial⟩ | exact ⟨rfl, rfl, trivial⟩ | exact (fun h => by cases h) | exact (fun _ => ⟨rfl, rfl⟩) | exact Nat.le_of_ble_eq_true rfl | (simp only [List.length_map, List.length_append, pbytes, Nat.mul_one, List.length_cons, List.length_nil]; first | done | omega))); conv => whnf
    | (with_reducible refine and_late (fun _ => ?_) ?_); conv => whnf
    | (with_reducible refine vcall_id ?_)
      first
      | (refine call_rel (x := a) (p := bl (fineV a)) (by rw [pa]; rfl) ha rfl (.inl rfl) ?_); conv => whnf
      | (refine call_rel (x := ()) (p := bl true) rfl trivial rfl (.inl rfl) ?_); conv => whnf
      | (refine call_subP a (p := i64 (checkV a)) rfl (by show LEs _ [pvV a]; rw [pa]; exact LEs.refl _) ha rfl (.inl rfl) ?_); conv => whnf
      | (refine call_rel (x := xs) (p := .tup [.agg [i64 kx, i64 ix, u64 bx, str tx, .sl lx.length (cellsL lx)], i64 e]) rfl (by exact ⟨ok, by show xs.length ≤ _; omega⟩) (by show PV.tup [pvV _, i64 _] = _; rw [hx, he, px]) (.inl rfl) ?_); conv => whnf
      | (refine call_subP (a, []) (p := bsl (bytesV a)) rfl (by show LEs _ [bsl [], pvV a]; rw [pa]; exact .cons .nil (.cons (.refl _) .nil)) (by exact ⟨ha, by show 0 ≤ _; omega⟩) (by show bsl _ = _; rw [if_pos (by assumption)]; rfl) (.inl rfl) ?_); conv => whnf
      | (refine call_rel (x := bytesV a) (p := .tup [.agg [i64 ka, i64 ia, u64 ba, str ta, .sl la.length (cellsL la)], i64 0]) rfl (by exact ⟨hb2, by have := hb3 (by assumption); show (bytesV a).length ≤ _; omega⟩) (by show PV.tup [pvV _, i64 _] = _; rw [(hb1 (by assumption)).1, (hb1 (by assumption)).2, pa]) (.inl rfl) ?_); conv => whnf
      | (refine call_subP (a, a) (p := bl true) rfl (by show LEs _ [pvV a, pvV a]; rw [pa]; exact LEs.refl _) ha (by show bl _ = _; rw [sameV_refl]) (.inl rfl) ?_); conv => whnf
      | (refine call_subP x (p := i64 (checkV x)) rfl (by show LEs _ [pvV x]; rw [px]; exact LEs.refl _) hi2 rfl (.inl rfl) ?_); conv => whnf
      | (refine call_subP (x, []) (p := bsl xs) rfl (by show LEs _ [bsl [], pvV x]; rw [px]; exact .cons .nil (.cons (.refl _) .nil)) (by exact ⟨hi2, by show 0 ≤ _; omega⟩) (by show bsl _ = _; rw [if_pos (hi1 (by assumption)).1, List.nil_append, (hi1 (by assumption)).2]) (.inl rfl) ?_); conv => whnf
      | (refine call_rel (x := (bsl xs, bsl xs, xs, xs)) (p := bl true) rfl ⟨asB_sl _, asB_sl _⟩ (by show bl _ = _; rw [strEq_self]) (.inl rfl) ?_); conv => whnf
    | (with_reducible refine Both.mk ?_ ?_) <;> conv => whnf
    | (refine ⟨[], _, _, rfl, ?_⟩); conv => whnf
    | (refine ⟨_, rfl, ?_⟩); conv => whnf
    | (refine ⟨_, unbytes_pbytes _, ?_⟩); conv => whnf
    | exact ⟨_, _, rfl, rfl⟩
    | exact rensG_pu _ _ _ _
    | rfl
    | (rw [snap_own rfl (show (pbytes _).length = _ * 1 from by rw [pbytes_length, Nat.mul_one])]); conv => whnf
    | fail
  all_goals first
    | trivial
    | rfl
    | (exfalso; have := (hi1 (by assumption)).1; omega)
theorem valueT' : ValueT Try.prog ty_Value ty_int ty_uint64 ty_string ty_LValue := ⟨⟨_, Try.underlying25, rfl⟩, Try.underlying3, Try.underlying22, Try.underlying9, Try.underlying23⟩
theorem law_ValueBack : ∀ xs b, WTvs Try.prog [ty_Value, ty_Luint8] b xs → b ≤ 1048576 → RelP (fun ((v, xs) : V × List Int) => okV v ∧ okB xs ∧ xs.length ≤ 1048576) (fun (v, xs) => [pvV v, bsl xs]) (fun _ => bl true) (xs.map .pu) [] fun r _ => r = .pu (.val (.bool true)) := by
  intro xs b hw hb
  obtain ⟨p0, b0, r0, c0, rfl, rfl, h0, hw⟩ := hw
  obtain ⟨p1, b1, r1, c1, rfl, rfl, h1, hw⟩ := hw
  obtain ⟨rfl, rfl⟩ := hw
  obtain ⟨u, rfl, k0⟩ := wtv_value valueT' (by omega) h0
  obtain ⟨ys, rfl, k1, k2⟩ := WTv.bytes Try.underlying39 Try.underlying5 h1
  exact ⟨rfl, (u, ys), ⟨k0, k2, by show ys.length ≤ _; omega⟩, rfl, rfl⟩
end Go.Proofs.Ytlodbaikbgbhjaa
