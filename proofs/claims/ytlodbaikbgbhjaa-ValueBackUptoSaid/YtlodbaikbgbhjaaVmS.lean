/- Vm, part S: texts as lists of bytes. -/
import Derived.Test.YtlodbaikbgbhjaaVmR
set_option linter.unusedVariables false
set_option linter.unusedSimpArgs false
namespace Go.Vm
open Go Go.RowKit

def okB (l : List Int) : Prop := ∀ x ∈ l, 0 ≤ x ∧ x ≤ 255
theorem bytesOf_ok (s : ByteArray) : okB (bytesOf s) := by
  intro x hx
  simp only [bytesOf, List.mem_map] at hx
  obtain ⟨b, _, rfl⟩ := hx
  have := b.toNat_lt
  omega
theorem strOf_bytesOf (s : ByteArray) : strOf (bytesOf s) = s := by
  unfold strOf bytesOf
  apply ByteArray.ext
  apply Array.ext'
  simp only [List.map_map]
  conv => rhs; rw [← List.map_id s.data.toList]
  apply List.map_congr_left
  intro b _
  simp
theorem bytesOf_inj {s t : ByteArray} (h : bytesOf s = bytesOf t) : s = t := by rw [← strOf_bytesOf s, h, strOf_bytesOf]
theorem bytesOf_strOf {l : List Int} (h : okB l) : bytesOf (strOf l) = l := by
  unfold strOf bytesOf
  simp only [List.map_map]
  conv => rhs; rw [← List.map_id l]
  apply List.map_congr_left
  intro x hx
  have := h x hx
  simp
  omega
theorem bytesOf_append (s t : ByteArray) : bytesOf (s ++ t) = bytesOf s ++ bytesOf t := by simp [bytesOf]
theorem bytesOf_extract (s : ByteArray) (i j : Nat) : bytesOf (s.extract i j) = ((bytesOf s).take j).drop i := by
  simp only [bytesOf, ByteArray.data_extract, Array.toList_extract, List.extract_eq_take_drop, List.map_drop, List.map_take, List.take_drop]
  simp [List.drop_take]
theorem bt_get (s : ByteArray) (i : Nat) (h : i < s.size) : (bytesOf s)[i]? = some (bt s i) := by
  simp [bytesOf, bt, h]
  rfl
theorem strEq_bytes (s t : ByteArray) : strEq s t = decide (bytesOf s = bytesOf t) := by
  rw [Bool.eq_iff_iff, decide_eq_true_eq]
  unfold strEq
  simp only [beq_iff_eq, ByteArray.toList_eq]
  constructor
  · intro h
    unfold bytesOf
    rw [h]
  · intro h
    rw [bytesOf_inj h]
end Go.Vm
