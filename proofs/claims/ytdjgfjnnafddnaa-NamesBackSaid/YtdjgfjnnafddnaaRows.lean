/-
  No cell of these rows narrows 'for every input' (looked for: loops, veiled, ifaces, maps, wideKeys, modest, calm, conditions, laid).
  DERIVED. THE GIVEN ROWS OF THIS SEAT. 12 by the template 'for every input the law returns true; each argument reads behind the call as it read before'; 0 by the template 'total and deterministic' (their statements: YtdjgfjnnafddnaaTotals.lean).
  GIVEN WITH THE SEED: the statements are not yours to turn. If you find one false, say at which input.
  Laid BY PROGRAM, IN A SANDBOX (cutbox-rows.mjs): the forced cells as the released guide's own fill.sh prints them over the translation 859112748b8ee8c0… (all of the seat's roots in one cut). By AI agents, Wed Nov 11 2026. No macro, syntax, notation, axiom, sorry.
-/
import Derived.Test.YtdjgfjnnafddnaaChecked
import GoSem.Claim
import GoSem.ClaimJoined
import GoSem.ClaimMapViews
import Derived.JoinedTies
import Derived.KernelRfl
namespace Go.Proofs.Ytdjgfjnnafddnaa
/- THE CELL 'sum', in the pinned program and in every row, IS THE sha256 OF THE DUMP (.gsa) THAT YtdjgfjnnafddnaaProg.lean LOADS. Nothing in Lean hashes anything: it is a label: what it is worth is what the hold of that sum in a sandbox is worth. -/
noncomputable def Try.pinned : Pinned := { name := "ytdjgfjnnafddnaa", sum := "859112748b8ee8c03c065a101c9ae2360fdbcdb1437f122aa2f019b0a999cebb", checked := Try.checked }
namespace Rows
def none {H : Type} : Left H := { results := [], args := [] }

/-- 'usherlaw04.NamesSays': WHATEVER THE INPUT: true; the input reads as it did. -/
def namesSaysSpec : ChangeSpec := { name := "namesSays", fn := fun _ => fun
  | [d] => { results := [.lit (.bool true)], args := [d] }
  | _ => none }
def namesSaysRow : OpenClaim := { program := "ytdjgfjnnafddnaa", sum := "859112748b8ee8c03c065a101c9ae2360fdbcdb1437f122aa2f019b0a999cebb", func := "usher/usherlaw04.NamesSays", spec := "namesSays", apart := false }
def NamesSaysSaid : Prop := namesSaysRow.holds Try.pinned (OpenSpec.ofChange namesSaysSpec)

/-- ITS FALSE NEIGHBOUR: 'it returns false'. Refute it at one input. -/
def namesSaysWrong : ChangeSpec := { name := "namesSays", fn := fun _ => fun
  | [d] => { results := [.lit (.bool false)], args := [d] }
  | _ => none }
def NamesSaysWrongFalsely : Prop := namesSaysRow.holds Try.pinned (OpenSpec.ofChange namesSaysWrong)

/-- 'usherlaw04.NamesKeys': WHATEVER THE INPUT: true; the input reads as it did. -/
def namesKeysSpec : ChangeSpec := { name := "namesKeys", fn := fun _ => fun
  | [d1, d2] => { results := [.lit (.bool true)], args := [d1, d2] }
  | _ => none }
def namesKeysRow : OpenClaim := { program := "ytdjgfjnnafddnaa", sum := "859112748b8ee8c03c065a101c9ae2360fdbcdb1437f122aa2f019b0a999cebb", func := "usher/usherlaw04.NamesKeys", spec := "namesKeys", recurses := true, apart := false }
def NamesKeysSaid : Prop := namesKeysRow.holds Try.pinned (OpenSpec.ofChange namesKeysSpec)

/-- ITS FALSE NEIGHBOUR: 'it returns false'. Refute it at one input. -/
def namesKeysWrong : ChangeSpec := { name := "namesKeys", fn := fun _ => fun
  | [d1, d2] => { results := [.lit (.bool false)], args := [d1, d2] }
  | _ => none }
def NamesKeysWrongFalsely : Prop := namesKeysRow.holds Try.pinned (OpenSpec.ofChange namesKeysWrong)

/-- 'usherlaw02.PackWrites': WHATEVER THE INPUT: true; the input reads as it did. -/
def packWritesSpec : ChangeSpec := { name := "packWrites", fn := fun _ => fun
  | [d1, d2, d3, d4, d5] => { results := [.lit (.bool true)], args := [d1, d2, d3, d4, d5] }
  | _ => none }
def packWritesRow : OpenClaim := { program := "ytdjgfjnnafddnaa", sum := "859112748b8ee8c03c065a101c9ae2360fdbcdb1437f122aa2f019b0a999cebb", func := "usher/usherlaw02.PackWrites", spec := "packWrites", apart := false }
def PackWritesSaid : Prop := packWritesRow.holds Try.pinned (OpenSpec.ofChange packWritesSpec)

/-- ITS FALSE NEIGHBOUR: 'it returns false'. Refute it at one input. -/
def packWritesWrong : ChangeSpec := { name := "packWrites", fn := fun _ => fun
  | [d1, d2, d3, d4, d5] => { results := [.lit (.bool false)], args := [d1, d2, d3, d4, d5] }
  | _ => none }
def PackWritesWrongFalsely : Prop := packWritesRow.holds Try.pinned (OpenSpec.ofChange packWritesWrong)

/-- 'usherlaw02.PackOrder': WHATEVER THE INPUT: true; the input reads as it did. -/
def packOrderSpec : ChangeSpec := { name := "packOrder", fn := fun _ => fun
  | [d1, d2] => { results := [.lit (.bool true)], args := [d1, d2] }
  | _ => none }
def packOrderRow : OpenClaim := { program := "ytdjgfjnnafddnaa", sum := "859112748b8ee8c03c065a101c9ae2360fdbcdb1437f122aa2f019b0a999cebb", func := "usher/usherlaw02.PackOrder", spec := "packOrder", inPlace := ["internal/bytealg.Compare"], apart := false }
def PackOrderSaid : Prop := packOrderRow.holds Try.pinned (OpenSpec.ofChange packOrderSpec)

/-- ITS FALSE NEIGHBOUR: 'it returns false'. Refute it at one input. -/
def packOrderWrong : ChangeSpec := { name := "packOrder", fn := fun _ => fun
  | [d1, d2] => { results := [.lit (.bool false)], args := [d1, d2] }
  | _ => none }
def PackOrderWrongFalsely : Prop := packOrderRow.holds Try.pinned (OpenSpec.ofChange packOrderWrong)

/-- 'usherlaw13.PolicyDelays': WHATEVER THE INPUT: true; the input reads as it did. -/
def policyDelaysSpec : ChangeSpec := { name := "policyDelays", fn := fun _ => fun
  | [d1, d2] => { results := [.lit (.bool true)], args := [d1, d2] }
  | _ => none }
def policyDelaysRow : OpenClaim := { program := "ytdjgfjnnafddnaa", sum := "859112748b8ee8c03c065a101c9ae2360fdbcdb1437f122aa2f019b0a999cebb", func := "usher/usherlaw13.PolicyDelays", spec := "policyDelays", inPlace := ["math.Float64frombits", "math.Float64bits"], apart := false }
def PolicyDelaysSaid : Prop := policyDelaysRow.holds Try.pinned (OpenSpec.ofChange policyDelaysSpec)

/-- ITS FALSE NEIGHBOUR: 'it returns false'. Refute it at one input. -/
def policyDelaysWrong : ChangeSpec := { name := "policyDelays", fn := fun _ => fun
  | [d1, d2] => { results := [.lit (.bool false)], args := [d1, d2] }
  | _ => none }
def PolicyDelaysWrongFalsely : Prop := policyDelaysRow.holds Try.pinned (OpenSpec.ofChange policyDelaysWrong)

/-- 'usherlaw04.NamesReads': WHATEVER THE INPUT: true; the input reads as it did. -/
def namesReadsSpec : ChangeSpec := { name := "namesReads", fn := fun _ => fun
  | [d] => { results := [.lit (.bool true)], args := [d] }
  | _ => none }
def namesReadsRow : OpenClaim := { program := "ytdjgfjnnafddnaa", sum := "859112748b8ee8c03c065a101c9ae2360fdbcdb1437f122aa2f019b0a999cebb", func := "usher/usherlaw04.NamesReads", spec := "namesReads", recurses := true, apart := false }
def NamesReadsSaid : Prop := namesReadsRow.holds Try.pinned (OpenSpec.ofChange namesReadsSpec)

/-- ITS FALSE NEIGHBOUR: 'it returns false'. Refute it at one input. -/
def namesReadsWrong : ChangeSpec := { name := "namesReads", fn := fun _ => fun
  | [d] => { results := [.lit (.bool false)], args := [d] }
  | _ => none }
def NamesReadsWrongFalsely : Prop := namesReadsRow.holds Try.pinned (OpenSpec.ofChange namesReadsWrong)

/-- 'usherlaw13.PolicyAll': WHATEVER THE INPUT: true; the input reads as it did. -/
def policyAllSpec : ChangeSpec := { name := "policyAll", fn := fun _ => fun
  | [d1, d2] => { results := [.lit (.bool true)], args := [d1, d2] }
  | _ => none }
def policyAllRow : OpenClaim := { program := "ytdjgfjnnafddnaa", sum := "859112748b8ee8c03c065a101c9ae2360fdbcdb1437f122aa2f019b0a999cebb", func := "usher/usherlaw13.PolicyAll", spec := "policyAll", inPlace := ["math.Float64bits", "math.Float64frombits"], apart := false }
def PolicyAllSaid : Prop := policyAllRow.holds Try.pinned (OpenSpec.ofChange policyAllSpec)

/-- ITS FALSE NEIGHBOUR: 'it returns false'. Refute it at one input. -/
def policyAllWrong : ChangeSpec := { name := "policyAll", fn := fun _ => fun
  | [d1, d2] => { results := [.lit (.bool false)], args := [d1, d2] }
  | _ => none }
def PolicyAllWrongFalsely : Prop := policyAllRow.holds Try.pinned (OpenSpec.ofChange policyAllWrong)

/-- 'usherlaw13.PolicyRises': WHATEVER THE INPUT: true; the input reads as it did. -/
def policyRisesSpec : ChangeSpec := { name := "policyRises", fn := fun _ => fun
  | [d1, d2] => { results := [.lit (.bool true)], args := [d1, d2] }
  | _ => none }
def policyRisesRow : OpenClaim := { program := "ytdjgfjnnafddnaa", sum := "859112748b8ee8c03c065a101c9ae2360fdbcdb1437f122aa2f019b0a999cebb", func := "usher/usherlaw13.PolicyRises", spec := "policyRises", inPlace := ["math.Float64bits", "math.Float64frombits"], apart := false }
def PolicyRisesSaid : Prop := policyRisesRow.holds Try.pinned (OpenSpec.ofChange policyRisesSpec)

/-- ITS FALSE NEIGHBOUR: 'it returns false'. Refute it at one input. -/
def policyRisesWrong : ChangeSpec := { name := "policyRises", fn := fun _ => fun
  | [d1, d2] => { results := [.lit (.bool false)], args := [d1, d2] }
  | _ => none }
def PolicyRisesWrongFalsely : Prop := policyRisesRow.holds Try.pinned (OpenSpec.ofChange policyRisesWrong)

/-- 'usherlaw02.PackNobody': WHATEVER THE INPUT: true; the input reads as it did. -/
def packNobodySpec : ChangeSpec := { name := "packNobody", fn := fun _ => fun
  | [d] => { results := [.lit (.bool true)], args := [d] }
  | _ => none }
def packNobodyRow : OpenClaim := { program := "ytdjgfjnnafddnaa", sum := "859112748b8ee8c03c065a101c9ae2360fdbcdb1437f122aa2f019b0a999cebb", func := "usher/usherlaw02.PackNobody", spec := "packNobody", apart := false }
def PackNobodySaid : Prop := packNobodyRow.holds Try.pinned (OpenSpec.ofChange packNobodySpec)

/-- ITS FALSE NEIGHBOUR: 'it returns false'. Refute it at one input. -/
def packNobodyWrong : ChangeSpec := { name := "packNobody", fn := fun _ => fun
  | [d] => { results := [.lit (.bool false)], args := [d] }
  | _ => none }
def PackNobodyWrongFalsely : Prop := packNobodyRow.holds Try.pinned (OpenSpec.ofChange packNobodyWrong)

/-- 'usherlaw02.PackBack': WHATEVER THE INPUT: true; the input reads as it did. -/
def packBackSpec : ChangeSpec := { name := "packBack", fn := fun _ => fun
  | [d1, d2, d3, d4, d5, d6] => { results := [.lit (.bool true)], args := [d1, d2, d3, d4, d5, d6] }
  | _ => none }
def packBackRow : OpenClaim := { program := "ytdjgfjnnafddnaa", sum := "859112748b8ee8c03c065a101c9ae2360fdbcdb1437f122aa2f019b0a999cebb", func := "usher/usherlaw02.PackBack", spec := "packBack", apart := false }
def PackBackSaid : Prop := packBackRow.holds Try.pinned (OpenSpec.ofChange packBackSpec)

/-- ITS FALSE NEIGHBOUR: 'it returns false'. Refute it at one input. -/
def packBackWrong : ChangeSpec := { name := "packBack", fn := fun _ => fun
  | [d1, d2, d3, d4, d5, d6] => { results := [.lit (.bool false)], args := [d1, d2, d3, d4, d5, d6] }
  | _ => none }
def PackBackWrongFalsely : Prop := packBackRow.holds Try.pinned (OpenSpec.ofChange packBackWrong)

/-- 'usherlaw04.NamesBack': WHATEVER THE INPUT: true; the input reads as it did. -/
def namesBackSpec : ChangeSpec := { name := "namesBack", fn := fun _ => fun
  | [d1, d2] => { results := [.lit (.bool true)], args := [d1, d2] }
  | _ => none }
def namesBackRow : OpenClaim := { program := "ytdjgfjnnafddnaa", sum := "859112748b8ee8c03c065a101c9ae2360fdbcdb1437f122aa2f019b0a999cebb", func := "usher/usherlaw04.NamesBack", spec := "namesBack", inPlace := ["internal/bytealg.IndexByteString", "internal/bytealg.IndexString"], named := ["internal/bytealg.MaxLen"], apart := false }
def NamesBackSaid : Prop := namesBackRow.holds Try.pinned (OpenSpec.ofChange namesBackSpec)

/-- ITS FALSE NEIGHBOUR: 'it returns false'. Refute it at one input. -/
def namesBackWrong : ChangeSpec := { name := "namesBack", fn := fun _ => fun
  | [d1, d2] => { results := [.lit (.bool false)], args := [d1, d2] }
  | _ => none }
def NamesBackWrongFalsely : Prop := namesBackRow.holds Try.pinned (OpenSpec.ofChange namesBackWrong)

/-- 'usherlaw13.PolicyBack': WHATEVER THE INPUT: true; the input reads as it did. -/
def policyBackSpec : ChangeSpec := { name := "policyBack", fn := fun _ => fun
  | [d1, d2] => { results := [.lit (.bool true)], args := [d1, d2] }
  | _ => none }
def policyBackRow : OpenClaim := { program := "ytdjgfjnnafddnaa", sum := "859112748b8ee8c03c065a101c9ae2360fdbcdb1437f122aa2f019b0a999cebb", func := "usher/usherlaw13.PolicyBack", spec := "policyBack", inPlace := ["math.Float64bits", "math.Float64frombits"], apart := false }
def PolicyBackSaid : Prop := policyBackRow.holds Try.pinned (OpenSpec.ofChange policyBackSpec)

/-- ITS FALSE NEIGHBOUR: 'it returns false'. Refute it at one input. -/
def policyBackWrong : ChangeSpec := { name := "policyBack", fn := fun _ => fun
  | [d1, d2] => { results := [.lit (.bool false)], args := [d1, d2] }
  | _ => none }
def PolicyBackWrongFalsely : Prop := policyBackRow.holds Try.pinned (OpenSpec.ofChange policyBackWrong)

/- THE SECOND FORM. 'bulk': how many values and letters a reading holds, each counted each time it is reached (what is shared counts as often as it is met; a slice's spare places count too). A statement '..UptoSaid' is the law's where the arguments, and the package variables that the reading takes, are together of bulk at most 1048576: NARROWER than '..Said'. Prove '..Said' where nothing that the law and all that it calls make is longer than what came in: it says more and counts as full. Else prove '..UptoSaid'. A law counts once. -/
mutual
def uptoBulk {H : Type} : DataW H → Nat
  | .lit (.string bytes) => bytes.length + 1
  | .lit _ => 1
  | .nil => 1
  | .ptr d => uptoBulk d + 1
  | .slice elems spare => uptoBulkAll elems + uptoBulkAll spare + 1
  | .agg parts => uptoBulkAll parts + 1
  | .iface _ d => uptoBulk d + 1
  | .map entries => uptoBulkEntries entries + 1
  | .held _ => 1
def uptoBulkAll {H : Type} : List (DataW H) → Nat
  | [] => 0
  | d :: r => uptoBulk d + uptoBulkAll r
def uptoBulkEntries {H : Type} : List (Lit × DataW H) → Nat
  | [] => 0
  | x :: r => uptoBulkEntry x + uptoBulkEntries r
def uptoBulkEntry {H : Type} : Lit × DataW H → Nat
  | (.string bytes, d) => bytes.length + uptoBulk d + 1
  | (_, d) => uptoBulk d + 1
 end
def uptoSmall : (H : Type) → List (DataW H) → Bool := fun _ ds => decide (uptoBulkAll ds ≤ 1048576)
def OpenSpec.upto (s : _root_.Go.ChangeSpec) : _root_.Go.OpenSpec := { _root_.Go.OpenSpec.ofChange s with cond := some uptoSmall }

/-- 'usherlaw04.NamesSays', WHERE WHAT IT READS IS OF BULK AT MOST 1048576: true; the input reads as it did. -/
def namesSaysUptoRow : OpenClaim := { program := "ytdjgfjnnafddnaa", sum := "859112748b8ee8c03c065a101c9ae2360fdbcdb1437f122aa2f019b0a999cebb", func := "usher/usherlaw04.NamesSays", spec := "namesSays", apart := false, narrowed := true }
def NamesSaysUptoSaid : Prop := namesSaysUptoRow.holds Try.pinned (OpenSpec.upto namesSaysSpec)

/-- 'usherlaw04.NamesKeys', WHERE WHAT IT READS IS OF BULK AT MOST 1048576: true; the input reads as it did. -/
def namesKeysUptoRow : OpenClaim := { program := "ytdjgfjnnafddnaa", sum := "859112748b8ee8c03c065a101c9ae2360fdbcdb1437f122aa2f019b0a999cebb", func := "usher/usherlaw04.NamesKeys", spec := "namesKeys", recurses := true, apart := false, narrowed := true }
def NamesKeysUptoSaid : Prop := namesKeysUptoRow.holds Try.pinned (OpenSpec.upto namesKeysSpec)

/-- 'usherlaw02.PackWrites', WHERE WHAT IT READS IS OF BULK AT MOST 1048576: true; the input reads as it did. -/
def packWritesUptoRow : OpenClaim := { program := "ytdjgfjnnafddnaa", sum := "859112748b8ee8c03c065a101c9ae2360fdbcdb1437f122aa2f019b0a999cebb", func := "usher/usherlaw02.PackWrites", spec := "packWrites", apart := false, narrowed := true }
def PackWritesUptoSaid : Prop := packWritesUptoRow.holds Try.pinned (OpenSpec.upto packWritesSpec)

/-- 'usherlaw02.PackOrder', WHERE WHAT IT READS IS OF BULK AT MOST 1048576: true; the input reads as it did. -/
def packOrderUptoRow : OpenClaim := { program := "ytdjgfjnnafddnaa", sum := "859112748b8ee8c03c065a101c9ae2360fdbcdb1437f122aa2f019b0a999cebb", func := "usher/usherlaw02.PackOrder", spec := "packOrder", inPlace := ["internal/bytealg.Compare"], apart := false, narrowed := true }
def PackOrderUptoSaid : Prop := packOrderUptoRow.holds Try.pinned (OpenSpec.upto packOrderSpec)

/-- 'usherlaw13.PolicyDelays', WHERE WHAT IT READS IS OF BULK AT MOST 1048576: true; the input reads as it did. -/
def policyDelaysUptoRow : OpenClaim := { program := "ytdjgfjnnafddnaa", sum := "859112748b8ee8c03c065a101c9ae2360fdbcdb1437f122aa2f019b0a999cebb", func := "usher/usherlaw13.PolicyDelays", spec := "policyDelays", inPlace := ["math.Float64frombits", "math.Float64bits"], apart := false, narrowed := true }
def PolicyDelaysUptoSaid : Prop := policyDelaysUptoRow.holds Try.pinned (OpenSpec.upto policyDelaysSpec)

/-- 'usherlaw04.NamesReads', WHERE WHAT IT READS IS OF BULK AT MOST 1048576: true; the input reads as it did. -/
def namesReadsUptoRow : OpenClaim := { program := "ytdjgfjnnafddnaa", sum := "859112748b8ee8c03c065a101c9ae2360fdbcdb1437f122aa2f019b0a999cebb", func := "usher/usherlaw04.NamesReads", spec := "namesReads", recurses := true, apart := false, narrowed := true }
def NamesReadsUptoSaid : Prop := namesReadsUptoRow.holds Try.pinned (OpenSpec.upto namesReadsSpec)

/-- 'usherlaw13.PolicyAll', WHERE WHAT IT READS IS OF BULK AT MOST 1048576: true; the input reads as it did. -/
def policyAllUptoRow : OpenClaim := { program := "ytdjgfjnnafddnaa", sum := "859112748b8ee8c03c065a101c9ae2360fdbcdb1437f122aa2f019b0a999cebb", func := "usher/usherlaw13.PolicyAll", spec := "policyAll", inPlace := ["math.Float64bits", "math.Float64frombits"], apart := false, narrowed := true }
def PolicyAllUptoSaid : Prop := policyAllUptoRow.holds Try.pinned (OpenSpec.upto policyAllSpec)

/-- 'usherlaw13.PolicyRises', WHERE WHAT IT READS IS OF BULK AT MOST 1048576: true; the input reads as it did. -/
def policyRisesUptoRow : OpenClaim := { program := "ytdjgfjnnafddnaa", sum := "859112748b8ee8c03c065a101c9ae2360fdbcdb1437f122aa2f019b0a999cebb", func := "usher/usherlaw13.PolicyRises", spec := "policyRises", inPlace := ["math.Float64bits", "math.Float64frombits"], apart := false, narrowed := true }
def PolicyRisesUptoSaid : Prop := policyRisesUptoRow.holds Try.pinned (OpenSpec.upto policyRisesSpec)

/-- 'usherlaw02.PackNobody', WHERE WHAT IT READS IS OF BULK AT MOST 1048576: true; the input reads as it did. -/
def packNobodyUptoRow : OpenClaim := { program := "ytdjgfjnnafddnaa", sum := "859112748b8ee8c03c065a101c9ae2360fdbcdb1437f122aa2f019b0a999cebb", func := "usher/usherlaw02.PackNobody", spec := "packNobody", apart := false, narrowed := true }
def PackNobodyUptoSaid : Prop := packNobodyUptoRow.holds Try.pinned (OpenSpec.upto packNobodySpec)

/-- 'usherlaw02.PackBack', WHERE WHAT IT READS IS OF BULK AT MOST 1048576: true; the input reads as it did. -/
def packBackUptoRow : OpenClaim := { program := "ytdjgfjnnafddnaa", sum := "859112748b8ee8c03c065a101c9ae2360fdbcdb1437f122aa2f019b0a999cebb", func := "usher/usherlaw02.PackBack", spec := "packBack", apart := false, narrowed := true }
def PackBackUptoSaid : Prop := packBackUptoRow.holds Try.pinned (OpenSpec.upto packBackSpec)

/-- 'usherlaw04.NamesBack', WHERE WHAT IT READS IS OF BULK AT MOST 1048576: true; the input reads as it did. -/
def namesBackUptoRow : OpenClaim := { program := "ytdjgfjnnafddnaa", sum := "859112748b8ee8c03c065a101c9ae2360fdbcdb1437f122aa2f019b0a999cebb", func := "usher/usherlaw04.NamesBack", spec := "namesBack", inPlace := ["internal/bytealg.IndexByteString", "internal/bytealg.IndexString"], named := ["internal/bytealg.MaxLen"], apart := false, narrowed := true }
def NamesBackUptoSaid : Prop := namesBackUptoRow.holds Try.pinned (OpenSpec.upto namesBackSpec)

/-- 'usherlaw13.PolicyBack', WHERE WHAT IT READS IS OF BULK AT MOST 1048576: true; the input reads as it did. -/
def policyBackUptoRow : OpenClaim := { program := "ytdjgfjnnafddnaa", sum := "859112748b8ee8c03c065a101c9ae2360fdbcdb1437f122aa2f019b0a999cebb", func := "usher/usherlaw13.PolicyBack", spec := "policyBack", inPlace := ["math.Float64bits", "math.Float64frombits"], apart := false, narrowed := true }
def PolicyBackUptoSaid : Prop := policyBackUptoRow.holds Try.pinned (OpenSpec.upto policyBackSpec)

end Rows
end Go.Proofs.Ytdjgfjnnafddnaa
