/-
  NARROWER THAN 'FOR EVERY INPUT', by the rows' own cells (each row's printed sentence says how): BranchAfter: loops · BranchForks: loops · BranchFinds: loops · EventChecks: loops · EventBack: loops · BranchBack: loops.
  DERIVED. THE GIVEN ROWS OF THIS SEAT. 11 by the template 'for every input the law returns true; each argument reads behind the call as it read before'; 0 by the template 'total and deterministic' (their statements: YtalbdoapcpgelaaTotals.lean).
  GIVEN WITH THE SEED: the statements are not yours to turn. If you find one false, say at which input.
  Laid BY PROGRAM, IN A SANDBOX (cutbox-rows.mjs): the forced cells as the released guide's own fill.sh prints them over the translation 78cbddf48b6e6aea… (all of the seat's roots in one cut). By AI agents, Wed Nov 11 2026. No macro, syntax, notation, axiom, sorry.
-/
import Derived.Test.YtalbdoapcpgelaaChecked
import GoSem.Claim
import GoSem.ClaimJoined
import GoSem.ClaimMapViews
import Derived.JoinedTies
import Derived.KernelRfl
namespace Go.Proofs.Ytalbdoapcpgelaa
/- THE CELL 'sum', in the pinned program and in every row, IS THE sha256 OF THE DUMP (.gsa) THAT YtalbdoapcpgelaaProg.lean LOADS. Nothing in Lean hashes anything: it is a label: what it is worth is what the hold of that sum in a sandbox is worth. -/
noncomputable def Try.pinned : Pinned := { name := "ytalbdoapcpgelaa", sum := "78cbddf48b6e6aeac078820bb3327d9e5ac3cad500fad00a5fb9d47b873e6432", checked := Try.checked }
namespace Rows
def none {H : Type} : Left H := { results := [], args := [] }

/-- 'usherlaw15.BranchAfter': WHATEVER THE INPUT: true; the input reads as it did. -/
def branchAfterSpec : ChangeSpec := { name := "branchAfter", fn := fun _ => fun
  | [d1, d2, d3] => { results := [.lit (.bool true)], args := [d1, d2, d3] }
  | _ => none }
def branchAfterRow : OpenClaim := { program := "ytalbdoapcpgelaa", sum := "78cbddf48b6e6aeac078820bb3327d9e5ac3cad500fad00a5fb9d47b873e6432", func := "usher/usherlaw15.BranchAfter", spec := "branchAfter", unfollowed := true, recurses := true, loops := true, apart := false }
def BranchAfterSaid : Prop := branchAfterRow.holds Try.pinned (OpenSpec.ofChange branchAfterSpec)

/-- ITS FALSE NEIGHBOUR: 'it returns false'. Refute it at one input. -/
def branchAfterWrong : ChangeSpec := { name := "branchAfter", fn := fun _ => fun
  | [d1, d2, d3] => { results := [.lit (.bool false)], args := [d1, d2, d3] }
  | _ => none }
def BranchAfterWrongFalsely : Prop := branchAfterRow.holds Try.pinned (OpenSpec.ofChange branchAfterWrong)

/-- 'usherlaw15.BranchForks': WHATEVER THE INPUT: true; the input reads as it did. -/
def branchForksSpec : ChangeSpec := { name := "branchForks", fn := fun _ => fun
  | [d1, d2] => { results := [.lit (.bool true)], args := [d1, d2] }
  | _ => none }
def branchForksRow : OpenClaim := { program := "ytalbdoapcpgelaa", sum := "78cbddf48b6e6aeac078820bb3327d9e5ac3cad500fad00a5fb9d47b873e6432", func := "usher/usherlaw15.BranchForks", spec := "branchForks", unfollowed := true, recurses := true, loops := true, apart := false }
def BranchForksSaid : Prop := branchForksRow.holds Try.pinned (OpenSpec.ofChange branchForksSpec)

/-- ITS FALSE NEIGHBOUR: 'it returns false'. Refute it at one input. -/
def branchForksWrong : ChangeSpec := { name := "branchForks", fn := fun _ => fun
  | [d1, d2] => { results := [.lit (.bool false)], args := [d1, d2] }
  | _ => none }
def BranchForksWrongFalsely : Prop := branchForksRow.holds Try.pinned (OpenSpec.ofChange branchForksWrong)

/-- 'usherlaw15.BranchFinds': WHATEVER THE INPUT: true; the input reads as it did. -/
def branchFindsSpec : ChangeSpec := { name := "branchFinds", fn := fun _ => fun
  | [d1, d2, d3, d4] => { results := [.lit (.bool true)], args := [d1, d2, d3, d4] }
  | _ => none }
def branchFindsRow : OpenClaim := { program := "ytalbdoapcpgelaa", sum := "78cbddf48b6e6aeac078820bb3327d9e5ac3cad500fad00a5fb9d47b873e6432", func := "usher/usherlaw15.BranchFinds", spec := "branchFinds", unfollowed := true, recurses := true, loops := true, apart := false }
def BranchFindsSaid : Prop := branchFindsRow.holds Try.pinned (OpenSpec.ofChange branchFindsSpec)

/-- ITS FALSE NEIGHBOUR: 'it returns false'. Refute it at one input. -/
def branchFindsWrong : ChangeSpec := { name := "branchFinds", fn := fun _ => fun
  | [d1, d2, d3, d4] => { results := [.lit (.bool false)], args := [d1, d2, d3, d4] }
  | _ => none }
def BranchFindsWrongFalsely : Prop := branchFindsRow.holds Try.pinned (OpenSpec.ofChange branchFindsWrong)

/-- 'usherlaw08.SegmentFrames': WHATEVER THE INPUT: true; the input reads as it did. -/
def segmentFramesSpec : ChangeSpec := { name := "segmentFrames", fn := fun _ => fun
  | [d1, d2, d3] => { results := [.lit (.bool true)], args := [d1, d2, d3] }
  | _ => none }
def segmentFramesRow : OpenClaim := { program := "ytalbdoapcpgelaa", sum := "78cbddf48b6e6aeac078820bb3327d9e5ac3cad500fad00a5fb9d47b873e6432", func := "usher/usherlaw08.SegmentFrames", spec := "segmentFrames", unfollowed := true, recurses := true, apart := false }
def SegmentFramesSaid : Prop := segmentFramesRow.holds Try.pinned (OpenSpec.ofChange segmentFramesSpec)

/-- ITS FALSE NEIGHBOUR: 'it returns false'. Refute it at one input. -/
def segmentFramesWrong : ChangeSpec := { name := "segmentFrames", fn := fun _ => fun
  | [d1, d2, d3] => { results := [.lit (.bool false)], args := [d1, d2, d3] }
  | _ => none }
def SegmentFramesWrongFalsely : Prop := segmentFramesRow.holds Try.pinned (OpenSpec.ofChange segmentFramesWrong)

/-- 'usherlaw08.SegmentParses': WHATEVER THE INPUT: true; the input reads as it did. -/
def segmentParsesSpec : ChangeSpec := { name := "segmentParses", fn := fun _ => fun
  | [d] => { results := [.lit (.bool true)], args := [d] }
  | _ => none }
def segmentParsesRow : OpenClaim := { program := "ytalbdoapcpgelaa", sum := "78cbddf48b6e6aeac078820bb3327d9e5ac3cad500fad00a5fb9d47b873e6432", func := "usher/usherlaw08.SegmentParses", spec := "segmentParses", unfollowed := true, recurses := true, apart := false }
def SegmentParsesSaid : Prop := segmentParsesRow.holds Try.pinned (OpenSpec.ofChange segmentParsesSpec)

/-- ITS FALSE NEIGHBOUR: 'it returns false'. Refute it at one input. -/
def segmentParsesWrong : ChangeSpec := { name := "segmentParses", fn := fun _ => fun
  | [d] => { results := [.lit (.bool false)], args := [d] }
  | _ => none }
def SegmentParsesWrongFalsely : Prop := segmentParsesRow.holds Try.pinned (OpenSpec.ofChange segmentParsesWrong)

/-- 'usherlaw08.SegmentBack': WHATEVER THE INPUT: true; the input reads as it did. -/
def segmentBackSpec : ChangeSpec := { name := "segmentBack", fn := fun _ => fun
  | [d1, d2, d3, d4, d5, d6] => { results := [.lit (.bool true)], args := [d1, d2, d3, d4, d5, d6] }
  | _ => none }
def segmentBackRow : OpenClaim := { program := "ytalbdoapcpgelaa", sum := "78cbddf48b6e6aeac078820bb3327d9e5ac3cad500fad00a5fb9d47b873e6432", func := "usher/usherlaw08.SegmentBack", spec := "segmentBack", unfollowed := true, recurses := true, apart := false }
def SegmentBackSaid : Prop := segmentBackRow.holds Try.pinned (OpenSpec.ofChange segmentBackSpec)

/-- ITS FALSE NEIGHBOUR: 'it returns false'. Refute it at one input. -/
def segmentBackWrong : ChangeSpec := { name := "segmentBack", fn := fun _ => fun
  | [d1, d2, d3, d4, d5, d6] => { results := [.lit (.bool false)], args := [d1, d2, d3, d4, d5, d6] }
  | _ => none }
def SegmentBackWrongFalsely : Prop := segmentBackRow.holds Try.pinned (OpenSpec.ofChange segmentBackWrong)

/-- 'usherlaw08.SegmentChains': WHATEVER THE INPUT: true; the input reads as it did. -/
def segmentChainsSpec : ChangeSpec := { name := "segmentChains", fn := fun _ => fun
  | [d1, d2] => { results := [.lit (.bool true)], args := [d1, d2] }
  | _ => none }
def segmentChainsRow : OpenClaim := { program := "ytalbdoapcpgelaa", sum := "78cbddf48b6e6aeac078820bb3327d9e5ac3cad500fad00a5fb9d47b873e6432", func := "usher/usherlaw08.SegmentChains", spec := "segmentChains", unfollowed := true, recurses := true, apart := false }
def SegmentChainsSaid : Prop := segmentChainsRow.holds Try.pinned (OpenSpec.ofChange segmentChainsSpec)

/-- ITS FALSE NEIGHBOUR: 'it returns false'. Refute it at one input. -/
def segmentChainsWrong : ChangeSpec := { name := "segmentChains", fn := fun _ => fun
  | [d1, d2] => { results := [.lit (.bool false)], args := [d1, d2] }
  | _ => none }
def SegmentChainsWrongFalsely : Prop := segmentChainsRow.holds Try.pinned (OpenSpec.ofChange segmentChainsWrong)

/-- 'usherlaw14.EventWords': WHATEVER THE INPUT: true; the input reads as it did. -/
def eventWordsSpec : ChangeSpec := { name := "eventWords", fn := fun _ => fun
  | [d] => { results := [.lit (.bool true)], args := [d] }
  | _ => none }
def eventWordsRow : OpenClaim := { program := "ytalbdoapcpgelaa", sum := "78cbddf48b6e6aeac078820bb3327d9e5ac3cad500fad00a5fb9d47b873e6432", func := "usher/usherlaw14.EventWords", spec := "eventWords", recurses := true, apart := false }
def EventWordsSaid : Prop := eventWordsRow.holds Try.pinned (OpenSpec.ofChange eventWordsSpec)

/-- ITS FALSE NEIGHBOUR: 'it returns false'. Refute it at one input. -/
def eventWordsWrong : ChangeSpec := { name := "eventWords", fn := fun _ => fun
  | [d] => { results := [.lit (.bool false)], args := [d] }
  | _ => none }
def EventWordsWrongFalsely : Prop := eventWordsRow.holds Try.pinned (OpenSpec.ofChange eventWordsWrong)

/-- 'usherlaw14.EventChecks': WHATEVER THE INPUT: true; the input reads as it did. -/
def eventChecksSpec : ChangeSpec := { name := "eventChecks", fn := fun _ => fun
  | [d1, d2] => { results := [.lit (.bool true)], args := [d1, d2] }
  | _ => none }
def eventChecksRow : OpenClaim := { program := "ytalbdoapcpgelaa", sum := "78cbddf48b6e6aeac078820bb3327d9e5ac3cad500fad00a5fb9d47b873e6432", func := "usher/usherlaw14.EventChecks", spec := "eventChecks", inPlace := ["math.Float64frombits"], recurses := true, loops := true, apart := false }
def EventChecksSaid : Prop := eventChecksRow.holds Try.pinned (OpenSpec.ofChange eventChecksSpec)

/-- ITS FALSE NEIGHBOUR: 'it returns false'. Refute it at one input. -/
def eventChecksWrong : ChangeSpec := { name := "eventChecks", fn := fun _ => fun
  | [d1, d2] => { results := [.lit (.bool false)], args := [d1, d2] }
  | _ => none }
def EventChecksWrongFalsely : Prop := eventChecksRow.holds Try.pinned (OpenSpec.ofChange eventChecksWrong)

/-- 'usherlaw14.EventBack': WHATEVER THE INPUT: true; the input reads as it did. -/
def eventBackSpec : ChangeSpec := { name := "eventBack", fn := fun _ => fun
  | [d1, d2] => { results := [.lit (.bool true)], args := [d1, d2] }
  | _ => none }
def eventBackRow : OpenClaim := { program := "ytalbdoapcpgelaa", sum := "78cbddf48b6e6aeac078820bb3327d9e5ac3cad500fad00a5fb9d47b873e6432", func := "usher/usherlaw14.EventBack", spec := "eventBack", recurses := true, loops := true, apart := false }
def EventBackSaid : Prop := eventBackRow.holds Try.pinned (OpenSpec.ofChange eventBackSpec)

/-- ITS FALSE NEIGHBOUR: 'it returns false'. Refute it at one input. -/
def eventBackWrong : ChangeSpec := { name := "eventBack", fn := fun _ => fun
  | [d1, d2] => { results := [.lit (.bool false)], args := [d1, d2] }
  | _ => none }
def EventBackWrongFalsely : Prop := eventBackRow.holds Try.pinned (OpenSpec.ofChange eventBackWrong)

/-- 'usherlaw15.BranchBack': WHATEVER THE INPUT: true; the input reads as it did. -/
def branchBackSpec : ChangeSpec := { name := "branchBack", fn := fun _ => fun
  | [d] => { results := [.lit (.bool true)], args := [d] }
  | _ => none }
def branchBackRow : OpenClaim := { program := "ytalbdoapcpgelaa", sum := "78cbddf48b6e6aeac078820bb3327d9e5ac3cad500fad00a5fb9d47b873e6432", func := "usher/usherlaw15.BranchBack", spec := "branchBack", unfollowed := true, recurses := true, loops := true, apart := false }
def BranchBackSaid : Prop := branchBackRow.holds Try.pinned (OpenSpec.ofChange branchBackSpec)

/-- ITS FALSE NEIGHBOUR: 'it returns false'. Refute it at one input. -/
def branchBackWrong : ChangeSpec := { name := "branchBack", fn := fun _ => fun
  | [d] => { results := [.lit (.bool false)], args := [d] }
  | _ => none }
def BranchBackWrongFalsely : Prop := branchBackRow.holds Try.pinned (OpenSpec.ofChange branchBackWrong)

/- THE SECOND FORM. 'bulk': how many values and letters a reading holds, each counted each time it is reached (what is shared counts as often as it is met; a slice's spare places count too). A statement '..UptoSaid' is the law's where the arguments, and the package variables that the reading takes, are together of bulk at most 1048576: NARROWER than '..Said'. Prove '..Said' where nothing that the law and all that it calls make is longer than what came in: it says more and counts as full. Else prove '..UptoSaid'. A law counts once. -/
mutual
def uptoBulk {H : Type} : DataW H → Nat
  | .lit (.string bytes) => bytes.length + 1
  | .lit _ => 1
  | .nil => 1
  | .ptr d => uptoBulk d + 1
  | .slice elems spare => uptoBulkAll elems + uptoBulkAll spare + 1
  | .agg parts => uptoBulkAll parts + 1
  | .iface _ d => uptoBulk d + 1
  | .map entries => uptoBulkEntries entries + 1
  | .held _ => 1
def uptoBulkAll {H : Type} : List (DataW H) → Nat
  | [] => 0
  | d :: r => uptoBulk d + uptoBulkAll r
def uptoBulkEntries {H : Type} : List (Lit × DataW H) → Nat
  | [] => 0
  | x :: r => uptoBulkEntry x + uptoBulkEntries r
def uptoBulkEntry {H : Type} : Lit × DataW H → Nat
  | (.string bytes, d) => bytes.length + uptoBulk d + 1
  | (_, d) => uptoBulk d + 1
 end
def uptoSmall : (H : Type) → List (DataW H) → Bool := fun _ ds => decide (uptoBulkAll ds ≤ 1048576)
def OpenSpec.upto (s : _root_.Go.ChangeSpec) : _root_.Go.OpenSpec := { _root_.Go.OpenSpec.ofChange s with cond := some uptoSmall }

/-- 'usherlaw15.BranchAfter', WHERE WHAT IT READS IS OF BULK AT MOST 1048576: true; the input reads as it did. -/
def branchAfterUptoRow : OpenClaim := { program := "ytalbdoapcpgelaa", sum := "78cbddf48b6e6aeac078820bb3327d9e5ac3cad500fad00a5fb9d47b873e6432", func := "usher/usherlaw15.BranchAfter", spec := "branchAfter", unfollowed := true, recurses := true, loops := true, apart := false, narrowed := true }
def BranchAfterUptoSaid : Prop := branchAfterUptoRow.holds Try.pinned (OpenSpec.upto branchAfterSpec)

/-- 'usherlaw15.BranchForks', WHERE WHAT IT READS IS OF BULK AT MOST 1048576: true; the input reads as it did. -/
def branchForksUptoRow : OpenClaim := { program := "ytalbdoapcpgelaa", sum := "78cbddf48b6e6aeac078820bb3327d9e5ac3cad500fad00a5fb9d47b873e6432", func := "usher/usherlaw15.BranchForks", spec := "branchForks", unfollowed := true, recurses := true, loops := true, apart := false, narrowed := true }
def BranchForksUptoSaid : Prop := branchForksUptoRow.holds Try.pinned (OpenSpec.upto branchForksSpec)

/-- 'usherlaw15.BranchFinds', WHERE WHAT IT READS IS OF BULK AT MOST 1048576: true; the input reads as it did. -/
def branchFindsUptoRow : OpenClaim := { program := "ytalbdoapcpgelaa", sum := "78cbddf48b6e6aeac078820bb3327d9e5ac3cad500fad00a5fb9d47b873e6432", func := "usher/usherlaw15.BranchFinds", spec := "branchFinds", unfollowed := true, recurses := true, loops := true, apart := false, narrowed := true }
def BranchFindsUptoSaid : Prop := branchFindsUptoRow.holds Try.pinned (OpenSpec.upto branchFindsSpec)

/-- 'usherlaw08.SegmentFrames', WHERE WHAT IT READS IS OF BULK AT MOST 1048576: true; the input reads as it did. -/
def segmentFramesUptoRow : OpenClaim := { program := "ytalbdoapcpgelaa", sum := "78cbddf48b6e6aeac078820bb3327d9e5ac3cad500fad00a5fb9d47b873e6432", func := "usher/usherlaw08.SegmentFrames", spec := "segmentFrames", unfollowed := true, recurses := true, apart := false, narrowed := true }
def SegmentFramesUptoSaid : Prop := segmentFramesUptoRow.holds Try.pinned (OpenSpec.upto segmentFramesSpec)

/-- 'usherlaw08.SegmentParses', WHERE WHAT IT READS IS OF BULK AT MOST 1048576: true; the input reads as it did. -/
def segmentParsesUptoRow : OpenClaim := { program := "ytalbdoapcpgelaa", sum := "78cbddf48b6e6aeac078820bb3327d9e5ac3cad500fad00a5fb9d47b873e6432", func := "usher/usherlaw08.SegmentParses", spec := "segmentParses", unfollowed := true, recurses := true, apart := false, narrowed := true }
def SegmentParsesUptoSaid : Prop := segmentParsesUptoRow.holds Try.pinned (OpenSpec.upto segmentParsesSpec)

/-- 'usherlaw08.SegmentBack', WHERE WHAT IT READS IS OF BULK AT MOST 1048576: true; the input reads as it did. -/
def segmentBackUptoRow : OpenClaim := { program := "ytalbdoapcpgelaa", sum := "78cbddf48b6e6aeac078820bb3327d9e5ac3cad500fad00a5fb9d47b873e6432", func := "usher/usherlaw08.SegmentBack", spec := "segmentBack", unfollowed := true, recurses := true, apart := false, narrowed := true }
def SegmentBackUptoSaid : Prop := segmentBackUptoRow.holds Try.pinned (OpenSpec.upto segmentBackSpec)

/-- 'usherlaw08.SegmentChains', WHERE WHAT IT READS IS OF BULK AT MOST 1048576: true; the input reads as it did. -/
def segmentChainsUptoRow : OpenClaim := { program := "ytalbdoapcpgelaa", sum := "78cbddf48b6e6aeac078820bb3327d9e5ac3cad500fad00a5fb9d47b873e6432", func := "usher/usherlaw08.SegmentChains", spec := "segmentChains", unfollowed := true, recurses := true, apart := false, narrowed := true }
def SegmentChainsUptoSaid : Prop := segmentChainsUptoRow.holds Try.pinned (OpenSpec.upto segmentChainsSpec)

/-- 'usherlaw14.EventWords', WHERE WHAT IT READS IS OF BULK AT MOST 1048576: true; the input reads as it did. -/
def eventWordsUptoRow : OpenClaim := { program := "ytalbdoapcpgelaa", sum := "78cbddf48b6e6aeac078820bb3327d9e5ac3cad500fad00a5fb9d47b873e6432", func := "usher/usherlaw14.EventWords", spec := "eventWords", recurses := true, apart := false, narrowed := true }
def EventWordsUptoSaid : Prop := eventWordsUptoRow.holds Try.pinned (OpenSpec.upto eventWordsSpec)

/-- 'usherlaw14.EventChecks', WHERE WHAT IT READS IS OF BULK AT MOST 1048576: true; the input reads as it did. -/
def eventChecksUptoRow : OpenClaim := { program := "ytalbdoapcpgelaa", sum := "78cbddf48b6e6aeac078820bb3327d9e5ac3cad500fad00a5fb9d47b873e6432", func := "usher/usherlaw14.EventChecks", spec := "eventChecks", inPlace := ["math.Float64frombits"], recurses := true, loops := true, apart := false, narrowed := true }
def EventChecksUptoSaid : Prop := eventChecksUptoRow.holds Try.pinned (OpenSpec.upto eventChecksSpec)

/-- 'usherlaw14.EventBack', WHERE WHAT IT READS IS OF BULK AT MOST 1048576: true; the input reads as it did. -/
def eventBackUptoRow : OpenClaim := { program := "ytalbdoapcpgelaa", sum := "78cbddf48b6e6aeac078820bb3327d9e5ac3cad500fad00a5fb9d47b873e6432", func := "usher/usherlaw14.EventBack", spec := "eventBack", recurses := true, loops := true, apart := false, narrowed := true }
def EventBackUptoSaid : Prop := eventBackUptoRow.holds Try.pinned (OpenSpec.upto eventBackSpec)

/-- 'usherlaw15.BranchBack', WHERE WHAT IT READS IS OF BULK AT MOST 1048576: true; the input reads as it did. -/
def branchBackUptoRow : OpenClaim := { program := "ytalbdoapcpgelaa", sum := "78cbddf48b6e6aeac078820bb3327d9e5ac3cad500fad00a5fb9d47b873e6432", func := "usher/usherlaw15.BranchBack", spec := "branchBack", unfollowed := true, recurses := true, loops := true, apart := false, narrowed := true }
def BranchBackUptoSaid : Prop := branchBackUptoRow.holds Try.pinned (OpenSpec.upto branchBackSpec)

end Rows
end Go.Proofs.Ytalbdoapcpgelaa
