/-
  NARROWER THAN 'FOR EVERY INPUT', by the rows' own cells (each row's printed sentence says how): ValueOwn: loops · ValueMakes: loops · ValueOrders: loops · ValueTotal: loops · ValueBack: loops.
  DERIVED. THE GIVEN ROWS OF THIS SEAT. 12 by the template 'for every input the law returns true; each argument reads behind the call as it read before'; 0 by the template 'total and deterministic' (their statements: YtlodbaikbgbhjaaTotals.lean).
  GIVEN WITH THE SEED: the statements are not yours to turn. If you find one false, say at which input.
  Laid BY PROGRAM, IN A SANDBOX (cutbox-rows.mjs): the forced cells as the released guide's own fill.sh prints them over the translation ab61aa4c3fb33f2a… (all of the seat's roots in one cut). By AI agents, Wed Nov 11 2026. No macro, syntax, notation, axiom, sorry.
-/
import Derived.Test.YtlodbaikbgbhjaaChecked
import GoSem.Claim
import GoSem.ClaimJoined
import GoSem.ClaimMapViews
import Derived.JoinedTies
import Derived.KernelRfl
namespace Go.Proofs.Ytlodbaikbgbhjaa
/- THE CELL 'sum', in the pinned program and in every row, IS THE sha256 OF THE DUMP (.gsa) THAT YtlodbaikbgbhjaaProg.lean LOADS. Nothing in Lean hashes anything: it is a label: what it is worth is what the hold of that sum in a sandbox is worth. -/
noncomputable def Try.pinned : Pinned := { name := "ytlodbaikbgbhjaa", sum := "ab61aa4c3fb33f2ac934335b4ce19fafe079fe323597c24258ccddcc53a64b0d", checked := Try.checked }
namespace Rows
def none {H : Type} : Left H := { results := [], args := [] }

/-- 'usherlaw05.ValueOwn': WHATEVER THE INPUT: true; the input reads as it did. -/
def valueOwnSpec : ChangeSpec := { name := "valueOwn", fn := fun _ => fun
  | [d] => { results := [.lit (.bool true)], args := [d] }
  | _ => none }
def valueOwnRow : OpenClaim := { program := "ytlodbaikbgbhjaa", sum := "ab61aa4c3fb33f2ac934335b4ce19fafe079fe323597c24258ccddcc53a64b0d", func := "usher/usherlaw05.ValueOwn", spec := "valueOwn", recurses := true, loops := true, apart := false }
def ValueOwnSaid : Prop := valueOwnRow.holds Try.pinned (OpenSpec.ofChange valueOwnSpec)

/-- ITS FALSE NEIGHBOUR: 'it returns false'. Refute it at one input. -/
def valueOwnWrong : ChangeSpec := { name := "valueOwn", fn := fun _ => fun
  | [d] => { results := [.lit (.bool false)], args := [d] }
  | _ => none }
def ValueOwnWrongFalsely : Prop := valueOwnRow.holds Try.pinned (OpenSpec.ofChange valueOwnWrong)

/-- 'usherlaw05.ValueMakes': WHATEVER THE INPUT: true; the input reads as it did. -/
def valueMakesSpec : ChangeSpec := { name := "valueMakes", fn := fun _ => fun
  | [d1, d2, d3, d4, d5] => { results := [.lit (.bool true)], args := [d1, d2, d3, d4, d5] }
  | _ => none }
def valueMakesRow : OpenClaim := { program := "ytlodbaikbgbhjaa", sum := "ab61aa4c3fb33f2ac934335b4ce19fafe079fe323597c24258ccddcc53a64b0d", func := "usher/usherlaw05.ValueMakes", spec := "valueMakes", inPlace := ["math.Float64frombits"], recurses := true, loops := true, apart := false }
def ValueMakesSaid : Prop := valueMakesRow.holds Try.pinned (OpenSpec.ofChange valueMakesSpec)

/-- ITS FALSE NEIGHBOUR: 'it returns false'. Refute it at one input. -/
def valueMakesWrong : ChangeSpec := { name := "valueMakes", fn := fun _ => fun
  | [d1, d2, d3, d4, d5] => { results := [.lit (.bool false)], args := [d1, d2, d3, d4, d5] }
  | _ => none }
def ValueMakesWrongFalsely : Prop := valueMakesRow.holds Try.pinned (OpenSpec.ofChange valueMakesWrong)

/-- 'usherlaw05.ValueOrders': WHATEVER THE INPUT: true; the input reads as it did. -/
def valueOrdersSpec : ChangeSpec := { name := "valueOrders", fn := fun _ => fun
  | [d1, d2] => { results := [.lit (.bool true)], args := [d1, d2] }
  | _ => none }
def valueOrdersRow : OpenClaim := { program := "ytlodbaikbgbhjaa", sum := "ab61aa4c3fb33f2ac934335b4ce19fafe079fe323597c24258ccddcc53a64b0d", func := "usher/usherlaw05.ValueOrders", spec := "valueOrders", inPlace := ["internal/bytealg.abigen_runtime_cmpstring", "math.Float64frombits"], recurses := true, loops := true, apart := false }
def ValueOrdersSaid : Prop := valueOrdersRow.holds Try.pinned (OpenSpec.ofChange valueOrdersSpec)

/-- ITS FALSE NEIGHBOUR: 'it returns false'. Refute it at one input. -/
def valueOrdersWrong : ChangeSpec := { name := "valueOrders", fn := fun _ => fun
  | [d1, d2] => { results := [.lit (.bool false)], args := [d1, d2] }
  | _ => none }
def ValueOrdersWrongFalsely : Prop := valueOrdersRow.holds Try.pinned (OpenSpec.ofChange valueOrdersWrong)

/-- 'usherlaw10.BatchGoes': WHATEVER THE INPUT: true; the input reads as it did. -/
def batchGoesSpec : ChangeSpec := { name := "batchGoes", fn := fun _ => fun
  | [d1, d2] => { results := [.lit (.bool true)], args := [d1, d2] }
  | _ => none }
def batchGoesRow : OpenClaim := { program := "ytlodbaikbgbhjaa", sum := "ab61aa4c3fb33f2ac934335b4ce19fafe079fe323597c24258ccddcc53a64b0d", func := "usher/usherlaw10.BatchGoes", spec := "batchGoes", unfollowed := true, recurses := true, apart := false }
def BatchGoesSaid : Prop := batchGoesRow.holds Try.pinned (OpenSpec.ofChange batchGoesSpec)

/-- ITS FALSE NEIGHBOUR: 'it returns false'. Refute it at one input. -/
def batchGoesWrong : ChangeSpec := { name := "batchGoes", fn := fun _ => fun
  | [d1, d2] => { results := [.lit (.bool false)], args := [d1, d2] }
  | _ => none }
def BatchGoesWrongFalsely : Prop := batchGoesRow.holds Try.pinned (OpenSpec.ofChange batchGoesWrong)

/-- 'usherlaw05.ValueTotal': WHATEVER THE INPUT: true; the input reads as it did. -/
def valueTotalSpec : ChangeSpec := { name := "valueTotal", fn := fun _ => fun
  | [d1, d2, d3] => { results := [.lit (.bool true)], args := [d1, d2, d3] }
  | _ => none }
def valueTotalRow : OpenClaim := { program := "ytlodbaikbgbhjaa", sum := "ab61aa4c3fb33f2ac934335b4ce19fafe079fe323597c24258ccddcc53a64b0d", func := "usher/usherlaw05.ValueTotal", spec := "valueTotal", inPlace := ["internal/bytealg.abigen_runtime_cmpstring"], recurses := true, loops := true, apart := false }
def ValueTotalSaid : Prop := valueTotalRow.holds Try.pinned (OpenSpec.ofChange valueTotalSpec)

/-- ITS FALSE NEIGHBOUR: 'it returns false'. Refute it at one input. -/
def valueTotalWrong : ChangeSpec := { name := "valueTotal", fn := fun _ => fun
  | [d1, d2, d3] => { results := [.lit (.bool false)], args := [d1, d2, d3] }
  | _ => none }
def ValueTotalWrongFalsely : Prop := valueTotalRow.holds Try.pinned (OpenSpec.ofChange valueTotalWrong)

/-- 'usherlaw10.BatchCodes': WHATEVER THE INPUT: true; the input reads as it did. -/
def batchCodesSpec : ChangeSpec := { name := "batchCodes", fn := fun _ => fun
  | [d1, d2, d3] => { results := [.lit (.bool true)], args := [d1, d2, d3] }
  | _ => none }
def batchCodesRow : OpenClaim := { program := "ytlodbaikbgbhjaa", sum := "ab61aa4c3fb33f2ac934335b4ce19fafe079fe323597c24258ccddcc53a64b0d", func := "usher/usherlaw10.BatchCodes", spec := "batchCodes", unfollowed := true, recurses := true, apart := false }
def BatchCodesSaid : Prop := batchCodesRow.holds Try.pinned (OpenSpec.ofChange batchCodesSpec)

/-- ITS FALSE NEIGHBOUR: 'it returns false'. Refute it at one input. -/
def batchCodesWrong : ChangeSpec := { name := "batchCodes", fn := fun _ => fun
  | [d1, d2, d3] => { results := [.lit (.bool false)], args := [d1, d2, d3] }
  | _ => none }
def BatchCodesWrongFalsely : Prop := batchCodesRow.holds Try.pinned (OpenSpec.ofChange batchCodesWrong)

/-- 'usherlaw10.BatchBack': WHATEVER THE INPUT: true; the input reads as it did. -/
def batchBackSpec : ChangeSpec := { name := "batchBack", fn := fun _ => fun
  | [d1, d2] => { results := [.lit (.bool true)], args := [d1, d2] }
  | _ => none }
def batchBackRow : OpenClaim := { program := "ytlodbaikbgbhjaa", sum := "ab61aa4c3fb33f2ac934335b4ce19fafe079fe323597c24258ccddcc53a64b0d", func := "usher/usherlaw10.BatchBack", spec := "batchBack", unfollowed := true, recurses := true, apart := false }
def BatchBackSaid : Prop := batchBackRow.holds Try.pinned (OpenSpec.ofChange batchBackSpec)

/-- ITS FALSE NEIGHBOUR: 'it returns false'. Refute it at one input. -/
def batchBackWrong : ChangeSpec := { name := "batchBack", fn := fun _ => fun
  | [d1, d2] => { results := [.lit (.bool false)], args := [d1, d2] }
  | _ => none }
def BatchBackWrongFalsely : Prop := batchBackRow.holds Try.pinned (OpenSpec.ofChange batchBackWrong)

/-- 'usherlaw34.ScriptReads': WHATEVER THE INPUT: true; the input reads as it did. -/
def scriptReadsSpec : ChangeSpec := { name := "scriptReads", fn := fun _ => fun
  | [d1, d2] => { results := [.lit (.bool true)], args := [d1, d2] }
  | _ => none }
def scriptReadsRow : OpenClaim := { program := "ytlodbaikbgbhjaa", sum := "ab61aa4c3fb33f2ac934335b4ce19fafe079fe323597c24258ccddcc53a64b0d", func := "usher/usherlaw34.ScriptReads", spec := "scriptReads", unfollowed := true, recurses := true, apart := false }
def ScriptReadsSaid : Prop := scriptReadsRow.holds Try.pinned (OpenSpec.ofChange scriptReadsSpec)

/-- ITS FALSE NEIGHBOUR: 'it returns false'. Refute it at one input. -/
def scriptReadsWrong : ChangeSpec := { name := "scriptReads", fn := fun _ => fun
  | [d1, d2] => { results := [.lit (.bool false)], args := [d1, d2] }
  | _ => none }
def ScriptReadsWrongFalsely : Prop := scriptReadsRow.holds Try.pinned (OpenSpec.ofChange scriptReadsWrong)

/-- 'usherlaw34.ScriptSame': WHATEVER THE INPUT: true; the input reads as it did. -/
def scriptSameSpec : ChangeSpec := { name := "scriptSame", fn := fun _ => fun
  | [d1, d2] => { results := [.lit (.bool true)], args := [d1, d2] }
  | _ => none }
def scriptSameRow : OpenClaim := { program := "ytlodbaikbgbhjaa", sum := "ab61aa4c3fb33f2ac934335b4ce19fafe079fe323597c24258ccddcc53a64b0d", func := "usher/usherlaw34.ScriptSame", spec := "scriptSame", unfollowed := true, recurses := true, apart := false }
def ScriptSameSaid : Prop := scriptSameRow.holds Try.pinned (OpenSpec.ofChange scriptSameSpec)

/-- ITS FALSE NEIGHBOUR: 'it returns false'. Refute it at one input. -/
def scriptSameWrong : ChangeSpec := { name := "scriptSame", fn := fun _ => fun
  | [d1, d2] => { results := [.lit (.bool false)], args := [d1, d2] }
  | _ => none }
def ScriptSameWrongFalsely : Prop := scriptSameRow.holds Try.pinned (OpenSpec.ofChange scriptSameWrong)

/-- 'usherlaw34.ScriptBack': WHATEVER THE INPUT: true; the input reads as it did. -/
def scriptBackSpec : ChangeSpec := { name := "scriptBack", fn := fun _ => fun
  | [d] => { results := [.lit (.bool true)], args := [d] }
  | _ => none }
def scriptBackRow : OpenClaim := { program := "ytlodbaikbgbhjaa", sum := "ab61aa4c3fb33f2ac934335b4ce19fafe079fe323597c24258ccddcc53a64b0d", func := "usher/usherlaw34.ScriptBack", spec := "scriptBack", unfollowed := true, recurses := true, apart := false }
def ScriptBackSaid : Prop := scriptBackRow.holds Try.pinned (OpenSpec.ofChange scriptBackSpec)

/-- ITS FALSE NEIGHBOUR: 'it returns false'. Refute it at one input. -/
def scriptBackWrong : ChangeSpec := { name := "scriptBack", fn := fun _ => fun
  | [d] => { results := [.lit (.bool false)], args := [d] }
  | _ => none }
def ScriptBackWrongFalsely : Prop := scriptBackRow.holds Try.pinned (OpenSpec.ofChange scriptBackWrong)

/-- 'usherlaw05.ValueBack': WHATEVER THE INPUT: true; the input reads as it did. -/
def valueBackSpec : ChangeSpec := { name := "valueBack", fn := fun _ => fun
  | [d1, d2] => { results := [.lit (.bool true)], args := [d1, d2] }
  | _ => none }
def valueBackRow : OpenClaim := { program := "ytlodbaikbgbhjaa", sum := "ab61aa4c3fb33f2ac934335b4ce19fafe079fe323597c24258ccddcc53a64b0d", func := "usher/usherlaw05.ValueBack", spec := "valueBack", recurses := true, loops := true, apart := false }
def ValueBackSaid : Prop := valueBackRow.holds Try.pinned (OpenSpec.ofChange valueBackSpec)

/-- ITS FALSE NEIGHBOUR: 'it returns false'. Refute it at one input. -/
def valueBackWrong : ChangeSpec := { name := "valueBack", fn := fun _ => fun
  | [d1, d2] => { results := [.lit (.bool false)], args := [d1, d2] }
  | _ => none }
def ValueBackWrongFalsely : Prop := valueBackRow.holds Try.pinned (OpenSpec.ofChange valueBackWrong)

/-- 'usherlaw34.ScriptAny': WHATEVER THE INPUT: true; the input reads as it did. -/
def scriptAnySpec : ChangeSpec := { name := "scriptAny", fn := fun _ => fun
  | [d1, d2] => { results := [.lit (.bool true)], args := [d1, d2] }
  | _ => none }
def scriptAnyRow : OpenClaim := { program := "ytlodbaikbgbhjaa", sum := "ab61aa4c3fb33f2ac934335b4ce19fafe079fe323597c24258ccddcc53a64b0d", func := "usher/usherlaw34.ScriptAny", spec := "scriptAny", unfollowed := true, recurses := true, apart := false }
def ScriptAnySaid : Prop := scriptAnyRow.holds Try.pinned (OpenSpec.ofChange scriptAnySpec)

/-- ITS FALSE NEIGHBOUR: 'it returns false'. Refute it at one input. -/
def scriptAnyWrong : ChangeSpec := { name := "scriptAny", fn := fun _ => fun
  | [d1, d2] => { results := [.lit (.bool false)], args := [d1, d2] }
  | _ => none }
def ScriptAnyWrongFalsely : Prop := scriptAnyRow.holds Try.pinned (OpenSpec.ofChange scriptAnyWrong)

/- THE SECOND FORM. 'bulk': how many values and letters a reading holds, each counted each time it is reached (what is shared counts as often as it is met; a slice's spare places count too). A statement '..UptoSaid' is the law's where the arguments, and the package variables that the reading takes, are together of bulk at most 1048576: NARROWER than '..Said'. Prove '..Said' where nothing that the law and all that it calls make is longer than what came in: it says more and counts as full. Else prove '..UptoSaid'. A law counts once. -/
mutual
def uptoBulk {H : Type} : DataW H → Nat
  | .lit (.string bytes) => bytes.length + 1
  | .lit _ => 1
  | .nil => 1
  | .ptr d => uptoBulk d + 1
  | .slice elems spare => uptoBulkAll elems + uptoBulkAll spare + 1
  | .agg parts => uptoBulkAll parts + 1
  | .iface _ d => uptoBulk d + 1
  | .map entries => uptoBulkEntries entries + 1
  | .held _ => 1
def uptoBulkAll {H : Type} : List (DataW H) → Nat
  | [] => 0
  | d :: r => uptoBulk d + uptoBulkAll r
def uptoBulkEntries {H : Type} : List (Lit × DataW H) → Nat
  | [] => 0
  | x :: r => uptoBulkEntry x + uptoBulkEntries r
def uptoBulkEntry {H : Type} : Lit × DataW H → Nat
  | (.string bytes, d) => bytes.length + uptoBulk d + 1
  | (_, d) => uptoBulk d + 1
 end
def uptoSmall : (H : Type) → List (DataW H) → Bool := fun _ ds => decide (uptoBulkAll ds ≤ 1048576)
def OpenSpec.upto (s : _root_.Go.ChangeSpec) : _root_.Go.OpenSpec := { _root_.Go.OpenSpec.ofChange s with cond := some uptoSmall }

/-- 'usherlaw05.ValueOwn', WHERE WHAT IT READS IS OF BULK AT MOST 1048576: true; the input reads as it did. -/
def valueOwnUptoRow : OpenClaim := { program := "ytlodbaikbgbhjaa", sum := "ab61aa4c3fb33f2ac934335b4ce19fafe079fe323597c24258ccddcc53a64b0d", func := "usher/usherlaw05.ValueOwn", spec := "valueOwn", recurses := true, loops := true, apart := false, narrowed := true }
def ValueOwnUptoSaid : Prop := valueOwnUptoRow.holds Try.pinned (OpenSpec.upto valueOwnSpec)

/-- 'usherlaw05.ValueMakes', WHERE WHAT IT READS IS OF BULK AT MOST 1048576: true; the input reads as it did. -/
def valueMakesUptoRow : OpenClaim := { program := "ytlodbaikbgbhjaa", sum := "ab61aa4c3fb33f2ac934335b4ce19fafe079fe323597c24258ccddcc53a64b0d", func := "usher/usherlaw05.ValueMakes", spec := "valueMakes", inPlace := ["math.Float64frombits"], recurses := true, loops := true, apart := false, narrowed := true }
def ValueMakesUptoSaid : Prop := valueMakesUptoRow.holds Try.pinned (OpenSpec.upto valueMakesSpec)

/-- 'usherlaw05.ValueOrders', WHERE WHAT IT READS IS OF BULK AT MOST 1048576: true; the input reads as it did. -/
def valueOrdersUptoRow : OpenClaim := { program := "ytlodbaikbgbhjaa", sum := "ab61aa4c3fb33f2ac934335b4ce19fafe079fe323597c24258ccddcc53a64b0d", func := "usher/usherlaw05.ValueOrders", spec := "valueOrders", inPlace := ["internal/bytealg.abigen_runtime_cmpstring", "math.Float64frombits"], recurses := true, loops := true, apart := false, narrowed := true }
def ValueOrdersUptoSaid : Prop := valueOrdersUptoRow.holds Try.pinned (OpenSpec.upto valueOrdersSpec)

/-- 'usherlaw10.BatchGoes', WHERE WHAT IT READS IS OF BULK AT MOST 1048576: true; the input reads as it did. -/
def batchGoesUptoRow : OpenClaim := { program := "ytlodbaikbgbhjaa", sum := "ab61aa4c3fb33f2ac934335b4ce19fafe079fe323597c24258ccddcc53a64b0d", func := "usher/usherlaw10.BatchGoes", spec := "batchGoes", unfollowed := true, recurses := true, apart := false, narrowed := true }
def BatchGoesUptoSaid : Prop := batchGoesUptoRow.holds Try.pinned (OpenSpec.upto batchGoesSpec)

/-- 'usherlaw05.ValueTotal', WHERE WHAT IT READS IS OF BULK AT MOST 1048576: true; the input reads as it did. -/
def valueTotalUptoRow : OpenClaim := { program := "ytlodbaikbgbhjaa", sum := "ab61aa4c3fb33f2ac934335b4ce19fafe079fe323597c24258ccddcc53a64b0d", func := "usher/usherlaw05.ValueTotal", spec := "valueTotal", inPlace := ["internal/bytealg.abigen_runtime_cmpstring"], recurses := true, loops := true, apart := false, narrowed := true }
def ValueTotalUptoSaid : Prop := valueTotalUptoRow.holds Try.pinned (OpenSpec.upto valueTotalSpec)

/-- 'usherlaw10.BatchCodes', WHERE WHAT IT READS IS OF BULK AT MOST 1048576: true; the input reads as it did. -/
def batchCodesUptoRow : OpenClaim := { program := "ytlodbaikbgbhjaa", sum := "ab61aa4c3fb33f2ac934335b4ce19fafe079fe323597c24258ccddcc53a64b0d", func := "usher/usherlaw10.BatchCodes", spec := "batchCodes", unfollowed := true, recurses := true, apart := false, narrowed := true }
def BatchCodesUptoSaid : Prop := batchCodesUptoRow.holds Try.pinned (OpenSpec.upto batchCodesSpec)

/-- 'usherlaw10.BatchBack', WHERE WHAT IT READS IS OF BULK AT MOST 1048576: true; the input reads as it did. -/
def batchBackUptoRow : OpenClaim := { program := "ytlodbaikbgbhjaa", sum := "ab61aa4c3fb33f2ac934335b4ce19fafe079fe323597c24258ccddcc53a64b0d", func := "usher/usherlaw10.BatchBack", spec := "batchBack", unfollowed := true, recurses := true, apart := false, narrowed := true }
def BatchBackUptoSaid : Prop := batchBackUptoRow.holds Try.pinned (OpenSpec.upto batchBackSpec)

/-- 'usherlaw34.ScriptReads', WHERE WHAT IT READS IS OF BULK AT MOST 1048576: true; the input reads as it did. -/
def scriptReadsUptoRow : OpenClaim := { program := "ytlodbaikbgbhjaa", sum := "ab61aa4c3fb33f2ac934335b4ce19fafe079fe323597c24258ccddcc53a64b0d", func := "usher/usherlaw34.ScriptReads", spec := "scriptReads", unfollowed := true, recurses := true, apart := false, narrowed := true }
def ScriptReadsUptoSaid : Prop := scriptReadsUptoRow.holds Try.pinned (OpenSpec.upto scriptReadsSpec)

/-- 'usherlaw34.ScriptSame', WHERE WHAT IT READS IS OF BULK AT MOST 1048576: true; the input reads as it did. -/
def scriptSameUptoRow : OpenClaim := { program := "ytlodbaikbgbhjaa", sum := "ab61aa4c3fb33f2ac934335b4ce19fafe079fe323597c24258ccddcc53a64b0d", func := "usher/usherlaw34.ScriptSame", spec := "scriptSame", unfollowed := true, recurses := true, apart := false, narrowed := true }
def ScriptSameUptoSaid : Prop := scriptSameUptoRow.holds Try.pinned (OpenSpec.upto scriptSameSpec)

/-- 'usherlaw34.ScriptBack', WHERE WHAT IT READS IS OF BULK AT MOST 1048576: true; the input reads as it did. -/
def scriptBackUptoRow : OpenClaim := { program := "ytlodbaikbgbhjaa", sum := "ab61aa4c3fb33f2ac934335b4ce19fafe079fe323597c24258ccddcc53a64b0d", func := "usher/usherlaw34.ScriptBack", spec := "scriptBack", unfollowed := true, recurses := true, apart := false, narrowed := true }
def ScriptBackUptoSaid : Prop := scriptBackUptoRow.holds Try.pinned (OpenSpec.upto scriptBackSpec)

/-- 'usherlaw05.ValueBack', WHERE WHAT IT READS IS OF BULK AT MOST 1048576: true; the input reads as it did. -/
def valueBackUptoRow : OpenClaim := { program := "ytlodbaikbgbhjaa", sum := "ab61aa4c3fb33f2ac934335b4ce19fafe079fe323597c24258ccddcc53a64b0d", func := "usher/usherlaw05.ValueBack", spec := "valueBack", recurses := true, loops := true, apart := false, narrowed := true }
def ValueBackUptoSaid : Prop := valueBackUptoRow.holds Try.pinned (OpenSpec.upto valueBackSpec)

/-- 'usherlaw34.ScriptAny', WHERE WHAT IT READS IS OF BULK AT MOST 1048576: true; the input reads as it did. -/
def scriptAnyUptoRow : OpenClaim := { program := "ytlodbaikbgbhjaa", sum := "ab61aa4c3fb33f2ac934335b4ce19fafe079fe323597c24258ccddcc53a64b0d", func := "usher/usherlaw34.ScriptAny", spec := "scriptAny", unfollowed := true, recurses := true, apart := false, narrowed := true }
def ScriptAnyUptoSaid : Prop := scriptAnyUptoRow.holds Try.pinned (OpenSpec.upto scriptAnySpec)

end Rows
end Go.Proofs.Ytlodbaikbgbhjaa
