/-
  NARROWER THAN 'FOR EVERY INPUT', by the rows' own cells (each row's printed sentence says how): FnExactQueryDepth: loops · FnExactWraps: loops · FnExactWrapsIn: loops · FnExactStmtSize: loops · FnExactStmtDepth: loops · FnExactExprOk: loops · FnExactQueryOk: loops · FnExactTablesIn: loops · FnExactExprsOf: loops.
  DERIVED. THE GIVEN ROWS OF THIS SEAT. 11 by the template 'for every input the law returns true; each argument reads behind the call as it read before'; 0 by the template 'total and deterministic' (their statements: YtdiknmniclancaaTotals.lean).
  GIVEN WITH THE SEED: the statements are not yours to turn. If you find one false, say at which input.
  Laid BY PROGRAM, IN A SANDBOX (cutbox-rows.mjs): the forced cells as the released guide's own fill.sh prints them over the translation 6997f815e2e71fbf… (all of the seat's roots in one cut). By AI agents, Wed Nov 11 2026. No macro, syntax, notation, axiom, sorry.
-/
import Derived.Test.YtdiknmniclancaaChecked
import GoSem.Claim
import GoSem.ClaimJoined
import GoSem.ClaimMapViews
import Derived.JoinedTies
import Derived.KernelRfl
namespace Go.Proofs.Ytdiknmniclancaa
/- THE CELL 'sum', in the pinned program and in every row, IS THE sha256 OF THE DUMP (.gsa) THAT YtdiknmniclancaaProg.lean LOADS. Nothing in Lean hashes anything: it is a label: what it is worth is what the hold of that sum in a sandbox is worth. -/
noncomputable def Try.pinned : Pinned := { name := "ytdiknmniclancaa", sum := "6997f815e2e71fbffa693f48062862d9d23f3e5a2128b42084c1056332e4e675", checked := Try.checked }
namespace Rows
def none {H : Type} : Left H := { results := [], args := [] }

/-- 'laws.FnExactQueryDepth': WHATEVER THE INPUT: true; the input reads as it did. -/
def fnExactQueryDepthSpec : ChangeSpec := { name := "fnExactQueryDepth", fn := fun _ => fun
  | [d] => { results := [.lit (.bool true)], args := [d] }
  | _ => none }
def fnExactQueryDepthRow : OpenClaim := { program := "ytdiknmniclancaa", sum := "6997f815e2e71fbffa693f48062862d9d23f3e5a2128b42084c1056332e4e675", func := "loop.example/g00495/laws.FnExactQueryDepth", spec := "fnExactQueryDepth", recurses := true, loops := true, apart := false }
def FnExactQueryDepthSaid : Prop := fnExactQueryDepthRow.holds Try.pinned (OpenSpec.ofChange fnExactQueryDepthSpec)

/-- ITS FALSE NEIGHBOUR: 'it returns false'. Refute it at one input. -/
def fnExactQueryDepthWrong : ChangeSpec := { name := "fnExactQueryDepth", fn := fun _ => fun
  | [d] => { results := [.lit (.bool false)], args := [d] }
  | _ => none }
def FnExactQueryDepthWrongFalsely : Prop := fnExactQueryDepthRow.holds Try.pinned (OpenSpec.ofChange fnExactQueryDepthWrong)

/-- 'laws.FnExactWraps': WHATEVER THE INPUT: true; the input reads as it did. -/
def fnExactWrapsSpec : ChangeSpec := { name := "fnExactWraps", fn := fun _ => fun
  | [d] => { results := [.lit (.bool true)], args := [d] }
  | _ => none }
def fnExactWrapsRow : OpenClaim := { program := "ytdiknmniclancaa", sum := "6997f815e2e71fbffa693f48062862d9d23f3e5a2128b42084c1056332e4e675", func := "loop.example/g00495/laws.FnExactWraps", spec := "fnExactWraps", recurses := true, loops := true, apart := false }
def FnExactWrapsSaid : Prop := fnExactWrapsRow.holds Try.pinned (OpenSpec.ofChange fnExactWrapsSpec)

/-- ITS FALSE NEIGHBOUR: 'it returns false'. Refute it at one input. -/
def fnExactWrapsWrong : ChangeSpec := { name := "fnExactWraps", fn := fun _ => fun
  | [d] => { results := [.lit (.bool false)], args := [d] }
  | _ => none }
def FnExactWrapsWrongFalsely : Prop := fnExactWrapsRow.holds Try.pinned (OpenSpec.ofChange fnExactWrapsWrong)

/-- 'laws.FnExactWrapsIn': WHATEVER THE INPUT: true; the input reads as it did. -/
def fnExactWrapsInSpec : ChangeSpec := { name := "fnExactWrapsIn", fn := fun _ => fun
  | [d] => { results := [.lit (.bool true)], args := [d] }
  | _ => none }
def fnExactWrapsInRow : OpenClaim := { program := "ytdiknmniclancaa", sum := "6997f815e2e71fbffa693f48062862d9d23f3e5a2128b42084c1056332e4e675", func := "loop.example/g00495/laws.FnExactWrapsIn", spec := "fnExactWrapsIn", recurses := true, loops := true, apart := false }
def FnExactWrapsInSaid : Prop := fnExactWrapsInRow.holds Try.pinned (OpenSpec.ofChange fnExactWrapsInSpec)

/-- ITS FALSE NEIGHBOUR: 'it returns false'. Refute it at one input. -/
def fnExactWrapsInWrong : ChangeSpec := { name := "fnExactWrapsIn", fn := fun _ => fun
  | [d] => { results := [.lit (.bool false)], args := [d] }
  | _ => none }
def FnExactWrapsInWrongFalsely : Prop := fnExactWrapsInRow.holds Try.pinned (OpenSpec.ofChange fnExactWrapsInWrong)

/-- 'laws.FnParts': WHATEVER THE INPUT: true; the input reads as it did. -/
def fnPartsSpec : ChangeSpec := { name := "fnParts", fn := fun _ => fun
  | [d] => { results := [.lit (.bool true)], args := [d] }
  | _ => none }
def fnPartsRow : OpenClaim := { program := "ytdiknmniclancaa", sum := "6997f815e2e71fbffa693f48062862d9d23f3e5a2128b42084c1056332e4e675", func := "loop.example/g00495/laws.FnParts", spec := "fnParts", unfollowed := true, recurses := true, apart := false }
def FnPartsSaid : Prop := fnPartsRow.holds Try.pinned (OpenSpec.ofChange fnPartsSpec)

/-- ITS FALSE NEIGHBOUR: 'it returns false'. Refute it at one input. -/
def fnPartsWrong : ChangeSpec := { name := "fnParts", fn := fun _ => fun
  | [d] => { results := [.lit (.bool false)], args := [d] }
  | _ => none }
def FnPartsWrongFalsely : Prop := fnPartsRow.holds Try.pinned (OpenSpec.ofChange fnPartsWrong)

/-- 'laws.FnExactStmtSize': WHATEVER THE INPUT: true; the input reads as it did. -/
def fnExactStmtSizeSpec : ChangeSpec := { name := "fnExactStmtSize", fn := fun _ => fun
  | [d] => { results := [.lit (.bool true)], args := [d] }
  | _ => none }
def fnExactStmtSizeRow : OpenClaim := { program := "ytdiknmniclancaa", sum := "6997f815e2e71fbffa693f48062862d9d23f3e5a2128b42084c1056332e4e675", func := "loop.example/g00495/laws.FnExactStmtSize", spec := "fnExactStmtSize", recurses := true, loops := true, apart := false }
def FnExactStmtSizeSaid : Prop := fnExactStmtSizeRow.holds Try.pinned (OpenSpec.ofChange fnExactStmtSizeSpec)

/-- ITS FALSE NEIGHBOUR: 'it returns false'. Refute it at one input. -/
def fnExactStmtSizeWrong : ChangeSpec := { name := "fnExactStmtSize", fn := fun _ => fun
  | [d] => { results := [.lit (.bool false)], args := [d] }
  | _ => none }
def FnExactStmtSizeWrongFalsely : Prop := fnExactStmtSizeRow.holds Try.pinned (OpenSpec.ofChange fnExactStmtSizeWrong)

/-- 'laws.FnExactStmtDepth': WHATEVER THE INPUT: true; the input reads as it did. -/
def fnExactStmtDepthSpec : ChangeSpec := { name := "fnExactStmtDepth", fn := fun _ => fun
  | [d] => { results := [.lit (.bool true)], args := [d] }
  | _ => none }
def fnExactStmtDepthRow : OpenClaim := { program := "ytdiknmniclancaa", sum := "6997f815e2e71fbffa693f48062862d9d23f3e5a2128b42084c1056332e4e675", func := "loop.example/g00495/laws.FnExactStmtDepth", spec := "fnExactStmtDepth", recurses := true, loops := true, apart := false }
def FnExactStmtDepthSaid : Prop := fnExactStmtDepthRow.holds Try.pinned (OpenSpec.ofChange fnExactStmtDepthSpec)

/-- ITS FALSE NEIGHBOUR: 'it returns false'. Refute it at one input. -/
def fnExactStmtDepthWrong : ChangeSpec := { name := "fnExactStmtDepth", fn := fun _ => fun
  | [d] => { results := [.lit (.bool false)], args := [d] }
  | _ => none }
def FnExactStmtDepthWrongFalsely : Prop := fnExactStmtDepthRow.holds Try.pinned (OpenSpec.ofChange fnExactStmtDepthWrong)

/-- 'laws.FnExactExprOk': WHATEVER THE INPUT: true; the input reads as it did. -/
def fnExactExprOkSpec : ChangeSpec := { name := "fnExactExprOk", fn := fun _ => fun
  | [d] => { results := [.lit (.bool true)], args := [d] }
  | _ => none }
def fnExactExprOkRow : OpenClaim := { program := "ytdiknmniclancaa", sum := "6997f815e2e71fbffa693f48062862d9d23f3e5a2128b42084c1056332e4e675", func := "loop.example/g00495/laws.FnExactExprOk", spec := "fnExactExprOk", unfollowed := true, recurses := true, loops := true, apart := false }
def FnExactExprOkSaid : Prop := fnExactExprOkRow.holds Try.pinned (OpenSpec.ofChange fnExactExprOkSpec)

/-- ITS FALSE NEIGHBOUR: 'it returns false'. Refute it at one input. -/
def fnExactExprOkWrong : ChangeSpec := { name := "fnExactExprOk", fn := fun _ => fun
  | [d] => { results := [.lit (.bool false)], args := [d] }
  | _ => none }
def FnExactExprOkWrongFalsely : Prop := fnExactExprOkRow.holds Try.pinned (OpenSpec.ofChange fnExactExprOkWrong)

/-- 'laws.FnExactQueryOk': WHATEVER THE INPUT: true; the input reads as it did. -/
def fnExactQueryOkSpec : ChangeSpec := { name := "fnExactQueryOk", fn := fun _ => fun
  | [d] => { results := [.lit (.bool true)], args := [d] }
  | _ => none }
def fnExactQueryOkRow : OpenClaim := { program := "ytdiknmniclancaa", sum := "6997f815e2e71fbffa693f48062862d9d23f3e5a2128b42084c1056332e4e675", func := "loop.example/g00495/laws.FnExactQueryOk", spec := "fnExactQueryOk", unfollowed := true, recurses := true, loops := true, apart := false }
def FnExactQueryOkSaid : Prop := fnExactQueryOkRow.holds Try.pinned (OpenSpec.ofChange fnExactQueryOkSpec)

/-- ITS FALSE NEIGHBOUR: 'it returns false'. Refute it at one input. -/
def fnExactQueryOkWrong : ChangeSpec := { name := "fnExactQueryOk", fn := fun _ => fun
  | [d] => { results := [.lit (.bool false)], args := [d] }
  | _ => none }
def FnExactQueryOkWrongFalsely : Prop := fnExactQueryOkRow.holds Try.pinned (OpenSpec.ofChange fnExactQueryOkWrong)

/-- 'laws.FnExactTablesIn': WHATEVER THE INPUT: true; the input reads as it did. -/
def fnExactTablesInSpec : ChangeSpec := { name := "fnExactTablesIn", fn := fun _ => fun
  | [d] => { results := [.lit (.bool true)], args := [d] }
  | _ => none }
def fnExactTablesInRow : OpenClaim := { program := "ytdiknmniclancaa", sum := "6997f815e2e71fbffa693f48062862d9d23f3e5a2128b42084c1056332e4e675", func := "loop.example/g00495/laws.FnExactTablesIn", spec := "fnExactTablesIn", recurses := true, loops := true, apart := false }
def FnExactTablesInSaid : Prop := fnExactTablesInRow.holds Try.pinned (OpenSpec.ofChange fnExactTablesInSpec)

/-- ITS FALSE NEIGHBOUR: 'it returns false'. Refute it at one input. -/
def fnExactTablesInWrong : ChangeSpec := { name := "fnExactTablesIn", fn := fun _ => fun
  | [d] => { results := [.lit (.bool false)], args := [d] }
  | _ => none }
def FnExactTablesInWrongFalsely : Prop := fnExactTablesInRow.holds Try.pinned (OpenSpec.ofChange fnExactTablesInWrong)

/-- 'laws.FnTables': WHATEVER THE INPUT: true; the input reads as it did. -/
def fnTablesSpec : ChangeSpec := { name := "fnTables", fn := fun _ => fun
  | [d] => { results := [.lit (.bool true)], args := [d] }
  | _ => none }
def fnTablesRow : OpenClaim := { program := "ytdiknmniclancaa", sum := "6997f815e2e71fbffa693f48062862d9d23f3e5a2128b42084c1056332e4e675", func := "loop.example/g00495/laws.FnTables", spec := "fnTables", recurses := true, apart := false }
def FnTablesSaid : Prop := fnTablesRow.holds Try.pinned (OpenSpec.ofChange fnTablesSpec)

/-- ITS FALSE NEIGHBOUR: 'it returns false'. Refute it at one input. -/
def fnTablesWrong : ChangeSpec := { name := "fnTables", fn := fun _ => fun
  | [d] => { results := [.lit (.bool false)], args := [d] }
  | _ => none }
def FnTablesWrongFalsely : Prop := fnTablesRow.holds Try.pinned (OpenSpec.ofChange fnTablesWrong)

/-- 'laws.FnExactExprsOf': WHATEVER THE INPUT: true; the input reads as it did. -/
def fnExactExprsOfSpec : ChangeSpec := { name := "fnExactExprsOf", fn := fun _ => fun
  | [d] => { results := [.lit (.bool true)], args := [d] }
  | _ => none }
def fnExactExprsOfRow : OpenClaim := { program := "ytdiknmniclancaa", sum := "6997f815e2e71fbffa693f48062862d9d23f3e5a2128b42084c1056332e4e675", func := "loop.example/g00495/laws.FnExactExprsOf", spec := "fnExactExprsOf", recurses := true, loops := true, apart := false }
def FnExactExprsOfSaid : Prop := fnExactExprsOfRow.holds Try.pinned (OpenSpec.ofChange fnExactExprsOfSpec)

/-- ITS FALSE NEIGHBOUR: 'it returns false'. Refute it at one input. -/
def fnExactExprsOfWrong : ChangeSpec := { name := "fnExactExprsOf", fn := fun _ => fun
  | [d] => { results := [.lit (.bool false)], args := [d] }
  | _ => none }
def FnExactExprsOfWrongFalsely : Prop := fnExactExprsOfRow.holds Try.pinned (OpenSpec.ofChange fnExactExprsOfWrong)

/- THE SECOND FORM. 'bulk': how many values and letters a reading holds, each counted each time it is reached (what is shared counts as often as it is met; a slice's spare places count too). A statement '..UptoSaid' is the law's where the arguments, and the package variables that the reading takes, are together of bulk at most 1048576: NARROWER than '..Said'. Prove '..Said' where nothing that the law and all that it calls make is longer than what came in: it says more and counts as full. Else prove '..UptoSaid'. A law counts once. -/
mutual
def uptoBulk {H : Type} : DataW H → Nat
  | .lit (.string bytes) => bytes.length + 1
  | .lit _ => 1
  | .nil => 1
  | .ptr d => uptoBulk d + 1
  | .slice elems spare => uptoBulkAll elems + uptoBulkAll spare + 1
  | .agg parts => uptoBulkAll parts + 1
  | .iface _ d => uptoBulk d + 1
  | .map entries => uptoBulkEntries entries + 1
  | .held _ => 1
def uptoBulkAll {H : Type} : List (DataW H) → Nat
  | [] => 0
  | d :: r => uptoBulk d + uptoBulkAll r
def uptoBulkEntries {H : Type} : List (Lit × DataW H) → Nat
  | [] => 0
  | x :: r => uptoBulkEntry x + uptoBulkEntries r
def uptoBulkEntry {H : Type} : Lit × DataW H → Nat
  | (.string bytes, d) => bytes.length + uptoBulk d + 1
  | (_, d) => uptoBulk d + 1
 end
def uptoSmall : (H : Type) → List (DataW H) → Bool := fun _ ds => decide (uptoBulkAll ds ≤ 1048576)
def OpenSpec.upto (s : _root_.Go.ChangeSpec) : _root_.Go.OpenSpec := { _root_.Go.OpenSpec.ofChange s with cond := some uptoSmall }

/-- 'laws.FnExactQueryDepth', WHERE WHAT IT READS IS OF BULK AT MOST 1048576: true; the input reads as it did. -/
def fnExactQueryDepthUptoRow : OpenClaim := { program := "ytdiknmniclancaa", sum := "6997f815e2e71fbffa693f48062862d9d23f3e5a2128b42084c1056332e4e675", func := "loop.example/g00495/laws.FnExactQueryDepth", spec := "fnExactQueryDepth", recurses := true, loops := true, apart := false, narrowed := true }
def FnExactQueryDepthUptoSaid : Prop := fnExactQueryDepthUptoRow.holds Try.pinned (OpenSpec.upto fnExactQueryDepthSpec)

/-- 'laws.FnExactWraps', WHERE WHAT IT READS IS OF BULK AT MOST 1048576: true; the input reads as it did. -/
def fnExactWrapsUptoRow : OpenClaim := { program := "ytdiknmniclancaa", sum := "6997f815e2e71fbffa693f48062862d9d23f3e5a2128b42084c1056332e4e675", func := "loop.example/g00495/laws.FnExactWraps", spec := "fnExactWraps", recurses := true, loops := true, apart := false, narrowed := true }
def FnExactWrapsUptoSaid : Prop := fnExactWrapsUptoRow.holds Try.pinned (OpenSpec.upto fnExactWrapsSpec)

/-- 'laws.FnExactWrapsIn', WHERE WHAT IT READS IS OF BULK AT MOST 1048576: true; the input reads as it did. -/
def fnExactWrapsInUptoRow : OpenClaim := { program := "ytdiknmniclancaa", sum := "6997f815e2e71fbffa693f48062862d9d23f3e5a2128b42084c1056332e4e675", func := "loop.example/g00495/laws.FnExactWrapsIn", spec := "fnExactWrapsIn", recurses := true, loops := true, apart := false, narrowed := true }
def FnExactWrapsInUptoSaid : Prop := fnExactWrapsInUptoRow.holds Try.pinned (OpenSpec.upto fnExactWrapsInSpec)

/-- 'laws.FnParts', WHERE WHAT IT READS IS OF BULK AT MOST 1048576: true; the input reads as it did. -/
def fnPartsUptoRow : OpenClaim := { program := "ytdiknmniclancaa", sum := "6997f815e2e71fbffa693f48062862d9d23f3e5a2128b42084c1056332e4e675", func := "loop.example/g00495/laws.FnParts", spec := "fnParts", unfollowed := true, recurses := true, apart := false, narrowed := true }
def FnPartsUptoSaid : Prop := fnPartsUptoRow.holds Try.pinned (OpenSpec.upto fnPartsSpec)

/-- 'laws.FnExactStmtSize', WHERE WHAT IT READS IS OF BULK AT MOST 1048576: true; the input reads as it did. -/
def fnExactStmtSizeUptoRow : OpenClaim := { program := "ytdiknmniclancaa", sum := "6997f815e2e71fbffa693f48062862d9d23f3e5a2128b42084c1056332e4e675", func := "loop.example/g00495/laws.FnExactStmtSize", spec := "fnExactStmtSize", recurses := true, loops := true, apart := false, narrowed := true }
def FnExactStmtSizeUptoSaid : Prop := fnExactStmtSizeUptoRow.holds Try.pinned (OpenSpec.upto fnExactStmtSizeSpec)

/-- 'laws.FnExactStmtDepth', WHERE WHAT IT READS IS OF BULK AT MOST 1048576: true; the input reads as it did. -/
def fnExactStmtDepthUptoRow : OpenClaim := { program := "ytdiknmniclancaa", sum := "6997f815e2e71fbffa693f48062862d9d23f3e5a2128b42084c1056332e4e675", func := "loop.example/g00495/laws.FnExactStmtDepth", spec := "fnExactStmtDepth", recurses := true, loops := true, apart := false, narrowed := true }
def FnExactStmtDepthUptoSaid : Prop := fnExactStmtDepthUptoRow.holds Try.pinned (OpenSpec.upto fnExactStmtDepthSpec)

/-- 'laws.FnExactExprOk', WHERE WHAT IT READS IS OF BULK AT MOST 1048576: true; the input reads as it did. -/
def fnExactExprOkUptoRow : OpenClaim := { program := "ytdiknmniclancaa", sum := "6997f815e2e71fbffa693f48062862d9d23f3e5a2128b42084c1056332e4e675", func := "loop.example/g00495/laws.FnExactExprOk", spec := "fnExactExprOk", unfollowed := true, recurses := true, loops := true, apart := false, narrowed := true }
def FnExactExprOkUptoSaid : Prop := fnExactExprOkUptoRow.holds Try.pinned (OpenSpec.upto fnExactExprOkSpec)

/-- 'laws.FnExactQueryOk', WHERE WHAT IT READS IS OF BULK AT MOST 1048576: true; the input reads as it did. -/
def fnExactQueryOkUptoRow : OpenClaim := { program := "ytdiknmniclancaa", sum := "6997f815e2e71fbffa693f48062862d9d23f3e5a2128b42084c1056332e4e675", func := "loop.example/g00495/laws.FnExactQueryOk", spec := "fnExactQueryOk", unfollowed := true, recurses := true, loops := true, apart := false, narrowed := true }
def FnExactQueryOkUptoSaid : Prop := fnExactQueryOkUptoRow.holds Try.pinned (OpenSpec.upto fnExactQueryOkSpec)

/-- 'laws.FnExactTablesIn', WHERE WHAT IT READS IS OF BULK AT MOST 1048576: true; the input reads as it did. -/
def fnExactTablesInUptoRow : OpenClaim := { program := "ytdiknmniclancaa", sum := "6997f815e2e71fbffa693f48062862d9d23f3e5a2128b42084c1056332e4e675", func := "loop.example/g00495/laws.FnExactTablesIn", spec := "fnExactTablesIn", recurses := true, loops := true, apart := false, narrowed := true }
def FnExactTablesInUptoSaid : Prop := fnExactTablesInUptoRow.holds Try.pinned (OpenSpec.upto fnExactTablesInSpec)

/-- 'laws.FnTables', WHERE WHAT IT READS IS OF BULK AT MOST 1048576: true; the input reads as it did. -/
def fnTablesUptoRow : OpenClaim := { program := "ytdiknmniclancaa", sum := "6997f815e2e71fbffa693f48062862d9d23f3e5a2128b42084c1056332e4e675", func := "loop.example/g00495/laws.FnTables", spec := "fnTables", recurses := true, apart := false, narrowed := true }
def FnTablesUptoSaid : Prop := fnTablesUptoRow.holds Try.pinned (OpenSpec.upto fnTablesSpec)

/-- 'laws.FnExactExprsOf', WHERE WHAT IT READS IS OF BULK AT MOST 1048576: true; the input reads as it did. -/
def fnExactExprsOfUptoRow : OpenClaim := { program := "ytdiknmniclancaa", sum := "6997f815e2e71fbffa693f48062862d9d23f3e5a2128b42084c1056332e4e675", func := "loop.example/g00495/laws.FnExactExprsOf", spec := "fnExactExprsOf", recurses := true, loops := true, apart := false, narrowed := true }
def FnExactExprsOfUptoSaid : Prop := fnExactExprsOfUptoRow.holds Try.pinned (OpenSpec.upto fnExactExprsOfSpec)

end Rows
end Go.Proofs.Ytdiknmniclancaa
