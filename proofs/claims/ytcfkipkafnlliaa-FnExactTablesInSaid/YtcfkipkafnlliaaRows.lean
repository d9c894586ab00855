/-
  NARROWER THAN 'FOR EVERY INPUT', by the rows' own cells (each row's printed sentence says how): FnExactTablesIn: loops · FnExactExprsOf: loops.
  DERIVED. THE GIVEN ROWS OF THIS SEAT. 6 by the template 'for every input the law returns true; each argument reads behind the call as it read before'; 0 by the template 'total and deterministic' (their statements: YtcfkipkafnlliaaTotals.lean).
  GIVEN WITH THE SEED: the statements are not yours to turn. If you find one false, say at which input.
  Laid BY PROGRAM, IN A SANDBOX (cutbox-rows.mjs): the forced cells as the released guide's own fill.sh prints them over the translation d7cca70fc8b57ac7… (all of the seat's roots in one cut). By AI agents, Wed Nov 11 2026. No macro, syntax, notation, axiom, sorry.
-/
import Derived.Test.YtcfkipkafnlliaaChecked
import GoSem.Claim
import GoSem.ClaimJoined
import GoSem.ClaimMapViews
import Derived.JoinedTies
import Derived.KernelRfl
namespace Go.Proofs.Ytcfkipkafnlliaa
/- THE CELL 'sum', in the pinned program and in every row, IS THE sha256 OF THE DUMP (.gsa) THAT YtcfkipkafnlliaaProg.lean LOADS. Nothing in Lean hashes anything: it is a label: what it is worth is what the hold of that sum in a sandbox is worth. -/
noncomputable def Try.pinned : Pinned := { name := "ytcfkipkafnlliaa", sum := "d7cca70fc8b57ac737bbc30c8b240b6aef8a414029bccc70fc0be26be2bbfd4b", checked := Try.checked }
namespace Rows
def none {H : Type} : Left H := { results := [], args := [] }

/-- 'laws.FnDepth': WHATEVER THE INPUT: true; the input reads as it did. -/
def fnDepthSpec : ChangeSpec := { name := "fnDepth", fn := fun _ => fun
  | [d] => { results := [.lit (.bool true)], args := [d] }
  | _ => none }
def fnDepthRow : OpenClaim := { program := "ytcfkipkafnlliaa", sum := "d7cca70fc8b57ac737bbc30c8b240b6aef8a414029bccc70fc0be26be2bbfd4b", func := "loop.example/g00495/laws.FnDepth", spec := "fnDepth", recurses := true, apart := false }
def FnDepthSaid : Prop := fnDepthRow.holds Try.pinned (OpenSpec.ofChange fnDepthSpec)

/-- ITS FALSE NEIGHBOUR: 'it returns false'. Refute it at one input. -/
def fnDepthWrong : ChangeSpec := { name := "fnDepth", fn := fun _ => fun
  | [d] => { results := [.lit (.bool false)], args := [d] }
  | _ => none }
def FnDepthWrongFalsely : Prop := fnDepthRow.holds Try.pinned (OpenSpec.ofChange fnDepthWrong)

/-- 'laws.FnStmtParts': WHATEVER THE INPUT: true; the input reads as it did. -/
def fnStmtPartsSpec : ChangeSpec := { name := "fnStmtParts", fn := fun _ => fun
  | [d] => { results := [.lit (.bool true)], args := [d] }
  | _ => none }
def fnStmtPartsRow : OpenClaim := { program := "ytcfkipkafnlliaa", sum := "d7cca70fc8b57ac737bbc30c8b240b6aef8a414029bccc70fc0be26be2bbfd4b", func := "loop.example/g00495/laws.FnStmtParts", spec := "fnStmtParts", recurses := true, apart := false }
def FnStmtPartsSaid : Prop := fnStmtPartsRow.holds Try.pinned (OpenSpec.ofChange fnStmtPartsSpec)

/-- ITS FALSE NEIGHBOUR: 'it returns false'. Refute it at one input. -/
def fnStmtPartsWrong : ChangeSpec := { name := "fnStmtParts", fn := fun _ => fun
  | [d] => { results := [.lit (.bool false)], args := [d] }
  | _ => none }
def FnStmtPartsWrongFalsely : Prop := fnStmtPartsRow.holds Try.pinned (OpenSpec.ofChange fnStmtPartsWrong)

/-- 'laws.FnParts': WHATEVER THE INPUT: true; the input reads as it did. -/
def fnPartsSpec : ChangeSpec := { name := "fnParts", fn := fun _ => fun
  | [d] => { results := [.lit (.bool true)], args := [d] }
  | _ => none }
def fnPartsRow : OpenClaim := { program := "ytcfkipkafnlliaa", sum := "d7cca70fc8b57ac737bbc30c8b240b6aef8a414029bccc70fc0be26be2bbfd4b", func := "loop.example/g00495/laws.FnParts", spec := "fnParts", unfollowed := true, recurses := true, apart := false }
def FnPartsSaid : Prop := fnPartsRow.holds Try.pinned (OpenSpec.ofChange fnPartsSpec)

/-- ITS FALSE NEIGHBOUR: 'it returns false'. Refute it at one input. -/
def fnPartsWrong : ChangeSpec := { name := "fnParts", fn := fun _ => fun
  | [d] => { results := [.lit (.bool false)], args := [d] }
  | _ => none }
def FnPartsWrongFalsely : Prop := fnPartsRow.holds Try.pinned (OpenSpec.ofChange fnPartsWrong)

/-- 'laws.FnExactTablesIn': WHATEVER THE INPUT: true; the input reads as it did. -/
def fnExactTablesInSpec : ChangeSpec := { name := "fnExactTablesIn", fn := fun _ => fun
  | [d] => { results := [.lit (.bool true)], args := [d] }
  | _ => none }
def fnExactTablesInRow : OpenClaim := { program := "ytcfkipkafnlliaa", sum := "d7cca70fc8b57ac737bbc30c8b240b6aef8a414029bccc70fc0be26be2bbfd4b", func := "loop.example/g00495/laws.FnExactTablesIn", spec := "fnExactTablesIn", recurses := true, loops := true, apart := false }
def FnExactTablesInSaid : Prop := fnExactTablesInRow.holds Try.pinned (OpenSpec.ofChange fnExactTablesInSpec)

/-- ITS FALSE NEIGHBOUR: 'it returns false'. Refute it at one input. -/
def fnExactTablesInWrong : ChangeSpec := { name := "fnExactTablesIn", fn := fun _ => fun
  | [d] => { results := [.lit (.bool false)], args := [d] }
  | _ => none }
def FnExactTablesInWrongFalsely : Prop := fnExactTablesInRow.holds Try.pinned (OpenSpec.ofChange fnExactTablesInWrong)

/-- 'laws.FnTables': WHATEVER THE INPUT: true; the input reads as it did. -/
def fnTablesSpec : ChangeSpec := { name := "fnTables", fn := fun _ => fun
  | [d] => { results := [.lit (.bool true)], args := [d] }
  | _ => none }
def fnTablesRow : OpenClaim := { program := "ytcfkipkafnlliaa", sum := "d7cca70fc8b57ac737bbc30c8b240b6aef8a414029bccc70fc0be26be2bbfd4b", func := "loop.example/g00495/laws.FnTables", spec := "fnTables", recurses := true, apart := false }
def FnTablesSaid : Prop := fnTablesRow.holds Try.pinned (OpenSpec.ofChange fnTablesSpec)

/-- ITS FALSE NEIGHBOUR: 'it returns false'. Refute it at one input. -/
def fnTablesWrong : ChangeSpec := { name := "fnTables", fn := fun _ => fun
  | [d] => { results := [.lit (.bool false)], args := [d] }
  | _ => none }
def FnTablesWrongFalsely : Prop := fnTablesRow.holds Try.pinned (OpenSpec.ofChange fnTablesWrong)

/-- 'laws.FnExactExprsOf': WHATEVER THE INPUT: true; the input reads as it did. -/
def fnExactExprsOfSpec : ChangeSpec := { name := "fnExactExprsOf", fn := fun _ => fun
  | [d] => { results := [.lit (.bool true)], args := [d] }
  | _ => none }
def fnExactExprsOfRow : OpenClaim := { program := "ytcfkipkafnlliaa", sum := "d7cca70fc8b57ac737bbc30c8b240b6aef8a414029bccc70fc0be26be2bbfd4b", func := "loop.example/g00495/laws.FnExactExprsOf", spec := "fnExactExprsOf", recurses := true, loops := true, apart := false }
def FnExactExprsOfSaid : Prop := fnExactExprsOfRow.holds Try.pinned (OpenSpec.ofChange fnExactExprsOfSpec)

/-- ITS FALSE NEIGHBOUR: 'it returns false'. Refute it at one input. -/
def fnExactExprsOfWrong : ChangeSpec := { name := "fnExactExprsOf", fn := fun _ => fun
  | [d] => { results := [.lit (.bool false)], args := [d] }
  | _ => none }
def FnExactExprsOfWrongFalsely : Prop := fnExactExprsOfRow.holds Try.pinned (OpenSpec.ofChange fnExactExprsOfWrong)

/- THE SECOND FORM. 'bulk': how many values and letters a reading holds, each counted each time it is reached (what is shared counts as often as it is met; a slice's spare places count too). A statement '..UptoSaid' is the law's where the arguments, and the package variables that the reading takes, are together of bulk at most 1048576: NARROWER than '..Said'. Prove '..Said' where nothing that the law and all that it calls make is longer than what came in: it says more and counts as full. Else prove '..UptoSaid'. A law counts once. -/
mutual
def uptoBulk {H : Type} : DataW H → Nat
  | .lit (.string bytes) => bytes.length + 1
  | .lit _ => 1
  | .nil => 1
  | .ptr d => uptoBulk d + 1
  | .slice elems spare => uptoBulkAll elems + uptoBulkAll spare + 1
  | .agg parts => uptoBulkAll parts + 1
  | .iface _ d => uptoBulk d + 1
  | .map entries => uptoBulkEntries entries + 1
  | .held _ => 1
def uptoBulkAll {H : Type} : List (DataW H) → Nat
  | [] => 0
  | d :: r => uptoBulk d + uptoBulkAll r
def uptoBulkEntries {H : Type} : List (Lit × DataW H) → Nat
  | [] => 0
  | x :: r => uptoBulkEntry x + uptoBulkEntries r
def uptoBulkEntry {H : Type} : Lit × DataW H → Nat
  | (.string bytes, d) => bytes.length + uptoBulk d + 1
  | (_, d) => uptoBulk d + 1
 end
def uptoSmall : (H : Type) → List (DataW H) → Bool := fun _ ds => decide (uptoBulkAll ds ≤ 1048576)
def OpenSpec.upto (s : _root_.Go.ChangeSpec) : _root_.Go.OpenSpec := { _root_.Go.OpenSpec.ofChange s with cond := some uptoSmall }

/-- 'laws.FnDepth', WHERE WHAT IT READS IS OF BULK AT MOST 1048576: true; the input reads as it did. -/
def fnDepthUptoRow : OpenClaim := { program := "ytcfkipkafnlliaa", sum := "d7cca70fc8b57ac737bbc30c8b240b6aef8a414029bccc70fc0be26be2bbfd4b", func := "loop.example/g00495/laws.FnDepth", spec := "fnDepth", recurses := true, apart := false, narrowed := true }
def FnDepthUptoSaid : Prop := fnDepthUptoRow.holds Try.pinned (OpenSpec.upto fnDepthSpec)

/-- 'laws.FnStmtParts', WHERE WHAT IT READS IS OF BULK AT MOST 1048576: true; the input reads as it did. -/
def fnStmtPartsUptoRow : OpenClaim := { program := "ytcfkipkafnlliaa", sum := "d7cca70fc8b57ac737bbc30c8b240b6aef8a414029bccc70fc0be26be2bbfd4b", func := "loop.example/g00495/laws.FnStmtParts", spec := "fnStmtParts", recurses := true, apart := false, narrowed := true }
def FnStmtPartsUptoSaid : Prop := fnStmtPartsUptoRow.holds Try.pinned (OpenSpec.upto fnStmtPartsSpec)

/-- 'laws.FnParts', WHERE WHAT IT READS IS OF BULK AT MOST 1048576: true; the input reads as it did. -/
def fnPartsUptoRow : OpenClaim := { program := "ytcfkipkafnlliaa", sum := "d7cca70fc8b57ac737bbc30c8b240b6aef8a414029bccc70fc0be26be2bbfd4b", func := "loop.example/g00495/laws.FnParts", spec := "fnParts", unfollowed := true, recurses := true, apart := false, narrowed := true }
def FnPartsUptoSaid : Prop := fnPartsUptoRow.holds Try.pinned (OpenSpec.upto fnPartsSpec)

/-- 'laws.FnExactTablesIn', WHERE WHAT IT READS IS OF BULK AT MOST 1048576: true; the input reads as it did. -/
def fnExactTablesInUptoRow : OpenClaim := { program := "ytcfkipkafnlliaa", sum := "d7cca70fc8b57ac737bbc30c8b240b6aef8a414029bccc70fc0be26be2bbfd4b", func := "loop.example/g00495/laws.FnExactTablesIn", spec := "fnExactTablesIn", recurses := true, loops := true, apart := false, narrowed := true }
def FnExactTablesInUptoSaid : Prop := fnExactTablesInUptoRow.holds Try.pinned (OpenSpec.upto fnExactTablesInSpec)

/-- 'laws.FnTables', WHERE WHAT IT READS IS OF BULK AT MOST 1048576: true; the input reads as it did. -/
def fnTablesUptoRow : OpenClaim := { program := "ytcfkipkafnlliaa", sum := "d7cca70fc8b57ac737bbc30c8b240b6aef8a414029bccc70fc0be26be2bbfd4b", func := "loop.example/g00495/laws.FnTables", spec := "fnTables", recurses := true, apart := false, narrowed := true }
def FnTablesUptoSaid : Prop := fnTablesUptoRow.holds Try.pinned (OpenSpec.upto fnTablesSpec)

/-- 'laws.FnExactExprsOf', WHERE WHAT IT READS IS OF BULK AT MOST 1048576: true; the input reads as it did. -/
def fnExactExprsOfUptoRow : OpenClaim := { program := "ytcfkipkafnlliaa", sum := "d7cca70fc8b57ac737bbc30c8b240b6aef8a414029bccc70fc0be26be2bbfd4b", func := "loop.example/g00495/laws.FnExactExprsOf", spec := "fnExactExprsOf", recurses := true, loops := true, apart := false, narrowed := true }
def FnExactExprsOfUptoSaid : Prop := fnExactExprsOfUptoRow.holds Try.pinned (OpenSpec.upto fnExactExprsOfSpec)

end Rows
end Go.Proofs.Ytcfkipkafnlliaa
