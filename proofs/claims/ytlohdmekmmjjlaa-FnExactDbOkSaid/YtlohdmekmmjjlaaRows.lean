/-
  NARROWER THAN 'FOR EVERY INPUT', by the rows' own cells (each row's printed sentence says how): FnExactQuerySize: loops · FnExactSizeOf: loops · FnExactDepthOf: loops.
  DERIVED. THE GIVEN ROWS OF THIS SEAT. 11 by the template 'for every input the law returns true; each argument reads behind the call as it read before'; 0 by the template 'total and deterministic' (their statements: YtlohdmekmmjjlaaTotals.lean).
  GIVEN WITH THE SEED: the statements are not yours to turn. If you find one false, say at which input.
  Laid BY PROGRAM, IN A SANDBOX (cutbox-rows.mjs): the forced cells as the released guide's own fill.sh prints them over the translation 17156f8ed13f8766… (all of the seat's roots in one cut). By AI agents, Wed Nov 11 2026. No macro, syntax, notation, axiom, sorry.
-/
import Derived.Test.YtlohdmekmmjjlaaChecked
import GoSem.Claim
import GoSem.ClaimJoined
import GoSem.ClaimMapViews
import Derived.JoinedTies
import Derived.KernelRfl
namespace Go.Proofs.Ytlohdmekmmjjlaa
/- THE CELL 'sum', in the pinned program and in every row, IS THE sha256 OF THE DUMP (.gsa) THAT YtlohdmekmmjjlaaProg.lean LOADS. Nothing in Lean hashes anything: it is a label: what it is worth is what the hold of that sum in a sandbox is worth. -/
noncomputable def Try.pinned : Pinned := { name := "ytlohdmekmmjjlaa", sum := "17156f8ed13f8766e3e62cfcc6669e63985d0fab95b792f4928dfa55145db00d", checked := Try.checked }
namespace Rows
def none {H : Type} : Left H := { results := [], args := [] }

/-- 'laws.FnDepth': WHATEVER THE INPUT: true; the input reads as it did. -/
def fnDepthSpec : ChangeSpec := { name := "fnDepth", fn := fun _ => fun
  | [d] => { results := [.lit (.bool true)], args := [d] }
  | _ => none }
def fnDepthRow : OpenClaim := { program := "ytlohdmekmmjjlaa", sum := "17156f8ed13f8766e3e62cfcc6669e63985d0fab95b792f4928dfa55145db00d", func := "loop.example/g00495/laws.FnDepth", spec := "fnDepth", recurses := true, apart := false }
def FnDepthSaid : Prop := fnDepthRow.holds Try.pinned (OpenSpec.ofChange fnDepthSpec)

/-- ITS FALSE NEIGHBOUR: 'it returns false'. Refute it at one input. -/
def fnDepthWrong : ChangeSpec := { name := "fnDepth", fn := fun _ => fun
  | [d] => { results := [.lit (.bool false)], args := [d] }
  | _ => none }
def FnDepthWrongFalsely : Prop := fnDepthRow.holds Try.pinned (OpenSpec.ofChange fnDepthWrong)

/-- 'laws.FnExactBetween': WHATEVER THE INPUT: true; the input reads as it did. -/
def fnExactBetweenSpec : ChangeSpec := { name := "fnExactBetween", fn := fun _ => fun
  | [d1, d2, d3] => { results := [.lit (.bool true)], args := [d1, d2, d3] }
  | _ => none }
def fnExactBetweenRow : OpenClaim := { program := "ytlohdmekmmjjlaa", sum := "17156f8ed13f8766e3e62cfcc6669e63985d0fab95b792f4928dfa55145db00d", func := "loop.example/g00495/laws.FnExactBetween", spec := "fnExactBetween", apart := false }
def FnExactBetweenSaid : Prop := fnExactBetweenRow.holds Try.pinned (OpenSpec.ofChange fnExactBetweenSpec)

/-- ITS FALSE NEIGHBOUR: 'it returns false'. Refute it at one input. -/
def fnExactBetweenWrong : ChangeSpec := { name := "fnExactBetween", fn := fun _ => fun
  | [d1, d2, d3] => { results := [.lit (.bool false)], args := [d1, d2, d3] }
  | _ => none }
def FnExactBetweenWrongFalsely : Prop := fnExactBetweenRow.holds Try.pinned (OpenSpec.ofChange fnExactBetweenWrong)

/-- 'laws.FnBags': WHATEVER THE INPUT: true; the input reads as it did. -/
def fnBagsSpec : ChangeSpec := { name := "fnBags", fn := fun _ => fun
  | [d] => { results := [.lit (.bool true)], args := [d] }
  | _ => none }
def fnBagsRow : OpenClaim := { program := "ytlohdmekmmjjlaa", sum := "17156f8ed13f8766e3e62cfcc6669e63985d0fab95b792f4928dfa55145db00d", func := "loop.example/g00495/laws.FnBags", spec := "fnBags", unfollowed := true, recurses := true, apart := false }
def FnBagsSaid : Prop := fnBagsRow.holds Try.pinned (OpenSpec.ofChange fnBagsSpec)

/-- ITS FALSE NEIGHBOUR: 'it returns false'. Refute it at one input. -/
def fnBagsWrong : ChangeSpec := { name := "fnBags", fn := fun _ => fun
  | [d] => { results := [.lit (.bool false)], args := [d] }
  | _ => none }
def FnBagsWrongFalsely : Prop := fnBagsRow.holds Try.pinned (OpenSpec.ofChange fnBagsWrong)

/-- 'laws.FnExactWithin': WHATEVER THE INPUT: true; the input reads as it did. -/
def fnExactWithinSpec : ChangeSpec := { name := "fnExactWithin", fn := fun _ => fun
  | [d1, d2] => { results := [.lit (.bool true)], args := [d1, d2] }
  | _ => none }
def fnExactWithinRow : OpenClaim := { program := "ytlohdmekmmjjlaa", sum := "17156f8ed13f8766e3e62cfcc6669e63985d0fab95b792f4928dfa55145db00d", func := "loop.example/g00495/laws.FnExactWithin", spec := "fnExactWithin", apart := false }
def FnExactWithinSaid : Prop := fnExactWithinRow.holds Try.pinned (OpenSpec.ofChange fnExactWithinSpec)

/-- ITS FALSE NEIGHBOUR: 'it returns false'. Refute it at one input. -/
def fnExactWithinWrong : ChangeSpec := { name := "fnExactWithin", fn := fun _ => fun
  | [d1, d2] => { results := [.lit (.bool false)], args := [d1, d2] }
  | _ => none }
def FnExactWithinWrongFalsely : Prop := fnExactWithinRow.holds Try.pinned (OpenSpec.ofChange fnExactWithinWrong)

/-- 'laws.FnBetween': WHATEVER THE INPUT: true; the input reads as it did. -/
def fnBetweenSpec : ChangeSpec := { name := "fnBetween", fn := fun _ => fun
  | [d] => { results := [.lit (.bool true)], args := [d] }
  | _ => none }
def fnBetweenRow : OpenClaim := { program := "ytlohdmekmmjjlaa", sum := "17156f8ed13f8766e3e62cfcc6669e63985d0fab95b792f4928dfa55145db00d", func := "loop.example/g00495/laws.FnBetween", spec := "fnBetween", apart := false }
def FnBetweenSaid : Prop := fnBetweenRow.holds Try.pinned (OpenSpec.ofChange fnBetweenSpec)

/-- ITS FALSE NEIGHBOUR: 'it returns false'. Refute it at one input. -/
def fnBetweenWrong : ChangeSpec := { name := "fnBetween", fn := fun _ => fun
  | [d] => { results := [.lit (.bool false)], args := [d] }
  | _ => none }
def FnBetweenWrongFalsely : Prop := fnBetweenRow.holds Try.pinned (OpenSpec.ofChange fnBetweenWrong)

/-- 'laws.FnExactDbOk': WHATEVER THE INPUT: true; the input reads as it did. -/
def fnExactDbOkSpec : ChangeSpec := { name := "fnExactDbOk", fn := fun _ => fun
  | [d1, d2] => { results := [.lit (.bool true)], args := [d1, d2] }
  | _ => none }
def fnExactDbOkRow : OpenClaim := { program := "ytlohdmekmmjjlaa", sum := "17156f8ed13f8766e3e62cfcc6669e63985d0fab95b792f4928dfa55145db00d", func := "loop.example/g00495/laws.FnExactDbOk", spec := "fnExactDbOk", unfollowed := true, recurses := true, apart := false }
def FnExactDbOkSaid : Prop := fnExactDbOkRow.holds Try.pinned (OpenSpec.ofChange fnExactDbOkSpec)

/-- ITS FALSE NEIGHBOUR: 'it returns false'. Refute it at one input. -/
def fnExactDbOkWrong : ChangeSpec := { name := "fnExactDbOk", fn := fun _ => fun
  | [d1, d2] => { results := [.lit (.bool false)], args := [d1, d2] }
  | _ => none }
def FnExactDbOkWrongFalsely : Prop := fnExactDbOkRow.holds Try.pinned (OpenSpec.ofChange fnExactDbOkWrong)

/-- 'laws.FnExactQuerySize': WHATEVER THE INPUT: true; the input reads as it did. -/
def fnExactQuerySizeSpec : ChangeSpec := { name := "fnExactQuerySize", fn := fun _ => fun
  | [d] => { results := [.lit (.bool true)], args := [d] }
  | _ => none }
def fnExactQuerySizeRow : OpenClaim := { program := "ytlohdmekmmjjlaa", sum := "17156f8ed13f8766e3e62cfcc6669e63985d0fab95b792f4928dfa55145db00d", func := "loop.example/g00495/laws.FnExactQuerySize", spec := "fnExactQuerySize", recurses := true, loops := true, apart := false }
def FnExactQuerySizeSaid : Prop := fnExactQuerySizeRow.holds Try.pinned (OpenSpec.ofChange fnExactQuerySizeSpec)

/-- ITS FALSE NEIGHBOUR: 'it returns false'. Refute it at one input. -/
def fnExactQuerySizeWrong : ChangeSpec := { name := "fnExactQuerySize", fn := fun _ => fun
  | [d] => { results := [.lit (.bool false)], args := [d] }
  | _ => none }
def FnExactQuerySizeWrongFalsely : Prop := fnExactQuerySizeRow.holds Try.pinned (OpenSpec.ofChange fnExactQuerySizeWrong)

/-- 'laws.FnExactSizeOf': WHATEVER THE INPUT: true; the input reads as it did. -/
def fnExactSizeOfSpec : ChangeSpec := { name := "fnExactSizeOf", fn := fun _ => fun
  | [d] => { results := [.lit (.bool true)], args := [d] }
  | _ => none }
def fnExactSizeOfRow : OpenClaim := { program := "ytlohdmekmmjjlaa", sum := "17156f8ed13f8766e3e62cfcc6669e63985d0fab95b792f4928dfa55145db00d", func := "loop.example/g00495/laws.FnExactSizeOf", spec := "fnExactSizeOf", recurses := true, loops := true, apart := false }
def FnExactSizeOfSaid : Prop := fnExactSizeOfRow.holds Try.pinned (OpenSpec.ofChange fnExactSizeOfSpec)

/-- ITS FALSE NEIGHBOUR: 'it returns false'. Refute it at one input. -/
def fnExactSizeOfWrong : ChangeSpec := { name := "fnExactSizeOf", fn := fun _ => fun
  | [d] => { results := [.lit (.bool false)], args := [d] }
  | _ => none }
def FnExactSizeOfWrongFalsely : Prop := fnExactSizeOfRow.holds Try.pinned (OpenSpec.ofChange fnExactSizeOfWrong)

/-- 'laws.FnWithin': WHATEVER THE INPUT: true; the input reads as it did. -/
def fnWithinSpec : ChangeSpec := { name := "fnWithin", fn := fun _ => fun
  | [d] => { results := [.lit (.bool true)], args := [d] }
  | _ => none }
def fnWithinRow : OpenClaim := { program := "ytlohdmekmmjjlaa", sum := "17156f8ed13f8766e3e62cfcc6669e63985d0fab95b792f4928dfa55145db00d", func := "loop.example/g00495/laws.FnWithin", spec := "fnWithin", apart := false }
def FnWithinSaid : Prop := fnWithinRow.holds Try.pinned (OpenSpec.ofChange fnWithinSpec)

/-- ITS FALSE NEIGHBOUR: 'it returns false'. Refute it at one input. -/
def fnWithinWrong : ChangeSpec := { name := "fnWithin", fn := fun _ => fun
  | [d] => { results := [.lit (.bool false)], args := [d] }
  | _ => none }
def FnWithinWrongFalsely : Prop := fnWithinRow.holds Try.pinned (OpenSpec.ofChange fnWithinWrong)

/-- 'laws.FnStmtParts': WHATEVER THE INPUT: true; the input reads as it did. -/
def fnStmtPartsSpec : ChangeSpec := { name := "fnStmtParts", fn := fun _ => fun
  | [d] => { results := [.lit (.bool true)], args := [d] }
  | _ => none }
def fnStmtPartsRow : OpenClaim := { program := "ytlohdmekmmjjlaa", sum := "17156f8ed13f8766e3e62cfcc6669e63985d0fab95b792f4928dfa55145db00d", func := "loop.example/g00495/laws.FnStmtParts", spec := "fnStmtParts", recurses := true, apart := false }
def FnStmtPartsSaid : Prop := fnStmtPartsRow.holds Try.pinned (OpenSpec.ofChange fnStmtPartsSpec)

/-- ITS FALSE NEIGHBOUR: 'it returns false'. Refute it at one input. -/
def fnStmtPartsWrong : ChangeSpec := { name := "fnStmtParts", fn := fun _ => fun
  | [d] => { results := [.lit (.bool false)], args := [d] }
  | _ => none }
def FnStmtPartsWrongFalsely : Prop := fnStmtPartsRow.holds Try.pinned (OpenSpec.ofChange fnStmtPartsWrong)

/-- 'laws.FnExactDepthOf': WHATEVER THE INPUT: true; the input reads as it did. -/
def fnExactDepthOfSpec : ChangeSpec := { name := "fnExactDepthOf", fn := fun _ => fun
  | [d] => { results := [.lit (.bool true)], args := [d] }
  | _ => none }
def fnExactDepthOfRow : OpenClaim := { program := "ytlohdmekmmjjlaa", sum := "17156f8ed13f8766e3e62cfcc6669e63985d0fab95b792f4928dfa55145db00d", func := "loop.example/g00495/laws.FnExactDepthOf", spec := "fnExactDepthOf", recurses := true, loops := true, apart := false }
def FnExactDepthOfSaid : Prop := fnExactDepthOfRow.holds Try.pinned (OpenSpec.ofChange fnExactDepthOfSpec)

/-- ITS FALSE NEIGHBOUR: 'it returns false'. Refute it at one input. -/
def fnExactDepthOfWrong : ChangeSpec := { name := "fnExactDepthOf", fn := fun _ => fun
  | [d] => { results := [.lit (.bool false)], args := [d] }
  | _ => none }
def FnExactDepthOfWrongFalsely : Prop := fnExactDepthOfRow.holds Try.pinned (OpenSpec.ofChange fnExactDepthOfWrong)

/- THE SECOND FORM. 'bulk': how many values and letters a reading holds, each counted each time it is reached (what is shared counts as often as it is met; a slice's spare places count too). A statement '..UptoSaid' is the law's where the arguments, and the package variables that the reading takes, are together of bulk at most 1048576: NARROWER than '..Said'. Prove '..Said' where nothing that the law and all that it calls make is longer than what came in: it says more and counts as full. Else prove '..UptoSaid'. A law counts once. -/
mutual
def uptoBulk {H : Type} : DataW H → Nat
  | .lit (.string bytes) => bytes.length + 1
  | .lit _ => 1
  | .nil => 1
  | .ptr d => uptoBulk d + 1
  | .slice elems spare => uptoBulkAll elems + uptoBulkAll spare + 1
  | .agg parts => uptoBulkAll parts + 1
  | .iface _ d => uptoBulk d + 1
  | .map entries => uptoBulkEntries entries + 1
  | .held _ => 1
def uptoBulkAll {H : Type} : List (DataW H) → Nat
  | [] => 0
  | d :: r => uptoBulk d + uptoBulkAll r
def uptoBulkEntries {H : Type} : List (Lit × DataW H) → Nat
  | [] => 0
  | x :: r => uptoBulkEntry x + uptoBulkEntries r
def uptoBulkEntry {H : Type} : Lit × DataW H → Nat
  | (.string bytes, d) => bytes.length + uptoBulk d + 1
  | (_, d) => uptoBulk d + 1
 end
def uptoSmall : (H : Type) → List (DataW H) → Bool := fun _ ds => decide (uptoBulkAll ds ≤ 1048576)
def OpenSpec.upto (s : _root_.Go.ChangeSpec) : _root_.Go.OpenSpec := { _root_.Go.OpenSpec.ofChange s with cond := some uptoSmall }

/-- 'laws.FnDepth', WHERE WHAT IT READS IS OF BULK AT MOST 1048576: true; the input reads as it did. -/
def fnDepthUptoRow : OpenClaim := { program := "ytlohdmekmmjjlaa", sum := "17156f8ed13f8766e3e62cfcc6669e63985d0fab95b792f4928dfa55145db00d", func := "loop.example/g00495/laws.FnDepth", spec := "fnDepth", recurses := true, apart := false, narrowed := true }
def FnDepthUptoSaid : Prop := fnDepthUptoRow.holds Try.pinned (OpenSpec.upto fnDepthSpec)

/-- 'laws.FnExactBetween', WHERE WHAT IT READS IS OF BULK AT MOST 1048576: true; the input reads as it did. -/
def fnExactBetweenUptoRow : OpenClaim := { program := "ytlohdmekmmjjlaa", sum := "17156f8ed13f8766e3e62cfcc6669e63985d0fab95b792f4928dfa55145db00d", func := "loop.example/g00495/laws.FnExactBetween", spec := "fnExactBetween", apart := false, narrowed := true }
def FnExactBetweenUptoSaid : Prop := fnExactBetweenUptoRow.holds Try.pinned (OpenSpec.upto fnExactBetweenSpec)

/-- 'laws.FnBags', WHERE WHAT IT READS IS OF BULK AT MOST 1048576: true; the input reads as it did. -/
def fnBagsUptoRow : OpenClaim := { program := "ytlohdmekmmjjlaa", sum := "17156f8ed13f8766e3e62cfcc6669e63985d0fab95b792f4928dfa55145db00d", func := "loop.example/g00495/laws.FnBags", spec := "fnBags", unfollowed := true, recurses := true, apart := false, narrowed := true }
def FnBagsUptoSaid : Prop := fnBagsUptoRow.holds Try.pinned (OpenSpec.upto fnBagsSpec)

/-- 'laws.FnExactWithin', WHERE WHAT IT READS IS OF BULK AT MOST 1048576: true; the input reads as it did. -/
def fnExactWithinUptoRow : OpenClaim := { program := "ytlohdmekmmjjlaa", sum := "17156f8ed13f8766e3e62cfcc6669e63985d0fab95b792f4928dfa55145db00d", func := "loop.example/g00495/laws.FnExactWithin", spec := "fnExactWithin", apart := false, narrowed := true }
def FnExactWithinUptoSaid : Prop := fnExactWithinUptoRow.holds Try.pinned (OpenSpec.upto fnExactWithinSpec)

/-- 'laws.FnBetween', WHERE WHAT IT READS IS OF BULK AT MOST 1048576: true; the input reads as it did. -/
def fnBetweenUptoRow : OpenClaim := { program := "ytlohdmekmmjjlaa", sum := "17156f8ed13f8766e3e62cfcc6669e63985d0fab95b792f4928dfa55145db00d", func := "loop.example/g00495/laws.FnBetween", spec := "fnBetween", apart := false, narrowed := true }
def FnBetweenUptoSaid : Prop := fnBetweenUptoRow.holds Try.pinned (OpenSpec.upto fnBetweenSpec)

/-- 'laws.FnExactDbOk', WHERE WHAT IT READS IS OF BULK AT MOST 1048576: true; the input reads as it did. -/
def fnExactDbOkUptoRow : OpenClaim := { program := "ytlohdmekmmjjlaa", sum := "17156f8ed13f8766e3e62cfcc6669e63985d0fab95b792f4928dfa55145db00d", func := "loop.example/g00495/laws.FnExactDbOk", spec := "fnExactDbOk", unfollowed := true, recurses := true, apart := false, narrowed := true }
def FnExactDbOkUptoSaid : Prop := fnExactDbOkUptoRow.holds Try.pinned (OpenSpec.upto fnExactDbOkSpec)

/-- 'laws.FnExactQuerySize', WHERE WHAT IT READS IS OF BULK AT MOST 1048576: true; the input reads as it did. -/
def fnExactQuerySizeUptoRow : OpenClaim := { program := "ytlohdmekmmjjlaa", sum := "17156f8ed13f8766e3e62cfcc6669e63985d0fab95b792f4928dfa55145db00d", func := "loop.example/g00495/laws.FnExactQuerySize", spec := "fnExactQuerySize", recurses := true, loops := true, apart := false, narrowed := true }
def FnExactQuerySizeUptoSaid : Prop := fnExactQuerySizeUptoRow.holds Try.pinned (OpenSpec.upto fnExactQuerySizeSpec)

/-- 'laws.FnExactSizeOf', WHERE WHAT IT READS IS OF BULK AT MOST 1048576: true; the input reads as it did. -/
def fnExactSizeOfUptoRow : OpenClaim := { program := "ytlohdmekmmjjlaa", sum := "17156f8ed13f8766e3e62cfcc6669e63985d0fab95b792f4928dfa55145db00d", func := "loop.example/g00495/laws.FnExactSizeOf", spec := "fnExactSizeOf", recurses := true, loops := true, apart := false, narrowed := true }
def FnExactSizeOfUptoSaid : Prop := fnExactSizeOfUptoRow.holds Try.pinned (OpenSpec.upto fnExactSizeOfSpec)

/-- 'laws.FnWithin', WHERE WHAT IT READS IS OF BULK AT MOST 1048576: true; the input reads as it did. -/
def fnWithinUptoRow : OpenClaim := { program := "ytlohdmekmmjjlaa", sum := "17156f8ed13f8766e3e62cfcc6669e63985d0fab95b792f4928dfa55145db00d", func := "loop.example/g00495/laws.FnWithin", spec := "fnWithin", apart := false, narrowed := true }
def FnWithinUptoSaid : Prop := fnWithinUptoRow.holds Try.pinned (OpenSpec.upto fnWithinSpec)

/-- 'laws.FnStmtParts', WHERE WHAT IT READS IS OF BULK AT MOST 1048576: true; the input reads as it did. -/
def fnStmtPartsUptoRow : OpenClaim := { program := "ytlohdmekmmjjlaa", sum := "17156f8ed13f8766e3e62cfcc6669e63985d0fab95b792f4928dfa55145db00d", func := "loop.example/g00495/laws.FnStmtParts", spec := "fnStmtParts", recurses := true, apart := false, narrowed := true }
def FnStmtPartsUptoSaid : Prop := fnStmtPartsUptoRow.holds Try.pinned (OpenSpec.upto fnStmtPartsSpec)

/-- 'laws.FnExactDepthOf', WHERE WHAT IT READS IS OF BULK AT MOST 1048576: true; the input reads as it did. -/
def fnExactDepthOfUptoRow : OpenClaim := { program := "ytlohdmekmmjjlaa", sum := "17156f8ed13f8766e3e62cfcc6669e63985d0fab95b792f4928dfa55145db00d", func := "loop.example/g00495/laws.FnExactDepthOf", spec := "fnExactDepthOf", recurses := true, loops := true, apart := false, narrowed := true }
def FnExactDepthOfUptoSaid : Prop := fnExactDepthOfUptoRow.holds Try.pinned (OpenSpec.upto fnExactDepthOfSpec)

end Rows
end Go.Proofs.Ytlohdmekmmjjlaa
