/-
  NARROWER THAN 'FOR EVERY INPUT', by the rows' own cells (each row's printed sentence says how): FnExactBound: loops · FnExactSPlanOk: loops · FnExactChanges: loops · FnExactEvalExpr: loops · FnExactEvalNamed: loops.
  DERIVED. THE GIVEN ROWS OF THIS SEAT. 5 by the template 'for every input the law returns true; each argument reads behind the call as it read before'; 0 by the template 'total and deterministic' (their statements: YtkdkhdefdfkagaaGreatTotals.lean).
  GIVEN WITH THE SEED: the statements are not yours to turn. If you find one false, say at which input.
  Laid BY PROGRAM, IN A SANDBOX (cutbox-rows.mjs): the forced cells as the released guide's own fill.sh prints them over the translation 023ee14af7c59416… (all of the seat's roots in one cut). By AI agents, Wed Nov 11 2026. No macro, syntax, notation, axiom, sorry.
-/
import Derived.Test.YtkdkhdefdfkagaaGreatChecked
import GoSem.Claim
import GoSem.ClaimJoined
import GoSem.ClaimMapViews
import Derived.JoinedTies
import Derived.KernelRfl
namespace Go.Proofs.YtkdkhdefdfkagaaGreat
/- THE CELL 'sum', in the pinned program and in every row, IS THE sha256 OF THE DUMP (.gsa) THAT YtkdkhdefdfkagaaGreatProg.lean LOADS. Nothing in Lean hashes anything: it is a label: what it is worth is what the hold of that sum in a sandbox is worth. -/
noncomputable def Tryz.pinned : Pinned := { name := "ytkdkhdefdfkagaagreat", sum := "023ee14af7c59416c95728e2e8b3c78449a514f74eb5d35fa7269d1744848a3d", checked := Tryz.checked }
namespace Rows
def none {H : Type} : Left H := { results := [], args := [] }

/-- 'laws.FnExactBound': WHATEVER THE INPUT: true; the input reads as it did. -/
def fnExactBoundSpec : ChangeSpec := { name := "fnExactBound", fn := fun _ => fun
  | [d1, d2] => { results := [.lit (.bool true)], args := [d1, d2] }
  | _ => none }
def fnExactBoundRow : OpenClaim := { program := "ytkdkhdefdfkagaagreat", sum := "023ee14af7c59416c95728e2e8b3c78449a514f74eb5d35fa7269d1744848a3d", func := "loop.example/g00495/laws.FnExactBound", spec := "fnExactBound", unfollowed := true, recurses := true, loops := true, apart := false }
def FnExactBoundSaid : Prop := fnExactBoundRow.holds Tryz.pinned (OpenSpec.ofChange fnExactBoundSpec)

/-- ITS FALSE NEIGHBOUR: 'it returns false'. Refute it at one input. -/
def fnExactBoundWrong : ChangeSpec := { name := "fnExactBound", fn := fun _ => fun
  | [d1, d2] => { results := [.lit (.bool false)], args := [d1, d2] }
  | _ => none }
def FnExactBoundWrongFalsely : Prop := fnExactBoundRow.holds Tryz.pinned (OpenSpec.ofChange fnExactBoundWrong)

/-- 'laws.FnExactSPlanOk': WHATEVER THE INPUT: true; the input reads as it did. -/
def fnExactSPlanOkSpec : ChangeSpec := { name := "fnExactSPlanOk", fn := fun _ => fun
  | [d1, d2] => { results := [.lit (.bool true)], args := [d1, d2] }
  | _ => none }
def fnExactSPlanOkRow : OpenClaim := { program := "ytkdkhdefdfkagaagreat", sum := "023ee14af7c59416c95728e2e8b3c78449a514f74eb5d35fa7269d1744848a3d", func := "loop.example/g00495/laws.FnExactSPlanOk", spec := "fnExactSPlanOk", unfollowed := true, recurses := true, loops := true, apart := false }
def FnExactSPlanOkSaid : Prop := fnExactSPlanOkRow.holds Tryz.pinned (OpenSpec.ofChange fnExactSPlanOkSpec)

/-- ITS FALSE NEIGHBOUR: 'it returns false'. Refute it at one input. -/
def fnExactSPlanOkWrong : ChangeSpec := { name := "fnExactSPlanOk", fn := fun _ => fun
  | [d1, d2] => { results := [.lit (.bool false)], args := [d1, d2] }
  | _ => none }
def FnExactSPlanOkWrongFalsely : Prop := fnExactSPlanOkRow.holds Tryz.pinned (OpenSpec.ofChange fnExactSPlanOkWrong)

/-- 'laws.FnExactChanges': WHATEVER THE INPUT: true; the input reads as it did. -/
def fnExactChangesSpec : ChangeSpec := { name := "fnExactChanges", fn := fun _ => fun
  | [d1, d2] => { results := [.lit (.bool true)], args := [d1, d2] }
  | _ => none }
def fnExactChangesRow : OpenClaim := { program := "ytkdkhdefdfkagaagreat", sum := "023ee14af7c59416c95728e2e8b3c78449a514f74eb5d35fa7269d1744848a3d", func := "loop.example/g00495/laws.FnExactChanges", spec := "fnExactChanges", unfollowed := true, recurses := true, loops := true, apart := false }
def FnExactChangesSaid : Prop := fnExactChangesRow.holds Tryz.pinned (OpenSpec.ofChange fnExactChangesSpec)

/-- ITS FALSE NEIGHBOUR: 'it returns false'. Refute it at one input. -/
def fnExactChangesWrong : ChangeSpec := { name := "fnExactChanges", fn := fun _ => fun
  | [d1, d2] => { results := [.lit (.bool false)], args := [d1, d2] }
  | _ => none }
def FnExactChangesWrongFalsely : Prop := fnExactChangesRow.holds Tryz.pinned (OpenSpec.ofChange fnExactChangesWrong)

/-- 'laws.FnExactEvalExpr': WHATEVER THE INPUT: true; the input reads as it did. -/
def fnExactEvalExprSpec : ChangeSpec := { name := "fnExactEvalExpr", fn := fun _ => fun
  | [d1, d2, d3, d4] => { results := [.lit (.bool true)], args := [d1, d2, d3, d4] }
  | _ => none }
def fnExactEvalExprRow : OpenClaim := { program := "ytkdkhdefdfkagaagreat", sum := "023ee14af7c59416c95728e2e8b3c78449a514f74eb5d35fa7269d1744848a3d", func := "loop.example/g00495/laws.FnExactEvalExpr", spec := "fnExactEvalExpr", unfollowed := true, recurses := true, loops := true, apart := false }
def FnExactEvalExprSaid : Prop := fnExactEvalExprRow.holds Tryz.pinned (OpenSpec.ofChange fnExactEvalExprSpec)

/-- ITS FALSE NEIGHBOUR: 'it returns false'. Refute it at one input. -/
def fnExactEvalExprWrong : ChangeSpec := { name := "fnExactEvalExpr", fn := fun _ => fun
  | [d1, d2, d3, d4] => { results := [.lit (.bool false)], args := [d1, d2, d3, d4] }
  | _ => none }
def FnExactEvalExprWrongFalsely : Prop := fnExactEvalExprRow.holds Tryz.pinned (OpenSpec.ofChange fnExactEvalExprWrong)

/-- 'laws.FnExactEvalNamed': WHATEVER THE INPUT: true; the input reads as it did. -/
def fnExactEvalNamedSpec : ChangeSpec := { name := "fnExactEvalNamed", fn := fun _ => fun
  | [d1, d2, d3, d4] => { results := [.lit (.bool true)], args := [d1, d2, d3, d4] }
  | _ => none }
def fnExactEvalNamedRow : OpenClaim := { program := "ytkdkhdefdfkagaagreat", sum := "023ee14af7c59416c95728e2e8b3c78449a514f74eb5d35fa7269d1744848a3d", func := "loop.example/g00495/laws.FnExactEvalNamed", spec := "fnExactEvalNamed", unfollowed := true, recurses := true, loops := true, apart := false }
def FnExactEvalNamedSaid : Prop := fnExactEvalNamedRow.holds Tryz.pinned (OpenSpec.ofChange fnExactEvalNamedSpec)

/-- ITS FALSE NEIGHBOUR: 'it returns false'. Refute it at one input. -/
def fnExactEvalNamedWrong : ChangeSpec := { name := "fnExactEvalNamed", fn := fun _ => fun
  | [d1, d2, d3, d4] => { results := [.lit (.bool false)], args := [d1, d2, d3, d4] }
  | _ => none }
def FnExactEvalNamedWrongFalsely : Prop := fnExactEvalNamedRow.holds Tryz.pinned (OpenSpec.ofChange fnExactEvalNamedWrong)

/- THE SECOND FORM. 'bulk': how many values and letters a reading holds, each counted each time it is reached (what is shared counts as often as it is met; a slice's spare places count too). A statement '..UptoSaid' is the law's where the arguments, and the package variables that the reading takes, are together of bulk at most 1048576: NARROWER than '..Said'. Prove '..Said' where nothing that the law and all that it calls make is longer than what came in: it says more and counts as full. Else prove '..UptoSaid'. A law counts once. -/
mutual
def uptoBulk {H : Type} : DataW H → Nat
  | .lit (.string bytes) => bytes.length + 1
  | .lit _ => 1
  | .nil => 1
  | .ptr d => uptoBulk d + 1
  | .slice elems spare => uptoBulkAll elems + uptoBulkAll spare + 1
  | .agg parts => uptoBulkAll parts + 1
  | .iface _ d => uptoBulk d + 1
  | .map entries => uptoBulkEntries entries + 1
  | .held _ => 1
def uptoBulkAll {H : Type} : List (DataW H) → Nat
  | [] => 0
  | d :: r => uptoBulk d + uptoBulkAll r
def uptoBulkEntries {H : Type} : List (Lit × DataW H) → Nat
  | [] => 0
  | x :: r => uptoBulkEntry x + uptoBulkEntries r
def uptoBulkEntry {H : Type} : Lit × DataW H → Nat
  | (.string bytes, d) => bytes.length + uptoBulk d + 1
  | (_, d) => uptoBulk d + 1
 end
def uptoSmall : (H : Type) → List (DataW H) → Bool := fun _ ds => decide (uptoBulkAll ds ≤ 1048576)
def OpenSpec.upto (s : _root_.Go.ChangeSpec) : _root_.Go.OpenSpec := { _root_.Go.OpenSpec.ofChange s with cond := some uptoSmall }

/-- 'laws.FnExactBound', WHERE WHAT IT READS IS OF BULK AT MOST 1048576: true; the input reads as it did. -/
def fnExactBoundUptoRow : OpenClaim := { program := "ytkdkhdefdfkagaagreat", sum := "023ee14af7c59416c95728e2e8b3c78449a514f74eb5d35fa7269d1744848a3d", func := "loop.example/g00495/laws.FnExactBound", spec := "fnExactBound", unfollowed := true, recurses := true, loops := true, apart := false, narrowed := true }
def FnExactBoundUptoSaid : Prop := fnExactBoundUptoRow.holds Tryz.pinned (OpenSpec.upto fnExactBoundSpec)

/-- 'laws.FnExactSPlanOk', WHERE WHAT IT READS IS OF BULK AT MOST 1048576: true; the input reads as it did. -/
def fnExactSPlanOkUptoRow : OpenClaim := { program := "ytkdkhdefdfkagaagreat", sum := "023ee14af7c59416c95728e2e8b3c78449a514f74eb5d35fa7269d1744848a3d", func := "loop.example/g00495/laws.FnExactSPlanOk", spec := "fnExactSPlanOk", unfollowed := true, recurses := true, loops := true, apart := false, narrowed := true }
def FnExactSPlanOkUptoSaid : Prop := fnExactSPlanOkUptoRow.holds Tryz.pinned (OpenSpec.upto fnExactSPlanOkSpec)

/-- 'laws.FnExactChanges', WHERE WHAT IT READS IS OF BULK AT MOST 1048576: true; the input reads as it did. -/
def fnExactChangesUptoRow : OpenClaim := { program := "ytkdkhdefdfkagaagreat", sum := "023ee14af7c59416c95728e2e8b3c78449a514f74eb5d35fa7269d1744848a3d", func := "loop.example/g00495/laws.FnExactChanges", spec := "fnExactChanges", unfollowed := true, recurses := true, loops := true, apart := false, narrowed := true }
def FnExactChangesUptoSaid : Prop := fnExactChangesUptoRow.holds Tryz.pinned (OpenSpec.upto fnExactChangesSpec)

/-- 'laws.FnExactEvalExpr', WHERE WHAT IT READS IS OF BULK AT MOST 1048576: true; the input reads as it did. -/
def fnExactEvalExprUptoRow : OpenClaim := { program := "ytkdkhdefdfkagaagreat", sum := "023ee14af7c59416c95728e2e8b3c78449a514f74eb5d35fa7269d1744848a3d", func := "loop.example/g00495/laws.FnExactEvalExpr", spec := "fnExactEvalExpr", unfollowed := true, recurses := true, loops := true, apart := false, narrowed := true }
def FnExactEvalExprUptoSaid : Prop := fnExactEvalExprUptoRow.holds Tryz.pinned (OpenSpec.upto fnExactEvalExprSpec)

/-- 'laws.FnExactEvalNamed', WHERE WHAT IT READS IS OF BULK AT MOST 1048576: true; the input reads as it did. -/
def fnExactEvalNamedUptoRow : OpenClaim := { program := "ytkdkhdefdfkagaagreat", sum := "023ee14af7c59416c95728e2e8b3c78449a514f74eb5d35fa7269d1744848a3d", func := "loop.example/g00495/laws.FnExactEvalNamed", spec := "fnExactEvalNamed", unfollowed := true, recurses := true, loops := true, apart := false, narrowed := true }
def FnExactEvalNamedUptoSaid : Prop := fnExactEvalNamedUptoRow.holds Tryz.pinned (OpenSpec.upto fnExactEvalNamedSpec)

end Rows
end Go.Proofs.YtkdkhdefdfkagaaGreat
