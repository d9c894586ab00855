/- Sizes of data, for the decoding of recursive types. -/
import Derived.Test.YtefdlkkffkhbgaaAbG1
namespace Go.Ab
open Go Go.RowKit
theorem size_drop (l : List D) : ∀ o, SizeOf.sizeOf (l.drop o) ≤ SizeOf.sizeOf l := by
  induction l with
  | nil => intro o; simp
  | cons x l ih =>
    intro o
    cases o with
    | zero => simp
    | succ o => have := ih o; simp; omega
theorem size_take (l : List D) : ∀ n, SizeOf.sizeOf (l.take n) ≤ SizeOf.sizeOf l := by
  induction l with
  | nil => intro n; simp
  | cons x l ih =>
    intro n
    cases n with
    | zero => simp; omega
    | succ n => have := ih n; simp; omega
theorem size_sub (l : List D) (o n : Nat) : SizeOf.sizeOf ((l.drop o).take n) ≤ SizeOf.sizeOf l := Nat.le_trans (size_take _ _) (size_drop _ _)
theorem size_mem {sz : Nat} {ls : List (List D)} {x : List D} (h : x ∈ ls) : SizeOf.sizeOf x < SizeOf.sizeOf [D.sl sz ls] := by
  have := List.sizeOf_lt_of_mem h
  simp; omega
end Go.Ab
