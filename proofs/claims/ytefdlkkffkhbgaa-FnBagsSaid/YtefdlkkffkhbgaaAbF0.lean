/- Plain functions that the functions of the program are made of. -/
import Derived.WalkKit
import Derived.Lib.ItoaLen
namespace Go.Ab
open Go

/-- an element of a list -/
def idx {α : Type} (l : List α) (i : Int) : Option α := if 0 ≤ i then l[i.toNat]? else none
/-- a part of a list -/
def subl {α : Type} (l : List α) (lo hi : Int) : Option (List α) := if 0 ≤ lo ∧ lo ≤ hi ∧ hi ≤ l.length then some ((l.take hi.toNat).drop lo.toNat) else none
/-- a byte of a string -/
def idxS (l : List UInt8) (i : Int) : Option Int := if 0 ≤ i then l[i.toNat]?.map (fun b => (b.toNat : Int)) else none
/-- two strings joined -/
def catS (a b : List UInt8) : Option (List UInt8) := if a.length + b.length ≤ maxLen then some (a ++ b) else none
/-- a list grown, while it has room -/
def appG {α : Type} (bytes : Nat) (l m : List α) : Option (List α) := if (l.length + m.length) * bytes ≤ 140737488355328 then some (l ++ m) else none
/-- a list of zeros -/
def mkG {α : Type} (bytes : Nat) (n : Int) (z : α) : Option (List α) := if 0 ≤ n ∧ n * bytes ≤ 140737488355328 then some (List.replicate n.toNat z) else none
/-- an element written -/
def setG {α : Type} (l : List α) (i : Int) (v : α) : Option (List α) := if 0 ≤ i ∧ i.toNat < l.length then some (l.set i.toNat v) else none
def quoG (k : IntKind) (a b : Int) : Option Int := if b = 0 then none else some (k.wrap (a.tdiv b))
def remG (a b : Int) : Option Int := if b = 0 then none else some (a.tmod b)
/-- shifts -/
def shlG (k : IntKind) (a b : Int) : Option Int := if 0 ≤ b then some (k.wrap (a * 2 ^ (Nat.min b.toNat k.bits))) else none
def shrG (k : IntKind) (a b : Int) : Option Int := if 0 ≤ b then some (a.fdiv (2 ^ (Nat.min b.toNat k.bits))) else none
/-- bytes as a string -/
def ofBytes (l : List Int) : Option (List UInt8) := if l.all (fun n => decide (0 ≤ n ∧ n < 256)) then some (l.map fun n => UInt8.ofNat n.toNat) else none
def toBytes (l : List UInt8) : List Int := l.map fun b => (b.toNat : Int)
/- what every value of a type satisfies -/
def okI (n : Int) : Prop := -9223372036854775808 ≤ n ∧ n ≤ 9223372036854775807
def okU8 (n : Int) : Prop := 0 ≤ n ∧ n ≤ 255
def okB (_ : Bool) : Prop := True
def okS (s : List UInt8) : Prop := s.length ≤ 9223372036854775807
def okL {α : Type} (p : α → Prop) (l : List α) : Prop := l.length ≤ 9223372036854775807 ∧ ∀ x ∈ l, p x
end Go.Ab
