/- Sizes of data,for the decoding of recursive types. -/
import Derived.Test.YtcbkkemcgcdhdabGreatAbG1
namespace Go.Ab
open Go Go.RowKit
theorem bWl (l:List D):∀ o,SizeOf.sizeOf (l.drop o)≤SizeOf.sizeOf l:=by
 induction l with
 | nil=>intro o; simp
 | cons x l ih =>
  intro o;cases o with
  | zero=>simp
  | succ o=>have:=ih o; simp; omega
theorem cDo (l:List D):∀ n,SizeOf.sizeOf (l.take n)≤SizeOf.sizeOf l:=by
 induction l with
 | nil=>intro n; simp
 | cons x l ih =>
  intro n;cases n with
  | zero=>simp; omega
  | succ n=>have:=ih n; simp; omega
theorem aD2 (l:List D) (o n:Nat):SizeOf.sizeOf ((l.drop o).take n)≤SizeOf.sizeOf l:=Nat.le_trans (cDo _ _) (bWl _ _)
theorem aNn {sz:Nat} {ls:List (List D)} {x:List D} (h:x∈ls):SizeOf.sizeOf x<SizeOf.sizeOf [D.sl sz ls]:=by
 have:=List.sizeOf_lt_of_mem h;simp; omega
end Go.Ab
