/- Plain functions that the functions of the program are made of. -/
import Derived.WalkKit
namespace Go.Ab
open Go
def idx {α:Type} (l:List α) (i:Int):Option α:=if 0≤i then l[i.toNat]? else none
def iR {α:Type} (l:List α) (lo hi:Int):Option (List α):=if 0≤lo∧lo≤hi∧hi≤l.length then some ((l.take hi.toNat).drop lo.toNat) else none
def aG5 (l:List UInt8) (i:Int):Option Int:=if 0≤i then l[i.toNat]?.map (fun b=>(b.toNat:Int)) else none
def pW (a b:List UInt8):Option (List UInt8):=if a.length+b.length≤maxLen then some (a++b) else none
def appG {α:Type} (bytes:Nat) (l m:List α):Option (List α):=if (l.length+m.length) * bytes≤140737488355328 then some (l++m) else none
def mkG {α:Type} (bytes:Nat) (n:Int) (z:α):Option (List α):=if 0≤n∧n * bytes≤140737488355328 then some (List.replicate n.toNat z) else none
def jR {α:Type} (l:List α) (i:Int) (v:α):Option (List α):=if 0≤i∧i.toNat<l.length then some (l.set i.toNat v) else none
def xZ (k:IntKind) (a b:Int):Option Int:=if b=0 then none else some (k.wrap (a.tdiv b))
def yE (a b:Int):Option Int:=if b=0 then none else some (a.tmod b)
def ofBytes (l:List Int):Option (List UInt8):=if l.all (fun n=>decide (0≤n∧n<256)) then some (l.map fun n=>UInt8.ofNat n.toNat) else none
def mG (l:List UInt8):List Int:=l.map fun b=>(b.toNat:Int)
def okI (n:Int):Prop := -9223372036854775808≤n∧n≤9223372036854775807
def okU8 (n:Int):Prop:=0≤n∧n≤255
def okB (_:Bool):Prop:=True
def okS (s:List UInt8):Prop:=s.length≤9223372036854775807
def okL {α:Type} (p:α→Prop) (l:List α):Prop:=l.length≤9223372036854775807∧∀ x∈l,p x
end Go.Ab
