/- Plain functions: what the library's functions on texts compute. -/
import Derived.Test.YtfomfmjicgdebabGreatDoorAbF0
import Derived.Lib.ItoaLen
import Derived.Lib.ReplaceLaws
import Derived.Lib.Split
import Derived.Lib.AtoiAllCases
namespace Go.Ab
open Go
def aDg (s old new:List UInt8):Option (List UInt8):=if s.length≤2000000∧1≤old.length∧new.length≤2000000∧(Lib.replaceAll s old new).length≤1000000000000 then some (Lib.replaceAll s old new) else none
def aGt (s sep:List UInt8):Option (List (List UInt8)):=if s.length≤2000000∧1≤sep.length then some (Lib.split s sep) else none
def aDr (s sub:List UInt8):Option Int:=if s.length≤2000000 then some (Lib.index s sub) else none
def gN (s:List UInt8):Int×Bool:=match Lib.atoiAll s with
  | .ok n=>if n<0 then (0,false) else if Lib.itoa n=s then (n,true) else (0,false)
  | _=>(0,false)
def V4 (s:List UInt8):Option (Int×Bool):=if s.length≤2000000 then some (gN s) else none
end Go.Ab
