/- Plain functions: what the library's functions on texts compute. -/
import Derived.Test.YtfomfmjicgdebaaGreatDoorAbF0
import Derived.Lib.ItoaLen
import Derived.Lib.ReplaceLaws
import Derived.Lib.Split
import Derived.Lib.AtoiAllCases
namespace Go.Ab
open Go
def aDz (s sep:List UInt8):Option (List (List UInt8)):=if s.length≤2000000∧1≤sep.length then some (Lib.split s sep) else none
def iA (s:List UInt8):Int×Bool:=match Lib.atoiAll s with
  | .ok n=>if n<0 then (0,false) else if Lib.itoa n=s then (n,true) else (0,false)
  | _=>(0,false)
def P5 (s:List UInt8):Option (Int×Bool):=if s.length≤2000000 then some (iA s) else none
end Go.Ab
