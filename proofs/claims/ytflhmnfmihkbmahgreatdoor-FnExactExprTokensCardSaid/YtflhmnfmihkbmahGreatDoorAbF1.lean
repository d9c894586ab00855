/- Plain functions: what the library's functions on texts compute. -/
import Derived.Test.YtflhmnfmihkbmahGreatDoorAbF0
import Derived.Lib.ItoaLen
import Derived.Lib.ReplaceLaws
import Derived.Lib.Split
import Derived.Lib.AtoiAllCases
namespace Go.Ab
open Go
def aKi (s old new:List UInt8):Option (List UInt8):=if s.length≤2000000∧1≤old.length∧new.length≤2000000∧(Lib.replaceAll s old new).length≤1000000000000 then some (Lib.replaceAll s old new) else none
def G6 (s sep:List UInt8):Option (List (List UInt8)):=if s.length≤2000000∧1≤sep.length then some (Lib.split s sep) else none
end Go.Ab
