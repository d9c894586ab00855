/- Plain functions: what the library's functions on texts compute. -/
import Derived.Test.YtiofikmhbpbejabGreatDoorAbF0
import Derived.Lib.ItoaLen
import Derived.Lib.ReplaceLaws
import Derived.Lib.Split
import Derived.Lib.AtoiAllCases
namespace Go.Ab
open Go
end Go.Ab
