/- Rows of plain cells are appended to a tree in a region whose order is left open. -/
import Derived.Test.YtfomfmjicgdebaaGreatDoorAbX1
namespace Go.Ab
open Go
variable {P:Program} {s:St} {d:Nat} {acc:List Ev} {KD:List Ev→St→Prop} {rest:List AOp} {α β:Type} {r:β}
end Go.Ab
