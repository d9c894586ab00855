/- Steps: structs cell by cell in an open order; calls without boxes among calls with trees; trees read and closed by computing. -/
import Derived.Test.YtfomfmjicgdebaaGreatDoorAbT6
import Derived.KernelRfl
namespace Go.Ab
open Go Go.RowKit
theorem FOk.toB {β:Type} {P:Program} {f:FuncId} {args:List V} {v:β→V} {x:Option β} (h:FOk P f args v x):dV P f args [] v (fun _=>[]) x:=fun r hr=>(h r hr).mono fun _ _ e=>⟨e,trivial⟩
section
variable {P:Program} {K:List Ev→St→Prop} {rest:List AOp} {acc:List Ev} {s:St} {d:Nat}
end
section
variable {P:Program} {K:St→Prop} {Q:Exit→St→Prop} {rest:List AOp} {s:St} {d:Nat}
end
end Go.Ab
