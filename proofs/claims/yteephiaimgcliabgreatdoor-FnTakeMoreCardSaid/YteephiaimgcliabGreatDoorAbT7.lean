/- Steps: structs cell by cell in an open order; calls without boxes among calls with trees; trees read and closed by computing. -/
import Derived.Test.YteephiaimgcliabGreatDoorAbT6
import Derived.KernelRfl
namespace Go.Ab
open Go Go.RowKit
theorem FOk.toB {β:Type} {P:Program} {f:FuncId} {args:List V} {v:β→V} {x:Option β} (h:FOk P f args v x):dI P f args [] v (fun _=>[]) x:=fun r hr=>(h r hr).mono fun _ _ e=>⟨e,trivial⟩
section
variable {P:Program} {K:List Ev→St→Prop} {rest:List AOp} {acc:List Ev} {s:St} {d:Nat}
end
section
variable {P:Program} {K:St→Prop} {Q:Exit→St→Prop} {rest:List AOp} {s:St} {d:Nat}
theorem bGo (l:List Tw) {k:List AOp} {s':St} (hs:s.tw l=s') (h:avc P (.ops k) Q s'):avc P (.ops k) Q s:=by
  subst hs
  obtain ⟨s2,h1,h2⟩:=h
  exact ⟨s2,(uH l s).trans h1,h2⟩
end
end Go.Ab
