/- Steps: operations on trees,in order or in an open order. -/
import Derived.Test.YthgkmdkjegiaoadGreatAbC3
namespace Go.Ab
open Go Go.RowKit
theorem aVl:∀ {l:List Nat},nodupB l=true→l.Nodup
  | [],_=>by simp
  | x::l,h=>by
    obtain ⟨h1,h2⟩:=nodup_cons h
    exact List.nodup_cons.2 ⟨h1,aVl h2⟩
section
variable {P:Program} {K:St→Prop} {KD:List Ev→St→Prop} {rest:List AOp} {acc:List Ev} {s:St} {α β:Type} {r:β} {d:Nat}
end
end Go.Ab
