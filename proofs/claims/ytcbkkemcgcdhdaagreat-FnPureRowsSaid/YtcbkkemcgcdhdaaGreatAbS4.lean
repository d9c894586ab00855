/- Steps: slices that are made,written,and then taken for plain data. -/
import Derived.Test.YtcbkkemcgcdhdaaGreatAbS3
namespace Go.Ab
open Go Go.RowKit
section
variable {P:Program} {K:St→Prop} {rest:List AOp} {s:St} {α β:Type} {d:Nat} {r:β} {k k':IntKind}
end
theorem Wk.trans {s s' s'':St} (h1:Wk s s') (h2:Wk s' s''):Wk s s'':=fun E N κ w a hfb h=>by
  obtain ⟨κ',h'⟩:=h1 E N κ w a hfb h
  exact h2 E N κ' w a hfb h'
end Go.Ab
