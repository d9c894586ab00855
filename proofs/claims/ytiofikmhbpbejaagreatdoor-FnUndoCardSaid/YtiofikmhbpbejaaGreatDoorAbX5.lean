/- Rows of data that nobody else sees: steps. -/
import Derived.Test.YtiofikmhbpbejaaGreatDoorAbX1
namespace Go.Ab
open Go Go.RowKit
section
variable {P:Program} {K:St→Prop} {KD:List Ev→St→Prop} {rest:List AOp} {acc:List Ev} {s:St} {α β:Type} {r:β} {d:Nat}
theorem bVi {n:Nat} {xo:AO} {l:List (List D)} {L:Nat} (hn:(conds s [xo]).all id=true) (hx:(ev s xo).str=.tre n) (hb:aOl s n=some l) (hl:l.length=L):vop s (fun y=>y=.d (.i .i64 L)) (.len d xo):=by
  subst hl
  simp only [vop]
  refine iL (nS hn) ?_
  rw [hx]
  show trL s n _
  unfold aOl at hb
  unfold trL
  split at hb <;> simp at hb
  · rename_i h; rw [h]; subst hb; rfl
  · rename_i h; rw [h]; subst hb; rfl
  · rename_i h; rw [h]; subst hb; rfl
end
end Go.Ab
