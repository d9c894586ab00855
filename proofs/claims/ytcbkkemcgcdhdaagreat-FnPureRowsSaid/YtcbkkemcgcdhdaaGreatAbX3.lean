/- Rows of plain cells are appended to a tree in a region whose order is left open. -/
import Derived.Test.YtcbkkemcgcdhdaaGreatAbX1
namespace Go.Ab
open Go
variable {P:Program} {s:St} {d:Nat} {acc:List Ev} {KD:List Ev→St→Prop} {rest:List AOp} {α β:Type} {r:β}
theorem bJ9 {f:α→List D} (hf:∀ x,(f x).all D.flat=true) (y:List α):((y.map f).all fun r=>r.all D.flat)=true:=by
  rw [List.all_eq_true]
  intro r hr
  obtain ⟨x,_,rfl⟩:=List.mem_map.1 hr
  exact hf x
theorem aOg {a b:Bool} (h1:a=true) (h2:b=true):(a&&b)=true:=by rw [h1,h2]; rfl
theorem bH0 {c:bI} {x:V} {B:List (Nat×List V)} (h1:x.ptrsIn (c.L'.map (·.1))=true) (h2:uA B (c.L'.map (·.1)) (c.L'.map (·.1))=true) (h3:x.sfree=true) (h4:((c.L'.map (·.1)).all fun n=>V.sfrees ((bget B n).getD []))=true):c.hout x B=true:=by
  unfold bI.hout
  rw [h1,h2]
  split
  · rfl
  · rw [h3,h4]; rfl
end Go.Ab
