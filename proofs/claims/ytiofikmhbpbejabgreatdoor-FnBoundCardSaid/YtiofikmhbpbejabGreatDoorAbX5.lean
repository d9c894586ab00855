/- Rows of data that nobody else sees: steps. -/
import Derived.Test.YtiofikmhbpbejabGreatDoorAbX1
namespace Go.Ab
open Go Go.RowKit
section
variable {P:Program} {K:St→Prop} {KD:List Ev→St→Prop} {rest:List AOp} {acc:List Ev} {s:St} {α β:Type} {r:β} {d:Nat}
theorem bZ5 {n sz:Nat} {k:IntKind} {xo io:AO} {l:List α} {f:α→List D} {i:Int} {y:α} (hy:idx l i=some y) (hb:bget s.bx n=some [.trc sz (l.map f)]) (hn:(conds s [xo,io]).all id=true) (h1:(ev s xo).str=.tre n) (h2:(ev s io).str=.d (.i k i)) :
    vop s (fun v=>v=.trp n sz i.toNat 0) (.ia d sz xo io):=by
  obtain ⟨h0,hg⟩:=aB7 hy
  simp only [vop]
  refine iY (nW hn) (iY (nW (D9 hn)) ?_)
  rw [h1,h2]
  exact ⟨h0,.inr (.inr ⟨_,hb,by rw [List.length_map]; exact (List.getElem?_eq_some_iff.1 hg).1⟩),rfl⟩
theorem cHc {n sz off m:Nat} {agg:Bool} {xo:AO} {l:List α} {f g:α→List D} {j:Int} {y:α} {v:V} (hy:idx l j=some y) (hfg:∀ x,f x=g x) (hb:bget s.bx n=some [.trc sz (l.map f)]) (hn:(conds s [xo]).all id=true) (hx:(ev s xo).str=.trp n sz j.toNat off) (hfl:(((g y).drop off).take m).all D.flat=true) (hv:aKv m agg (((g y).drop off).take m)=some v) :
    vop s (fun y=>y=v) (.ld d m agg xo):=by
  simp only [vop]
  refine iY (nW hn) ?_
  rw [hx]
  exact .inr (.inr ⟨_,_,hb,by rw [List.getElem?_map,(aB7 hy).2]; rfl,by rw [hfg]; exact hfl,by rw [hfg]; exact bC9 hv rfl⟩)
theorem bZ7 {n:Nat} {xo:AO} {l:List (List D)} {L:Nat} (hn:(conds s [xo]).all id=true) (hx:(ev s xo).str=.tre n) (hb:aQi s n=some l) (hl:l.length=L):vop s (fun y=>y=.d (.i .i64 L)) (.len d xo):=by
  subst hl
  simp only [vop]
  refine iY (nW hn) ?_
  rw [hx]
  show trL s n _
  unfold aQi at hb
  unfold trL
  split at hb <;> simp at hb
  · rename_i h; rw [h]; subst hb; rfl
  · rename_i h; rw [h]; subst hb; rfl
  · rename_i h; rw [h]; subst hb; rfl
end
end Go.Ab
