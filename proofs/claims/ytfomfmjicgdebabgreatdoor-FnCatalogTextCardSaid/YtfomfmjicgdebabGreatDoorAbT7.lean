/- Steps: structs cell by cell in an open order; calls without boxes among calls with trees; trees read and closed by computing. -/
import Derived.Test.YtfomfmjicgdebabGreatDoorAbT6
import Derived.KernelRfl
namespace Go.Ab
open Go Go.RowKit
theorem FOk.toB {β:Type} {P:Program} {f:FuncId} {args:List V} {v:β→V} {x:Option β} (h:FOk P f args v x):dU P f args [] v (fun _=>[]) x:=fun r hr=>(h r hr).mono fun _ _ e=>⟨e,trivial⟩
section
variable {P:Program} {K:List Ev→St→Prop} {rest:List AOp} {acc:List Ev} {s:St} {d:Nat}
def evW (s:St) (d:Nat) (zero:List V) (parts:List (Nat×Nat×AO)) (c:List V):Ev:={ o:=.bld d zero parts,d:=some d,r:=.agv c,rt:=kW s (parts.flatMap fun p=>p.2.2.rd) }
theorem bPg {s' : St} {zero c : List V} {parts : List (Nat × Nat × AO)} (hn : (parts.flatMap fun p => (ev s p.2.2).cond).all id = true) (h : zL s parts zero = some c) (hs : eff (evW s d zero parts c) s = s') (hk : dgo P K rest (evW s d zero parts c :: acc) s') :
    dgo P K (.bld d zero parts::rest) acc s:=by
  refine ⟨_,rfl,?_,⟨nG,fun p hp=>absurd (show p ∈ ([]:List (Nat×List V)) from hp) (by simp),fun p hp=>absurd (show p ∈ ([]:List (Nat×List V)) from hp) (by simp)⟩,by rw [hs]; exact hk⟩
  intro s2 hrd _
  exact .inr (aHe (B:=[]) ⟨gZ hrd.rt,fun p hp=>by simp at hp⟩ (aC0 (s:=s) (C:=fun c'=>(s2.put d (.agv c'))=eff (evW s d zero parts c) s2) hn h rfl))
end
section
variable {P:Program} {K:St→Prop} {Q:Exit→St→Prop} {rest:List AOp} {s:St} {d:Nat}
theorem bV7 (l:List Tw) {k:List AOp} {s':St} (hs:s.tw l=s') (h:avc P (.ops k) Q s'):avc P (.ops k) Q s:=by
  subst hs
  obtain ⟨s2,h1,h2⟩:=h
  exact ⟨s2,(qY l s).trans h1,h2⟩
theorem bIl (l:List Tw) {w:List (List Nat)} {k:List AOp} {s':St} (hs:s.tw l=s') (h:avc P (.dops w k) Q s'):avc P (.dops w k) Q s:=by
  subst hs
  obtain ⟨s2,h1,h2⟩:=h
  exact ⟨s2,(qY l s).trans h1,h2⟩
end
end Go.Ab
