/- Steps: structs cell by cell in an open order; calls without boxes among calls with trees; trees read and closed by computing. -/
import Derived.Test.YtcbkkemcgcdhdaaGreatAbT6
import Derived.KernelRfl
namespace Go.Ab
open Go Go.RowKit
theorem FOk.toB {β:Type} {P:Program} {f:FuncId} {args:List V} {v:β→V} {x:Option β} (h:FOk P f args v x):cO P f args [] v (fun _=>[]) x:=fun r hr=>(h r hr).mono fun _ _ e=>⟨e,trivial⟩
section
variable {P:Program} {K:List Ev→St→Prop} {rest:List AOp} {acc:List Ev} {s:St} {d:Nat}
def evW (s:St) (d:Nat) (zero:List V) (parts:List (Nat×Nat×AO)) (c:List V):Ev:={ o:=.bld d zero parts,d:=some d,r:=.agv c,rt:=oQ s (parts.flatMap fun p=>p.2.2.rd) }
theorem aFo {s':St} {zero c:List V} {parts:List (Nat×Nat×AO)} (hn:(parts.flatMap fun p=>(ev s p.2.2).cond).all id=true) (h:aB0 s parts zero=some c) (hs:eff (evW s d zero parts c) s=s') (hk:dgo P K rest (evW s d zero parts c::acc) s') :
    dgo P K (.bld d zero parts::rest) acc s:=by
  refine ⟨_,rfl,?_,⟨qH,fun p hp=>absurd (show p∈([]:List (Nat×List V)) from hp) (by simp),fun p hp=>absurd (show p∈([]:List (Nat×List V)) from hp) (by simp)⟩,by rw [hs]; exact hk⟩
  intro s2 hrd _
  exact .inr (aXd (B:=[]) ⟨kN hrd.rt,fun p hp=>by simp at hp⟩ (aNr (s:=s) (C:=fun c'=>(s2.put d (.agv c'))=eff (evW s d zero parts c) s2) hn h rfl))
end
section
variable {P:Program} {K:St→Prop} {Q:Exit→St→Prop} {rest:List AOp} {s:St} {d:Nat}
theorem bUd {α β:Type} {l:List α} {X Y:Option β} {r:β} {A B:Prop} (h:(if (decide ((l.length:Int)=0))=true then X else Y)=some r) (h0:l≠[]→Y=some r→A) (hk:l=[]→X=some r→A∧B):A∧(l=[]→B):=by
  by_cases e:l=[]
  · rw [if_pos (by simp [e])] at h
    exact ⟨(hk e h).1,fun _=>(hk e h).2⟩
  · rw [if_neg (by simp [e])] at h
    exact ⟨h0 e h,fun e'=>absurd e' e⟩
theorem bJp {α β:Type} {r:β} {X Y:Option β} {neg:Bool} {sz:Nat} {xo:AO} {l:List α} {f:α→List D} (h:(if (decide ((l.length:Int)=0))=true then X else Y)=some r) (hn:(conds s [xo]).all id=true) (h1:slV (ev s xo).str=some (sz,l.map f))
    (h0:l≠[]→Y=some r→bN P K rest (s.put d (.d (.b (neg ^^ false))))) (hk:l=[]→X=some r→bN P K rest (s.put d (.d (.b (neg ^^ false))))∧bN P K rest (s.put d (.d (.b (neg ^^ true))))):bN P K (.eqn d neg xo::rest) s:=by
  obtain ⟨h0,hk⟩:=bUd h h0 hk
  show aop P s (bN P K rest) (.eqn d neg xo)
  have both:l.map f=[]→∀ b,bN P K rest (s.put d (.d (.b b))):=fun e b=>by
    have e':l=[]:=by simpa using e
    have:=hk e'
    cases neg <;> cases b <;> first | exact h0 | exact this
  simp only [aop,vop]
  refine fH (jL hn) ?_
  revert h1
  generalize (ev s xo).str=x
  intro h1
  split
  · simp [slV] at h1
    exact both (by simp [h1]) _
  · simp [slV] at h1
  · exact aEa h1 ⟨fun _=>h0,both⟩
theorem cF6 (l:List Tw) {k:List AOp} {s':St} (hs:s.tw l=s') (h:avc P (.ops k) Q s'):avc P (.ops k) Q s:=by
  subst hs
  obtain ⟨s2,h1,h2⟩:=h
  exact ⟨s2,(vE l s).trans h1,h2⟩
theorem cGa (l:List Tw) {w:List (List Nat)} {k:List AOp} {s':St} (hs:s.tw l=s') (h:avc P (.dops w k) Q s'):avc P (.dops w k) Q s:=by
  subst hs
  obtain ⟨s2,h1,h2⟩:=h
  exact ⟨s2,(vE l s).trans h1,h2⟩
end
end Go.Ab
