/- Steps: structs cell by cell in an open order; calls without boxes among calls with trees; trees read and closed by computing. -/
import Derived.Test.YtcbkkemcgcdhdabGreatAbT6
import Derived.KernelRfl
namespace Go.Ab
open Go Go.RowKit
variable {k:List AOp} {s':St}
theorem FOk.toB {β:Type} {P:Program} {f:FuncId} {args:List V} {v:β→V} {x:Option β} (h:FOk P f args v x):cO P f args [] v (fun _=>[]) x:=fun r hr=>(h r hr).mono fun _ _ e=>⟨e,trivial⟩
section
variable {P:Program} {K:List Ev→St→Prop} {rest:List AOp} {acc:List Ev} {s:St} {d:Nat}
end
section
variable {P:Program} {K:St→Prop} {Q:Exit→St→Prop} {rest:List AOp} {s:St} {d:Nat}
theorem cBi {α β:Type} {l:List α} {X Y:Option β} {r:β} {A B:Prop} (h:(if (decide ((l.length:Int)=0))=true then X else Y)=some r) (h0:l≠[]→Y=some r→A) (hk:l=[]→X=some r→A∧B):A∧(l=[]→B):=by
 by_cases e:l=[]
 ·rw [if_pos (by simp [e])] at h;exact ⟨(hk e h).1,fun _=>(hk e h).2⟩
 ·rw [if_neg (by simp [e])] at h;exact ⟨h0 e h,fun e'=>absurd e' e⟩
theorem bKq {α β:Type} {r:β} {X Y:Option β} {neg:Bool} {sz:Nat} {xo:AO} {l:List α} {f:α→List D} (h:(if (decide ((l.length:Int)=0))=true then X else Y)=some r) (hn:(conds s [xo]).all id=true) (h1:slV (ev s xo).str=some (sz,l.map f))
  (h0:l≠[]→Y=some r→bM P K rest (s.put d (.d (.b (neg ^^ false))))) (hk:l=[]→X=some r→bM P K rest (s.put d (.d (.b (neg ^^ false))))∧bM P K rest (s.put d (.d (.b (neg ^^ true))))):bM P K (.eqn d neg xo::rest) s:=by
 obtain ⟨h0,hk⟩:=cBi h h0 hk;show aop P s (bM P K rest) (.eqn d neg xo);have both:l.map f=[]→∀ b,bM P K rest (s.put d (.d (.b b))):=fun e b=>by
  have e':l=[]:=by simpa using e
  have:=hk e';cases neg <;> cases b <;> first | exact h0 | exact this
 simp only [aop,vop];refine fE (iE hn) ?_;revert h1;generalize (ev s xo).str=x;intro h1;split
 ·simp [slV] at h1;exact both (by simp [h1]) _
 ·simp [slV] at h1
 ·exact aGd h1 ⟨fun _=>h0,both⟩
theorem bXz (l:List Tw) (hs:s.tw l=s') (h:avc P (.ops k) Q s'):avc P (.ops k) Q s:=by
 subst hs;obtain ⟨s2,h1,h2⟩:=h;exact ⟨s2,(uQ l s).trans h1,h2⟩
theorem bY7 (l:List Tw) {w:List (List Nat)} (hs:s.tw l=s') (h:avc P (.dops w k) Q s'):avc P (.dops w k) Q s:=by
 subst hs;obtain ⟨s2,h1,h2⟩:=h;exact ⟨s2,(uQ l s).trans h1,h2⟩
end
end Go.Ab
