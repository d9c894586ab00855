/- A made slice in a region whose order is left open; a built slice under a guard. -/
import Derived.Test.YtcbkkemcgcdhdaaGreatAbX1
namespace Go.Ab
open Go
open _root_.List renaming replicate→QA,map_replicate→QB
variable {P:Program} {s:St} {d:Nat} {acc:List Ev} {K:List Ev→St→Prop} {rest:List AOp} {α β:Type} {r:β} {k k':IntKind}
def evO (s:St) (d:Nat) (e:TypeId) (sz by':Nat) (zs:List D) (x y:AO) (l:List (List D)):Ev:={ o:=.mks d e sz by' zs x y,d:=some d,r:=.osl d e sz l,rt:=oQ s (x.rd++y.rd),fr:=[d] }
theorem bWq {e:TypeId} {sz by':Nat} {zs:List D} {x y:AO} {n:Int} (hn:(conds s [x,y]).all id=true) (h1:(ev s x).str=.d (.i k n)) (h2:(ev s y).str=.d (.i k' n)) (h0:0≤n∧n * by'≤140737488355328):nG P (evO s d e sz by' zs x y (QA n.toNat zs)):=by
  intro s' hrd hg
  have hag:Agree s s' (x.rd++y.rd) []:=⟨kN hrd.rt,fun p hp=>by simp at hp⟩
  have e1:ev s' x=ev s x:=hag.l.ev
  have e2:ev s' y=ev s y:=hag.r.ev
  show use (ev s' x) _
  rw [e1]
  refine fH (jL hn) ?_
  show use (ev s' y) _
  rw [e2]
  refine fH (jL (sF hn)) ?_
  rw [h1,h2]
  exact .inr (.inr ⟨rfl,h0.1,h0.2,hg.fr d (by simp [evO]),rfl⟩)
theorem bEj {e sz by':Nat} {zs:List D} {xo yo:AO} {n:Int} {z:α} {f:α→List D} {kF:List α→Option β} {S':List α→St} (h:(mkG by' n z>>=kF)=some r) (hn:(conds s [xo,yo]).all id=true) (h1:(ev s xo).str=.d (.i k n)) (h2:(ev s yo).str=.d (.i k' n)) (hz:zs=f z)
    (hS:∀ y:List α,eff (evO s d e sz by' zs xo yo (y.map f)) s=S' y) (hk:∀ y,kF y=some r→dgo P K rest (evO s d e sz by' zs xo yo (y.map f)::acc) (S' y)):dgo P K (.mks d e sz by' zs xo yo::rest) acc s:=by
  unfold mkG at h
  split at h
  · rename_i h0
    have:=hk _ h
    rw [QB,← hz] at this
    have hS2:=hS (QA n.toNat z)
    rw [QB,← hz] at hS2
    refine ⟨evO s d e sz by' zs xo yo (QA n.toNat zs),rfl,bWq hn h1 h2 h0,⟨qH,fun p hp=>by simp [evO] at hp,fun p hp=>by simp [evO] at hp⟩,?_⟩
    rw [hS2]; exact this
  · simp at h
end Go.Ab
