/- A made slice in a region whose order is left open; a built slice under a guard. -/
import Derived.Test.YthgkmdkjegiaoabGreatAbX1
namespace Go.Ab
open Go
variable {P:Program} {s:St} {d:Nat} {acc:List Ev} {K:List Ev→St→Prop} {rest:List AOp} {α β:Type} {r:β} {k k':IntKind}
def wH (s:St) (sz:Nat):List AO→Option (List (List D))
  | []=>some []
  | x :: r => if (ev s x).str.solid then match V.asDs (ev s x).str.cells, wH s sz r with
      | some ds,some l=>if ds.length=sz then some (ds::l) else none
      | _,_=>none
    else none
theorem aNw {s:St} {sz:Nat}:∀ {xs:List AO} {l:List (List D)} {C:List (List D)→Prop},(conds s xs).all id=true→wH s sz xs=some l→C l→uB s sz xs C
  | [],l,C,_,h,hC=>by simp [wH] at h; subst h; exact hC
  | x::r,l,C,hn,h,hC=>by
    simp only [wH] at h
    split at h
    · rename_i h0
      split at h
      · rename_i h1 h2
        split at h <;> simp at h
        rename_i h3; subst h
        exact fM (kG hn) ⟨h0,_,h1,h3,aNw (rH hn) h2 hC⟩
      · simp at h
    · simp at h
theorem bOr {Q : St → Prop} {j : Nat} {want p b : Bool} {e sz : Nat} {xs : List AO} {l : List (List D)} (hb : fH (lk s.env j) = some (p, b)) (hf : s.fresh d = true) (hn : (p && (b == want)) = true → (conds s xs).all id = true) (he : wH s sz xs = some l)
    (hk:bM P Q rest (s.put d (.ite (p&&(b==want)) (.d (.sl sz l))))):bM P Q (.g j want (.bsl d e sz xs)::rest) s:=by
  show aop P s (bM P Q rest) (.g j want (.bsl d e sz xs))
  simp only [aop]
  exact sI hb ⟨_,fun hc=>⟨hf,aNw (hn hc) he rfl⟩,hk⟩
def aEe (s:St) (o:AOp) (d:Nat) (r:V):Ev:={ o:=o,d:=some d,r:=r,rt:=lJ s o.rd,fr:=[d] }
theorem cDq {j : Nat} {want p b : Bool} {e sz : Nat} {xs : List AO} {l : List (List D)} (hb : fH (lk s.env j) = some (p, b)) (hn : (p && (b == want)) = true → (conds s xs).all id = true) (he : wH s sz xs = some l)
    (hk:dgo P K rest (aEe s (.g j want (.bsl d e sz xs)) d (.ite (p&&(b==want)) (.d (.sl sz l)))::acc) (s.put d (.ite (p&&(b==want)) (.d (.sl sz l))))):dgo P K (.g j want (.bsl d e sz xs)::rest) acc s:=by
  refine ⟨aEe s (.g j want (.bsl d e sz xs)) d (.ite (p&&(b==want)) (.d (.sl sz l))),rfl,?_,⟨lX,fun p hp=>by simp [aEe] at hp,fun p hp=>by simp [aEe] at hp⟩,hk⟩
  intro s' hrd hg
  have e1:xs.map (ev s')=xs.map (ev s):=Agree.evs (B:=[]) ⟨fun t ht=>jG hrd.rt t (by simp only [AOp.rd,List.mem_cons]; exact .inr ht),fun p hp=>by simp at hp⟩
  have hj:lk s'.env j=lk s.env j:=jG hrd.rt j (by simp [AOp.rd])
  have h2:conds s' xs=conds s xs∧wH s' sz xs=wH s sz xs:=by
    clear hn he hrd hg hk
    induction xs with
    | nil=>exact ⟨rfl,rfl⟩
    | cons x xs ih =>
      simp only [List.map_cons,List.cons.injEq] at e1
      obtain ⟨i1,i2⟩:=ih e1.2
      exact ⟨by simp only [conds,e1.1,i1],by simp only [wH,e1.1,i2]⟩
  show aop P s' _ (.g j want (.bsl d e sz xs))
  simp only [aop]
  rw [hj]
  exact sI hb ⟨_,fun hc=>⟨hg.fr d (by simp [aEe]),aNw (by rw [h2.1]; exact hn hc) (by rw [h2.2]; exact he) rfl⟩,rfl⟩
def evO (s:St) (d:Nat) (e:TypeId) (sz by':Nat) (zs:List D) (x y:AO) (l:List (List D)):Ev:={ o:=.mks d e sz by' zs x y,d:=some d,r:=.osl d e sz l,rt:=lJ s (x.rd++y.rd),fr:=[d] }
theorem bR5 {e:TypeId} {sz by':Nat} {zs:List D} {x y:AO} {n:Int} (hn:(conds s [x,y]).all id=true) (h1:(ev s x).str=.d (.i k n)) (h2:(ev s y).str=.d (.i k' n)) (h0:0≤n∧n * by'≤140737488355328):kH P (evO s d e sz by' zs x y (List.replicate n.toNat zs)):=by
  intro s' hrd hg
  have hag:Agree s s' (x.rd++y.rd) []:=⟨jG hrd.rt,fun p hp=>by simp at hp⟩
  have e1:ev s' x=ev s x:=hag.l.ev
  have e2:ev s' y=ev s y:=hag.r.ev
  show use (ev s' x) _
  rw [e1]
  refine fM (kG hn) ?_
  show use (ev s' y) _
  rw [e2]
  refine fM (kG (rH hn)) ?_
  rw [h1,h2]
  exact .inr (.inr ⟨rfl,h0.1,h0.2,hg.fr d (by simp [evO]),rfl⟩)
theorem bD9 {e sz by' : Nat} {zs : List D} {xo yo : AO} {n : Int} {z : α} {f : α → List D} {kF : List α → Option β} {S' : List α → St} (h : (mkG by' n z >>= kF) = some r) (hn : (conds s [xo, yo]).all id = true) (h1 : (ev s xo).str = .d (.i k n)) (h2 : (ev s yo).str = .d (.i k' n)) (hz : zs = f z)
    (hS:∀ y:List α,eff (evO s d e sz by' zs xo yo (y.map f)) s=S' y) (hk:∀ y,kF y=some r→dgo P K rest (evO s d e sz by' zs xo yo (y.map f)::acc) (S' y)):dgo P K (.mks d e sz by' zs xo yo::rest) acc s:=by
  unfold mkG at h
  split at h
  · rename_i h0
    have:=hk _ h
    rw [List.map_replicate,← hz] at this
    have hS2:=hS (List.replicate n.toNat z)
    rw [List.map_replicate,← hz] at hS2
    refine ⟨evO s d e sz by' zs xo yo (List.replicate n.toNat zs),rfl,bR5 hn h1 h2 h0,⟨lX,fun p hp=>by simp [evO] at hp,fun p hp=>by simp [evO] at hp⟩,?_⟩
    rw [hS2]; exact this
  · simp at h
end Go.Ab
