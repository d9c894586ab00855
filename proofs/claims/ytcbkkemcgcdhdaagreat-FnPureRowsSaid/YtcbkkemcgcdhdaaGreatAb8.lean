/- Soundness of the value operations,put together. -/
import Derived.Test.YtcbkkemcgcdhdaaGreatAb7
import Derived.Laws.Cover3
namespace Go.Ab
open Go Go.RowKit
open _root_.Nat renaming le_refl→QA
section
variable {E:Entry} {N:Nat} {κ:Ctx} {w:World} {a:Act} {s:St} {P:Program} {C:V→Prop}
theorem yv {r:Sem Value} {v:Value} {x:V} (h:r.run P w=.ok v w) (hr:aR κ v x) (hC:C x):Yields P κ w (do pure (.value (← r))) C:=Yields.val h hr hC
theorem fJ {t:TypeId} {d:TypeDesc} (h:P.underlying t=some d) (w:World):(underlying t).run P w=.ok d w:=run_underlying h w
theorem bMs {op:BinOp} {T U:TypeId} {x y:Operand} {x' y':AO} (hx:trO P T x=some x') (hy:trO P U y=some y') (he:∀ n,aR κ (a.tmps.getD n undef) (lk s.env n))
    (hv:use (ev s x') fun x=>use (ev s y') fun y=>dK x fun x=>dK y fun y=>aDd op x y fun r=>C (.d r)) :
    Yields P κ w (do pure (.value (← (do eqGuard op T x y (a.eval x) (a.eval y); binOp op T (a.eval x) (a.eval y))))) C:=by
  obtain ⟨p,hp,h1⟩:=opd hx he hv
  obtain ⟨q,hq,h2⟩:=opd hy he h1
  unfold dK at h2
  split at h2
  · split at h2
    · have hp:=hp.toD
      have hq:=hq.toD
      obtain ⟨v,d,h3,h4,h5⟩:=cFb (w:=w) T hp hq h2
      refine yv (v:=v) (x:=.d d) ?_ (.d h4) h5
      rw [Sem.run_bind,aT8,Result.andThen_ok]
      · exact h3
      · exact hp.noAgg.1
      · exact hp.noAgg.2
    · exact h2.elim
  · exact h2.elim
theorem bP3 {op:BinOp} {n:Bool} {T U:TypeId} {x y:Operand} {x' y':AO} (hT:P.underlying T=some .bool) (hop:I7 op=some n) (hx:trO P T x=some x') (hy:trO P U y=some y') (he:∀ n,aR κ (a.tmps.getD n undef) (lk s.env n))
    (hv:use (ev s x') fun x=>use (ev s y') fun y=>dK x fun x=>dK y fun y=>match x,y with | .b a,.b b=>C (.d (.b (n ^^ (a==b)))) | _,_=>False) :
    Yields P κ w (do pure (.value (← (do eqGuard op T x y (a.eval x) (a.eval y); binOp op T (a.eval x) (a.eval y))))) C:=by
  obtain ⟨p,hp,h1⟩:=opd hx he hv
  obtain ⟨q,hq,h2⟩:=opd hy he h1
  unfold dK at h2
  split at h2
  · split at h2
    · split at h2
      · rename_i u v
        have hex:=hp.toD.toB
        have hey:=hq.toD.toB
        have hb:=bRh (w:=w) hT u v
        refine yv (v:=.bool (n ^^ (u==v))) (x:=.d (.b (n ^^ (u==v)))) ?_ (.d (.b _)) h2
        rw [Sem.run_bind,hex,hey,aT8 (by simp) (by simp),Result.andThen_ok]
        cases op <;> simp [I7] at hop <;> subst hop
        · rw [hb.1]; simp
        · rw [hb.2]; simp
      · exact h2.elim
    · exact h2.elim
  · exact h2.elim
theorem cJy {op:BinOp} {n:Bool} {T U:TypeId} {fs:Array Field} {ks:List Nat} {x y:Operand} {x' y':AO} (hT:P.underlying T=some (.struct fs)) (hst:P.stoodInHeld T=false) (hgd:P.eqGuardType P.depth T=false) (hks:aC8 P 0 fs.toList=some ks)
    (hop:I7 op=some n) (hx:trO P T x=some x') (hy:trO P U y=some y') (he:∀ n,aR κ (a.tmps.getD n undef) (lk s.env n))
    (hv:use (ev s x') fun x=>use (ev s y') fun y=>match x,y with | .agg l,.agg m=>∃ r,nY ks l m=some r∧C (.d (.b (n ^^ r))) | _,_=>False) :
    Yields P κ w (do pure (.value (← (do eqGuard op T x y (a.eval x) (a.eval y); binOp op T (a.eval x) (a.eval y))))) C:=by
  obtain ⟨p,hp,h1⟩:=opd hx he hv
  obtain ⟨q,hq,h2⟩:=opd hy he h1
  split at h2
  · obtain ⟨r,hr,hC⟩:=h2
    obtain ⟨cx,hex,hp⟩:=hp.toAgg
    obtain ⟨cy,hey,hq⟩:=hq.toAgg
    have hfs:P.fieldsOf T=fs:=by simp [Program.fieldsOf,hT]
    have h3:=run_equalIn_struct (P:=P) w 9999 T cx.toArray cy.toArray (by rw [hfs]; exact hT) hst
    rw [hfs] at h3
    refine yv (v:=.bool (n ^^ r)) (x:=.d (.b (n ^^ r))) ?_ (.d (.b _)) hC
    rw [hex,hey,Sem.run_bind,run_eqGuard_agg w op T x y _ _ hgd,Result.andThen_ok]
    cases op <;> simp [I7] at hop <;> subst hop
    · rw [run_eql_struct,h3,bIi (n:=0) hks hp hq hr]; simp
    · rw [run_neq_struct,h3,bIi (n:=0) hks hp hq hr]; simp
  · exact h2.elim
theorem bLh {n:Nat} {C:List (List D)→Prop} (hG:Good E κ w s.bx) (h:trL s n C):∃ l p cap,C l∧κ.hv n=.slice p l.length cap∧l.length≤cap∧cap≤maxLen∧(l≠[]→p.isSome=true):=by
  unfold trL at h
  split at h
  · rename_i sz l r hb
    obtain ⟨_,v,T,h1,h2⟩:=(hG.box n _ hb).toClosed
    have hv:κ.hv n=v:=by show (κ.mt n).2.2=v; rw [h1]; exact wM _ _
    rw [hv]
    rcases h2.slice with ⟨rfl,rfl,_⟩ | ⟨a,rfl,rfl,_⟩ | ⟨b,cap,C,cs,T,rfl,_,_,_,h4,h5,_⟩
    · exact ⟨[],none,0,h,rfl,QA _,by simp [maxLen],by simp⟩
    · exact ⟨[],some a,0,h,rfl,QA _,by simp [maxLen],by simp⟩
    · exact ⟨l,_,cap,h,rfl,h4,h5,by simp⟩
  · rename_i sz i l r hb
    obtain ⟨b,cap,B,C,cs,T,T',h1,_,_,h4,h5,_⟩:=(hG.box n _ hb).toOpened
    exact ⟨l,_,cap,h,by show (κ.mt n).2.2=_; rw [h1],h4,h5,by simp⟩
  · rename_i sz l r hb
    obtain ⟨_,v,T,h1,h2⟩:=(hG.box n _ hb).toShallow
    have hv:κ.hv n=v:=by show (κ.mt n).2.2=v; rw [h1]; exact wM _ _
    rw [hv]
    generalize κ.bl n=B at h2
    cases h2 with
    | nil e=>subst e; exact ⟨[],none,0,h,rfl,QA _,by simp [maxLen],by simp⟩
    | sl b cap cs T _ _ h4 h5 _ _=>exact ⟨l,_,cap,h,rfl,h4,h5,by simp⟩
  · exact h.elim
theorem bYm {op:BinOp} {n:Bool} {T e:TypeId} {x y:Operand} {x':AO} (hT:P.underlying T=some (.slice e)) (hop:I7 op=some n) (hx:trO P T x=some x') (hy:aQo y=true) (he:∀ n,aR κ (a.tmps.getD n undef) (lk s.env n)) (hG:Good E κ w s.bx)
    (hv:use (ev s x') fun x=>match x with
      | .nil _=>C (.d (.b (n ^^ true)))
      | .tre m=>trL s m fun l=>(l≠[]→C (.d (.b (n ^^ false))))∧(l=[]→∀ b,C (.d (.b b)))
      | x=>slK x fun _ l=>(l≠[]→C (.d (.b (n ^^ false))))∧(l=[]→∀ b,C (.d (.b b)))) :
    Yields P κ w (do pure (.value (← (do eqGuard op T x y (a.eval x) (a.eval y); binOp op T (a.eval x) (a.eval y))))) C:=by
  obtain ⟨p,hp,h1⟩:=opd hx he hv
  have hey:a.eval y=.slice none 0 0:=by
    cases y with
    | const v=>unfold aQo at hy; split at hy <;> simp_all [Act.eval]
    | _=>simp [aQo] at hy
  have run:∀ (b:Option Addr) (l c:Nat),a.eval x=.slice b l c→(do eqGuard op T x y (a.eval x) (a.eval y); binOp op T (a.eval x) (a.eval y):Sem Value).run P w=.ok (.bool (n ^^ b.isNone)) w:=by
    intro b l c hv
    rw [Sem.run_bind,aT8 (by rw [hv]; simp) (by rw [hv]; simp),Result.andThen_ok,hv,hey]
    have h:=run_equal_slice_nil (P:=P) w T e b l c hT
    cases op <;> simp [I7] at hop <;> subst hop <;> simp only [binOp] <;> simp [h]
  split at h1
  · exact yv (run none 0 0 hp.toNil) (.d (.b _)) h1
  · obtain ⟨l,q,cap,⟨h2,h3⟩,h4,_,_,h5⟩:=bLh hG h1
    have hv:a.eval x=.slice q l.length cap:=by
      generalize a.eval x=v at hp
      cases hp with | tre h=>rw [h4] at h; exact h.symm
    refine yv (run _ _ _ hv) (.d (.b _)) ?_
    by_cases hl:l=[]
    · exact h3 hl _
    · have:=h5 hl
      cases q with
      | none=>simp at this
      | some a=>exact h2 hl
  · obtain ⟨sz,l,hr,h2,h3⟩:=aGy hp h1
    rcases hr.slice with ⟨hv,rfl⟩ | ⟨a,cap,hv,rfl,_⟩ | ⟨b,off,cap,vs,hv,_⟩
    · exact yv (run none 0 0 hv) (.d (.b _)) (h3 rfl _)
    · exact yv (run _ _ _ hv) (.d (.b _)) (h3 rfl _)
    · refine yv (run _ _ _ hv) (.d (.b _)) ?_
      by_cases hl:l=[]
      · exact h3 hl _
      · exact h2 hl
end
end Go.Ab
