/- Soundness of the value operations,put together. -/
import Derived.Test.YtkdkhdefdfkagaaGreatAb7
import Derived.Laws.Cover3
namespace Go.Ab
open Go Go.RowKit
section
variable {E:Entry} {N:Nat} {κ:Ctx} {w:World} {a:Act} {s:St} {P:Program} {C:V→Prop}
theorem yv {r:Sem Value} {v:Value} {x:V} (h:r.run P w=.ok v w) (hr:bI κ v x) (hC:C x):Yields P κ w (do pure (.value (← r))) C:=Yields.val h hr hC
theorem jR {t:TypeId} {d:TypeDesc} (h:P.underlying t=some d) (w:World):(underlying t).run P w=.ok d w:=run_underlying h w
theorem bB1 {op : BinOp} {T U : TypeId} {x y : Operand} {x' y' : AO} (hx : trO P T x = some x') (hy : trO P U y = some y') (he : ∀ n, bI κ (a.tmps.getD n undef) (lk s.env n))
    (hv:use (ev s x') fun x=>use (ev s y') fun y=>dK x fun x=>dK y fun y=>zI op x y fun r=>C (.d r)) :
    Yields P κ w (do pure (.value (← (do eqGuard op T x y (a.eval x) (a.eval y); binOp op T (a.eval x) (a.eval y))))) C:=by
  obtain ⟨p,hp,h1⟩:=opd hx he hv
  obtain ⟨q,hq,h2⟩:=opd hy he h1
  unfold dK at h2
  split at h2
  · split at h2
    · have hp:=hp.toD
      have hq:=hq.toD
      obtain ⟨v,d,h3,h4,h5⟩:=bKo (w:=w) T hp hq h2
      refine yv (v:=v) (x:=.d d) ?_ (.d h4) h5
      rw [Sem.run_bind,aN3,Result.andThen_ok]
      · exact h3
      · intro c e; rw [e] at hp; cases hp
      · intro e; rw [e] at hp; cases hp
    · exact h2.elim
  · exact h2.elim
theorem bSf {op : BinOp} {n : Bool} {T U : TypeId} {x y : Operand} {x' y' : AO} (hT : P.underlying T = some .bool) (hop : vO op = some n) (hx : trO P T x = some x') (hy : trO P U y = some y') (he : ∀ n, bI κ (a.tmps.getD n undef) (lk s.env n))
    (hv:use (ev s x') fun x=>use (ev s y') fun y=>dK x fun x=>dK y fun y=>match x,y with | .b a,.b b=>C (.d (.b (n ^^ (a==b)))) | _,_=>False) :
    Yields P κ w (do pure (.value (← (do eqGuard op T x y (a.eval x) (a.eval y); binOp op T (a.eval x) (a.eval y))))) C:=by
  obtain ⟨p,hp,h1⟩:=opd hx he hv
  obtain ⟨q,hq,h2⟩:=opd hy he h1
  unfold dK at h2
  split at h2
  · split at h2
    · split at h2
      · rename_i u v
        have hex:=hp.toD.toB
        have hey:=hq.toD.toB
        have hb:=bLf (w:=w) hT u v
        refine yv (v:=.bool (n ^^ (u==v))) (x:=.d (.b (n ^^ (u==v)))) ?_ (.d (.b _)) h2
        rw [Sem.run_bind,hex,hey,aN3 (by simp) (by simp),Result.andThen_ok]
        cases op <;> simp [vO] at hop <;> subst hop
        · rw [hb.1]; simp
        · rw [hb.2]; simp
      · exact h2.elim
    · exact h2.elim
  · exact h2.elim
theorem bLb {op : BinOp} {n : Bool} {T U : TypeId} {fs : Array Field} {ks : List Nat} {x y : Operand} {x' y' : AO} (hT : P.underlying T = some (.struct fs)) (hst : P.stoodInHeld T = false) (hgd : P.eqGuardType P.depth T = false) (hks : E8 P 0 fs.toList = some ks)
    (hop:vO op=some n) (hx:trO P T x=some x') (hy:trO P U y=some y') (he:∀ n,bI κ (a.tmps.getD n undef) (lk s.env n))
    (hv:use (ev s x') fun x=>use (ev s y') fun y=>match x,y with | .agg l,.agg m=>∃ r,nK ks l m=some r∧C (.d (.b (n ^^ r))) | _,_=>False) :
    Yields P κ w (do pure (.value (← (do eqGuard op T x y (a.eval x) (a.eval y); binOp op T (a.eval x) (a.eval y))))) C:=by
  obtain ⟨p,hp,h1⟩:=opd hx he hv
  obtain ⟨q,hq,h2⟩:=opd hy he h1
  split at h2
  · obtain ⟨r,hr,hC⟩:=h2
    obtain ⟨cx,hex,hp⟩:=hp.toAgg
    obtain ⟨cy,hey,hq⟩:=hq.toAgg
    have hfs:P.fieldsOf T=fs:=by simp [Program.fieldsOf,hT]
    have h3:=run_equalIn_struct (P:=P) w 9999 T cx.toArray cy.toArray (by rw [hfs]; exact hT) hst
    rw [hfs] at h3
    refine yv (v:=.bool (n ^^ r)) (x:=.d (.b (n ^^ r))) ?_ (.d (.b _)) hC
    rw [hex,hey,Sem.run_bind,run_eqGuard_agg w op T x y _ _ hgd,Result.andThen_ok]
    cases op <;> simp [vO] at hop <;> subst hop
    · rw [run_eql_struct,h3,bAa (n:=0) hks hp hq hr]; simp
    · rw [run_neq_struct,h3,bAa (n:=0) hks hp hq hr]; simp
  · exact h2.elim
theorem bKg {op : BinOp} {n : Bool} {T e : TypeId} {x y : Operand} {x' : AO} (hT : P.underlying T = some (.slice e)) (hop : vO op = some n) (hx : trO P T x = some x') (hy : aKq y = true) (he : ∀ n, bI κ (a.tmps.getD n undef) (lk s.env n))
    (hv:use (ev s x') fun x=>match x with
      | .nil _=>C (.d (.b (n ^^ true)))
      | x=>slK x fun _ l=>(l≠[]→C (.d (.b (n ^^ false))))∧(l=[]→∀ b,C (.d (.b b)))) :
    Yields P κ w (do pure (.value (← (do eqGuard op T x y (a.eval x) (a.eval y); binOp op T (a.eval x) (a.eval y))))) C:=by
  obtain ⟨p,hp,h1⟩:=opd hx he hv
  have hey:a.eval y=.slice none 0 0:=by
    cases y with
    | const v=>unfold aKq at hy; split at hy <;> simp_all [Act.eval]
    | _=>simp [aKq] at hy
  have run:∀ (b:Option Addr) (l c:Nat),a.eval x=.slice b l c→(do eqGuard op T x y (a.eval x) (a.eval y); binOp op T (a.eval x) (a.eval y):Sem Value).run P w=.ok (.bool (n ^^ b.isNone)) w:=by
    intro b l c hv
    rw [Sem.run_bind,aN3 (by rw [hv]; simp) (by rw [hv]; simp),Result.andThen_ok,hv,hey]
    have h:=run_equal_slice_nil (P:=P) w T e b l c hT
    cases op <;> simp [vO] at hop <;> subst hop <;> simp only [binOp] <;> simp [h]
  split at h1
  · exact yv (run none 0 0 hp.toNil) (.d (.b _)) h1
  · obtain ⟨sz,l,hr,h2,h3⟩:=aB4 hp h1
    rcases hr.slice with ⟨hv,rfl⟩ | ⟨a,cap,hv,rfl,_⟩ | ⟨b,off,cap,vs,hv,_⟩
    · exact yv (run none 0 0 hv) (.d (.b _)) (h3 rfl _)
    · exact yv (run _ _ _ hv) (.d (.b _)) (h3 rfl _)
    · refine yv (run _ _ _ hv) (.d (.b _)) ?_
      by_cases hl:l=[]
      · exact h3 hl _
      · exact h2 hl
end
end Go.Ab
