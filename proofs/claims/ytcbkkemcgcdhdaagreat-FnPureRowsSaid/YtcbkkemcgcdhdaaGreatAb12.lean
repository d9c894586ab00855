/- Calls,guards; lists of operations; regions. -/
import Derived.Test.YtcbkkemcgcdhdaaGreatAb11
namespace Go.Ab
open Go Go.RowKit
open _root_.Option renaming map_eq_some_iff→QA
open _root_.Array renaming ext'→QB,toArray_toList→QD
open _root_.List renaming toArray→QC
section
variable {E:Entry} {N:Nat} {κ:Ctx} {w:World} {a:Act} {s:St} {P:Program} {K:St→Prop} {Q:Exit→Act→World→Prop}
theorem Ok.putO (h:Ok E N κ w a s) {d:Option Nat} (hd:∀ n,d=some n→n<N) {v:Value} {x:V} (hv:aR κ v x):Ok E N κ w (a.put d v) (s.putO d x):=by
  cases d with
  | none=>exact h
  | some d=>exact h.put (hd d rfl) hv
theorem aU9 {f:FuncId} (hf:G8 P f=true) (args:Array Value) (w:World):(callFunc f args).run P w=.ok (.enter f args) w:=by
  unfold G8 at hf
  split at hf
  · rename_i fn hfn
    simp only [Bool.and_eq_true,bne_iff_ne,ne_eq] at hf
    have h1:(fn.name=="runtime.NumGoroutine")=false:=by simpa using hf.2
    have h2:fn.body.isNone=false:=by cases h:fn.body <;> simp [h] at hf ⊢
    simp only [callFunc,Sem.run_bind,run_program,Result.andThen_ok,hfn,h1,h2,Bool.false_eq_true,if_false,Sem.run_pure]
  · simp at hf
theorem bC6 {o:Oper} {f:FuncId} {cargs:List Value} {vs:List V} (hr:(execOp a.eval o).run P w=.ok (.enter f cargs.toArray) w) (hfb:∀ n∈E.fb,N≤n∧n<NX) (hd:∀ n,o.dst=some n→n<N) (h:Ok E N κ w a s)
    (hargs:aZ κ cargs vs) (hv:lJ P s o.dst f vs fun x s'=>K (s'.putO o.dst x)):o.wp P a w (KC E N K) Q:=by
  unfold Oper.wp
  rw [hr,Oper.upon_enter]
  refine (hv E N κ w a cargs hfb hd h hargs).mono ?_
  rintro e w' ⟨v,x,κ',s',rfl,hok,hx,hK⟩
  exact ⟨κ',_,hK,hok.putO hd hx⟩
theorem cEs {f:FuncId} {args:Array Operand} {ts:Array TypeId} {xs:List AO} {o:Oper} (ho:o.op=.call { callee:=.value (.func f),args:=args,argTypes:=ts }) (hf:G8 P f=true) (hfb:∀ n∈E.fb,N≤n∧n<NX) (hd:∀ n,o.dst=some n→n<N)
    (hxs:nV P ts.toList args.toList=some xs) (h:Ok E N κ w a s) (hv:lJ P s o.dst f (xs.map (ev s)) fun x s'=>K (s'.putO o.dst x)):o.wp P a w (KC E N K) Q:=by
  refine bC6 (f:=f) (cargs:=args.toList.map a.eval) ?_ hfb hd h (aH2 hxs h.env) hv
  unfold execOp; rw [ho]
  have e:args.map a.eval=(args.toList.map a.eval).toArray:=by apply QB; simp
  simp only [resolve,Act.eval,Deferred.ofValue,Sem.run_bind,Sem.run_pure,Result.andThen_ok,invoke]
  rw [aU9 hf]
  simp [← e]
theorem bTb {t:Nat} {args:Array Operand} {ts:Array TypeId} {xs:List AO} {o:Oper} (ho:o.op=.call { callee:=.value (.tmp t),args:=args,argTypes:=ts }) (hfb:∀ n∈E.fb,N≤n∧n<NX) (hd:∀ n,o.dst=some n→n<N)
    (hxs:nV P ts.toList args.toList=some xs) (h:Ok E N κ w a s)
    (hv:use (lk s.env t) fun f=>match f.vw with
    | .fn g caps=>(qD P g=true∧lJ P s o.dst g (xs.map (ev s)++caps) fun x s'=>K (s'.putO o.dst x))∨(∃ q,g=mvc q∧G8 P q=true∧lJ P s o.dst q (caps++xs.map (ev s)) fun x s'=>K (s'.putO o.dst x))
    | _=>False):o.wp P a w (KC E N K) Q:=by
  obtain ⟨p,hp,h1⟩:=Q8 (h.env t) hv
  replace hp:=hp.vw
  generalize p.vw=p at hp h1
  split at h1
  · rename_i g caps
    rcases h1 with ⟨hg,h2⟩ | ⟨q,hq,hg,h2⟩
    case inr =>
      subst hq
      obtain ⟨cs,hex,hcs⟩:=hp.toFnm
      refine bC6 (f:=q) (cargs:=cs++args.toList.map a.eval) ?_ hfb hd h (hcs.append (aH2 hxs h.env)) h2
      unfold execOp; rw [ho]
      have e:args.map a.eval=(args.toList.map a.eval).toArray:=by apply QB; simp
      have hex':a.eval (.tmp t)=.func (.func q) cs.toArray #[]:=hex
      simp only [resolve,hex',Deferred.ofValue,Sem.run_bind,Sem.run_pure,Result.andThen_ok,invoke]
      rw [aU9 hg]
      simp [← e]
    obtain ⟨hg0,hg⟩:=bPe hg
    obtain ⟨cs,hex,hcs⟩:=hp.toFn hg0
    refine bC6 (f:=g) (cargs:=args.toList.map a.eval++cs) ?_ hfb hd h ((aH2 hxs h.env).append hcs) h2
    unfold execOp; rw [ho]
    have e:args.map a.eval=(args.toList.map a.eval).toArray:=by apply QB; simp
    have hex':a.eval (.tmp t)=.func (.func g) #[] cs.toArray:=hex
    simp only [resolve,hex',Deferred.ofValue,Sem.run_bind,Sem.run_pure,Result.andThen_ok,invoke]
    rw [aU9 hg]
    simp [← e]
  · exact h1.elim
def aG7 (P:Program) (gd:Nat→Option Nat) (o:Oper):Option AOp :=
  match eO P o,o.guard with
  | some x,none=>some x
  | some x,some (j,want)=>match gd j with
    | some t=>some (.g t want x)
    | none=>none
  | none,_=>none
theorem kY {o:Oper} {ao:AOp} (htr:eO P o=some ao) (hdN:∀ d,ao.dst=some d→d<N) (h:Ok E N κ w a s) (hv:∃ d,ao.dst=some d∧vop s (fun v=>K (s.put d v)) ao):o.wp P a w (KC E N K) Q:=by
  obtain ⟨d,hd,hv⟩:=hv
  obtain ⟨⟨d',h1,h2⟩,v,x,hr,hx,hK⟩:=bI4 htr h.env h.good hv
  obtain rfl:d=d':=by rw [hd] at h2; simpa using h2
  exact aUb h1 h (hdN d hd) hr hx hK
theorem aI0 {o:Oper} {ao:AOp} (htr:eO P o=some ao) (hdN:∀ d,ao.dst=some d→d<N) (hfb:∀ n∈E.fb,N≤n∧n<NX) (h:Ok E N κ w a s) (hv:aop P s K ao):o.wp P a w (KC E N K) Q:=by
  obtain ⟨dst,op,type,pos,after,guard⟩:=o
  have htr0:=htr
  cases op with
  | move x =>
    simp only [eO] at htr; split at htr <;> simp at htr; subst htr
    exact kY htr0 hdN h ⟨_,rfl,hv⟩
  | assign x =>
    simp only [eO] at htr; split at htr <;> simp at htr; subst htr; rename_i h2
    exact bTs rfl rfl (hdN _ rfl) h2 h hv
  | pick c x y =>
    simp only [eO] at htr; split at htr <;> simp at htr; subst htr
    exact kY htr0 hdN h ⟨_,rfl,hv⟩
  | binOp op T x y U =>
    simp only [eO] at htr; split at htr
    · split at htr
      · simp at htr; subst htr; exact kY htr0 hdN h ⟨_,rfl,hv⟩
      · simp at htr; subst htr; exact kY htr0 hdN h ⟨_,rfl,hv⟩
      · obtain ⟨n,hn,rfl⟩:=QA.1 htr
        exact kY htr0 hdN h ⟨_,rfl,hv⟩
      · split at htr
        · split at htr <;> simp at htr
          subst htr
          exact kY htr0 hdN h ⟨_,rfl,hv⟩
        · simp at htr
      · split at htr
        · obtain ⟨n,hn',rfl⟩:=QA.1 htr
          exact kY htr0 hdN h ⟨_,rfl,hv⟩
        · simp at htr
      · simp at htr
    · simp at htr
  | unOp op T x =>
    simp only [eO] at htr; split at htr
    · split at htr <;> simp at htr <;> subst htr <;> exact kY htr0 hdN h ⟨_,rfl,hv⟩
    · simp at htr
  | convert S T x =>
    simp only [eO] at htr; split at htr
    · split at htr
      · simp at htr; subst htr; exact kY htr0 hdN h ⟨_,rfl,hv⟩
      · split at htr <;> simp at htr
        subst htr; exact kY htr0 hdN h ⟨_,rfl,hv⟩
      · rename_i hs ht
        split at htr <;> simp at htr
        rename_i he
        subst htr; exact cA0 rfl rfl (hdN _ rfl) hfb hs ht he (by assumption) h hv
      · simp at htr
    · simp at htr
  | field T x i =>
    simp only [eO] at htr; split at htr
    · split at htr
      · split at htr <;> simp at htr
        subst htr
        exact kY htr0 hdN h ⟨_,rfl,hv⟩
      · simp at htr
    · simp at htr
  | fieldAddr T x i =>
    simp only [eO] at htr; split at htr
    · split at htr
      · split at htr
        · split at htr <;> simp at htr
          subst htr
          exact kY htr0 hdN h ⟨_,rfl,hv⟩
        · simp at htr
      · simp at htr
    · simp at htr
  | indexAddr T x i =>
    simp only [eO] at htr; split at htr
    · rename_i h2 h3 h4
      split at htr <;> simp at htr
      rename_i h5
      subst htr
      rcases hv with hv | hv
      · exact kY htr0 hdN h ⟨_,rfl,hv⟩
      · exact cEm rfl rfl (hdN _ rfl) hfb h2 h3 h4 h5 h hv
    · simp at htr
  | index T x i =>
    simp only [eO] at htr; split at htr <;> simp at htr
    subst htr
    exact kY htr0 hdN h ⟨_,rfl,hv⟩
  | slice T x lo hi mx =>
    simp only [eO] at htr; split at htr
    · rename_i h2 h3 h4 h5
      split at htr
      · split at htr <;> simp at htr
        subst htr
        exact kY htr0 hdN h ⟨_,rfl,hv⟩
      · rename_i hT
        split at htr <;> simp at htr
        rename_i h6; subst htr
        rcases hv with hv | hv
        · exact kY htr0 hdN h ⟨_,rfl,hv⟩
        · exact bWd rfl rfl (hdN _ rfl) hfb hT h6 h2 h3 h4 h5 h hv
      · simp at htr
    · simp at htr
  | build T parts =>
    simp only [eO] at htr; split at htr
    · rename_i h2 h3 h3'
      obtain ⟨ps,h4,rfl⟩:=QA.1 htr
      rcases hv with hv | hv
      · exact kY htr0 hdN h ⟨_,rfl,hv⟩
      · obtain ⟨v,x,hr,hx,hK⟩:=cDf (C:=fun v=>K (s.put _ v)) (parts:=parts.toList) h3 h3' h4 h.env hv
        rw [QD] at hr
        exact aUb (d:=_) rfl h (hdN _ rfl) hr hx hK
    · simp at htr
  | buildSlice T len parts =>
    simp only [eO] at htr; split at htr
    · rename_i hT
      split at htr
      · rename_i hti hxs
        split at htr
        · rename_i hz
          split at htr <;> simp at htr
          rename_i hc
          subst htr
          rcases hv with hv | hv | hv
          · exact bVd rfl rfl (hdN _ rfl) hT hti hz hxs hc.1 hc.2.1 hc.2.2 h hv
          · exact cCj rfl rfl (hdN _ rfl) hfb hT hti hz hxs hc.1 hc.2.1 hc.2.2 h hv
          · exact bZt rfl rfl (hdN _ rfl) hfb hT hti hz hxs hc.1 hc.2.1 hc.2.2 h hv
        · simp at htr
      · simp at htr
    · simp at htr
  | makeFunc fn first caps =>
    simp only [eO] at htr; split at htr
    · split at htr
      · obtain ⟨cs,h2,rfl⟩:=QA.1 htr
        exact kY htr0 hdN h ⟨_,rfl,hv⟩
      · split at htr
        · obtain ⟨cs,h2,rfl⟩:=QA.1 htr
          exact kY htr0 hdN h ⟨_,rfl,hv⟩
        · simp at htr
    · simp at htr
  | extract x i =>
    simp only [eO] at htr; split at htr <;> simp at htr
    subst htr
    exact kY htr0 hdN h ⟨_,rfl,hv⟩
  | nilCheck x =>
    simp only [eO] at htr; split at htr <;> simp at htr
    subst htr
    exact kY htr0 hdN h ⟨_,rfl,hv⟩
  | load T x =>
    simp only [eO] at htr; split at htr
    · split at htr <;> simp at htr
      subst htr
      exact kY htr0 hdN h ⟨_,rfl,hv⟩
    · simp at htr
  | box T x =>
    simp only [eO] at htr; split at htr <;> simp at htr
    rename_i h2
    subst htr
    exact cJ4 rfl rfl (hdN _ rfl) hfb h2 h hv
  | makeSlice T l c =>
    simp only [eO] at htr; split at htr
    · rename_i h2 h3 hT
      split at htr
      · rename_i hti
        split at htr
        · rename_i hz
          split at htr
          · rename_i hds
            split at htr <;> simp at htr
            rename_i hc
            subst htr
            exact bP2 rfl rfl (hdN _ rfl) hfb hT hti hz hds hc.1 hc.2.1 hc.2.2 h2 h3 h hv
          · simp at htr
        · simp at htr
      · simp at htr
    · simp at htr
  | alloc T =>
    simp only [eO] at htr; split at htr
    · rename_i h1 h2
      split at htr <;> simp at htr
      subst htr
      exact bX3 rfl rfl (hdN _ rfl) hfb h2 h hv
    · simp at htr
  | store T x y =>
    simp only [eO] at htr; split at htr <;> simp at htr
    rename_i h2 h3 h4
    subst htr
    exact cCt rfl rfl h2 h3 h4 h hv
  | call c =>
    obtain ⟨callee,args,argTypes⟩:=c
    simp only [eO] at htr
    split at htr
    · split at htr
      · split at htr <;> simp at htr <;> subst htr <;> exact kY htr0 hdN h ⟨_,rfl,hv⟩
      · simp at htr
    · split at htr <;> simp at htr
      subst htr; exact kY htr0 hdN h ⟨_,rfl,hv⟩
    · split at htr <;> simp at htr
      subst htr; exact kY htr0 hdN h ⟨_,rfl,hv⟩
    · split at htr
      · rename_i h2 h3
        have e2:=congrArg QC h2
        have e3:=congrArg QC h3
        simp only [QD] at e2 e3
        subst e2; subst e3
        split at htr
        · rename_i hx hy hT
          split at htr
          · rename_i hti
            split at htr
            · rename_i hz
              split at htr <;> simp at htr
              rename_i hc
              obtain ⟨h4,h5,h6,h7⟩:=hc
              subst htr
              exact bNg rfl (h4.imp_right bY0) rfl (hdN _ rfl) hT hti hz h5 h6 h7 hx hy rfl rfl h hfb hv
            · simp at htr
          · simp at htr
        · simp at htr
      · simp at htr
    · split at htr
      · rename_i hxs
        split at htr
        · rename_i hfn
          split at htr <;> simp at htr
          rename_i hc
          subst htr
          exact cEs rfl (by simp only [G8,hfn]; simpa using hc) hfb hdN hxs h hv
        · simp at htr
      · simp at htr
    · split at htr <;> simp at htr
      rename_i hxs
      subst htr
      exact bTb rfl hfb hdN hxs h hv
    · simp at htr
  | _=>simp [eO] at htr; subst htr; exact (cA9 hv).elim
end
end Go.Ab
