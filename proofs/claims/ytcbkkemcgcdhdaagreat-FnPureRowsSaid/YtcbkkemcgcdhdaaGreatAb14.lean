/- Contracts of functions over abstract values; how a body proves one; how a call uses one. -/
import Derived.Test.YtcbkkemcgcdhdaaGreatAb13b
namespace Go.Ab
open Go Go.RowKit
open _root_.List renaming replicate→QA,mapM_cons→QB
def bF (P:Program) (f:FuncId) (args:List V) (fb:List (Nat×List V)) (R:V→List (Nat×List V)→Prop):Prop :=
  ∀ (κ:Ctx) (w:World) (cargs:List Value) (may:Nat→Prop),Good ⟨κ,w,fb.map (·.1),may⟩ κ w fb→aZ κ cargs args →
    Calls P f cargs.toArray w fun e w'=>∃ v x κ' fb',e=.returned v∧Good ⟨κ,w,fb.map (·.1),may⟩ κ' w' fb'∧aR κ' v x∧R x fb'
theorem bF.mono {P:Program} {f:FuncId} {args:List V} {fb:List (Nat×List V)} {R R':V→List (Nat×List V)→Prop} (h:bF P f args fb R) (hR:∀ x b,R x b→R' x b):bF P f args fb R' :=
  fun κ w cargs may hg hr=>(h κ w cargs may hg hr).mono fun _ _ ⟨v,x,κ',fb',h1,h2,h3,h4⟩=>⟨v,x,κ',fb',h1,h2,h3,hR _ _ h4⟩
def aFc (tmps:Array Value):ResultVar→Sem Value
  | .tmp t=>pure (tmps.getD t undef)
  | .cell a t=>do loadVar t (← asAddr (tmps.getD a undef))
def bs (l:List UInt8):ByteArray:=⟨l.toArray⟩
def aPy (P:Program):ResultVar→Option AOp
  | .tmp t=>some (.mv 0 (.t t))
  | .cell a t=>match P.info? t,X0 P t with
    | some ti,some g=>if g=true∨ti.size=1 then some (.ld 0 ti.size g (.t a)) else none
    | _,_=>none
def xD (P:Program):List ResultVar→Option (List AOp)
  | []=>some []
  | r::rs=>match aPy P r,xD P rs with
    | some x,some xs=>some (x::xs)
    | _,_=>none
def aHj (s:St):List AOp→(List V→Prop)→Prop
  | [],C=>C []
  | r::rs,C=>vop s (fun v=>aHj s rs fun vs=>C (v::vs)) r
def aIq (s:St) (rs:List AOp) (C:V→Prop):Prop :=
  match rs with
  | [r]=>vop s C r
  | rs=>aHj s rs fun vs=>C (.tup vs)
def jH (rs:List AOp) (R:V→List (Nat×List V)→Prop):Exit→St→Prop
  | .normal,s=>wkK (fun s=>aIq s rs fun x=>R x s.bx) s
  | .ret,s=>aIq s rs fun x=>R x s.bx
  | _,_=>False
def xU:Nat→List V→List (Nat×V)
  | _,[]=>[]
  | n,v::l=>(n,v)::xU (n+1) l
section
variable {P:Program} {E:Entry} {N:Nat} {κ:Ctx} {w:World} {a:Act} {s:St}
theorem bHd {r:ResultVar} {x:AOp} {C:V→Prop} (htr:aPy P r=some x) (h:Ok E N κ w a s) (hv:vop s C x) :
    ∃ v y,(aFc a.tmps r).run P w=.ok v w∧aR κ v y∧C y:=by
  cases r with
  | tmp t =>
    simp [aPy] at htr; subst htr
    obtain ⟨y,hy,hC⟩:=Q8 (h.env t) hv
    exact ⟨_,y,rfl,hy,hC⟩
  | cell b t =>
    simp only [aPy] at htr
    split at htr
    · rename_i ti g hti hg
      split at htr <;> simp at htr
      rename_i hone
      subst htr
      obtain ⟨v,y,h1,h2,h3⟩:=bHp (w:=w) (P:=P) (T:=t) (U:=0) (x:=.tmp b) (y:=.t b) rfl hti hg hone h.env h.good hv
      refine ⟨v,y,?_,h2,h3⟩
      simp only [aFc,Sem.run_bind] at h1 ⊢
      have hload:∀ v w',(Instr.loadAt t (a.eval (.tmp b))).run P w=.ok v w'→((asAddr (a.tmps.getD b undef)).run P w).andThen (fun x w=>(loadVar t x).run P w)=.ok v w':=by
        intro v w' h
        unfold Instr.loadAt at h
        simp only [Sem.run_bind] at h
        have e:a.eval (.tmp b)=a.tmps.getD b undef:=rfl
        rw [e] at h
        revert h
        generalize a.tmps.getD b undef=p
        intro h
        cases p with
        | pointer q =>
          cases q with
          | some q=>simpa [Instr.sureAddr,asAddr] using h
          | none=>simp [Instr.sureAddr] at h
        | _=>simp [Instr.sureAddr] at h
      cases hr:(Instr.loadAt t (a.eval (.tmp b))).run P w with
      | ok v' w' =>
        rw [hr] at h1
        simp at h1
        obtain ⟨rfl,rfl⟩:=h1
        exact hload _ _ hr
      | halt hh w'=>rw [hr] at h1; simp at h1
    · simp at htr
theorem bKq:∀ {rs:List ResultVar} {xs:List AOp} {C:List V→Prop},xD P rs=some xs→Ok E N κ w a s→aHj s xs C →
    ∃ vs ys,(rs.mapM (aFc a.tmps)).run P w=.ok vs w∧aZ κ vs ys∧ys.length=xs.length∧C ys
  | [],xs,C,htr,h,hv=>by
    simp [xD] at htr; subst htr
    exact ⟨[],[],rfl,.nil,rfl,hv⟩
  | r::rs,xs,C,htr,h,hv=>by
    simp only [xD] at htr
    split at htr <;> simp at htr
    rename_i x xs hx hxs
    subst htr
    obtain ⟨v,y,h1,h2,h3⟩:=bHd hx h hv
    obtain ⟨vs,ys,h4,h5,hl,h6⟩:=bKq hxs h h3
    refine ⟨v::vs,y::ys,?_,.cons h2 h5,by simp [hl],h6⟩
    rw [QB]
    simp only [Sem.run_bind,h1,Result.andThen_ok,h4,Sem.run_pure]
theorem bEw:∀ {rs:List ResultVar} {xs:List AOp},xD P rs=some xs→rs.length=xs.length
  | [],xs,h=>by simp [xD] at h; subst h; rfl
  | r::rs,xs,h=>by
    simp only [xD] at h
    split at h <;> simp at h
    rename_i h2; subst h; simp [bEw h2]
theorem bSf {fn:Func} {xs:List AOp} {C:V→Prop} (htr:xD P fn.results.toList=some xs) (h:Ok E N κ w a s) (hv:aIq s xs C):∃ v y,(results fn a.tmps).run P w=.ok v w∧aR κ v y∧C y:=by
  have hres:∀ vs,(fn.results.toList.mapM (aFc a.tmps)).run P w=.ok vs w →
      (results fn a.tmps).run P w=.ok (if h:vs.toArray.size=1 then vs.toArray[0] else .tuple vs.toArray) w:=by
    intro vs hvs
    show (fn.results.mapM (aFc a.tmps)>>=fun vs=>pure (if h:vs.size=1 then vs[0] else .tuple vs)).run P w=_
    rw [Sem.run_bind]
    have e:(fn.results.mapM (aFc a.tmps)).run P w=.ok vs.toArray w:=by
      rw [← Array.toArray_toList (xs:=fn.results),List.mapM_toArray,Sem.run_map]
      rw [hvs]; rfl
    rw [e]; rfl
  unfold aIq at hv
  split at hv
  · rename_i r
    have hl:=bEw htr
    match hrs:fn.results.toList,hl with
    | [r0],_ =>
      rw [hrs] at htr hres
      simp only [xD] at htr
      split at htr <;> simp at htr
      rename_i x xs hx hxs
      obtain ⟨rfl,rfl⟩:=htr
      obtain ⟨v,y,h1,h2,h3⟩:=bHd hx h hv
      refine ⟨v,y,?_,h2,h3⟩
      have:=hres [v] (by rw [QB]; simp only [Sem.run_bind,h1,Result.andThen_ok,List.mapM_nil,Sem.run_pure])
      simpa using this
  · rename_i hne
    obtain ⟨vs,ys,h1,h2,hl,h3⟩:=bKq htr h hv
    refine ⟨.tuple vs.toArray,.tup ys,?_,.tup h2,h3⟩
    rw [hres vs h1]
    rw [dif_neg]
    intro h4
    have h5:vs.length=xs.length:=by rw [h2.length,hl]
    simp at h4
    match xs,h5.symm.trans h4 with
    | [r],_=>exact hne r rfl
theorem bUi {vs:List Value} {xs:List V} (h:aZ κ vs xs) (k:Nat) (pre:List Value) (hpre:pre.length=k) (m:Nat) (n:Nat) :
    aR κ ((pre++vs++QA m undef).toArray.getD n undef) (lk (xU k xs) n):=by
  induction xs generalizing vs k pre with
  | nil=>exact .top _
  | cons x xs ih =>
    cases h with | cons a r =>
    rename_i v vs
    simp only [xU,lk]
    split
    · rename_i hn; subst hn
      have:(pre++(v::vs)++QA m undef).toArray.getD n undef=v:=by
        rw [Array.getD_eq_getD_getElem?]
        simp [← hpre]
      rw [this]; exact a
    · have:=ih r (k+1) (pre++[v]) (by simp [hpre])
      simpa using this
theorem bXx {f:FuncId} {fn:Func} {c:Code} {ac:AC} {rs:List AOp} {args:List V} {fb:List (Nat×List V)} {R:V→List (Nat×List V)→Prop}
    (hf:P.funcs[f]?=some fn) (hb:fn.body=some c) (htr:lZ P fn.ntmps c=some ac) (hres:xD P fn.results.toList=some rs) (hargs:args.length≤fn.ntmps) (hfb:∀ n∈fb.map (·.1),fn.ntmps≤n∧n<NX)
    (hv:avc P ac (jH rs R) ⟨xU 0 args,fb⟩):bF P f args fb R:=by
  intro κ w cargs may hg hr
  have hlen:=hr.length
  refine calls_of_wp hf hb (Code.wp_mono ?_ (aBv (E:=⟨κ,w,fb.map (·.1),may⟩) (N:=fn.ntmps) hfb htr (κ:=κ) (s:=⟨xU 0 args,fb⟩) ⟨?_,rfl,fun n=>?_,hg⟩ hv))
  · intro e a' w' hq
    have fin:∀ s' κ',Ok ⟨κ,w,fb.map (·.1),may⟩ fn.ntmps κ' w' a' s'→aIq s' rs (fun x=>R x s'.bx)→a'.defers=[]∧∃ v,(results fn a'.tmps).run P w'=.ok v w'∧∃ v_1 x κ' fb',Ending.returned v=.returned v_1∧Good ⟨κ,w,fb.map (·.1),may⟩ κ' w' fb'∧aR κ' v_1 x∧R x fb':=by
      intro s' κ' hok hR
      obtain ⟨v,y,h1,h2,h3⟩:=bSf hres hok hR
      exact ⟨hok.defers,v,h1,v,y,κ',s'.bx,rfl,hok.good,h2,h3⟩
    cases e with
    | normal =>
      obtain ⟨κ',s',⟨s2,hw,hR⟩,hok⟩:=hq
      obtain ⟨κ2,hok2⟩:=hw _ _ _ _ _ hfb hok
      exact fin s2 κ2 hok2 hR
    | ret=>obtain ⟨κ',s',hR,hok⟩:=hq; exact fin s' κ' hok hR
    | exit id=>obtain ⟨κ',s',hR,hok⟩:=hq; exact hR.elim
    | _=>exact hq.elim
  · simp; omega
  · have:=bUi hr 0 [] rfl (fn.ntmps - cargs.length) n
    have e:cargs.toArray++Array.replicate (fn.ntmps - cargs.toArray.size) undef=([]++cargs++QA (fn.ntmps - cargs.length) undef).toArray:=by apply Array.ext'; simp
    rw [e]; exact this
def aDs (P:Program) (f:FuncId):Option (AC×List AOp×Nat) :=
  match P.funcs[f]? with
  | some fn=>match fn.body with
    | some c=>match lZ P fn.ntmps c,xD P fn.results.toList with
      | some ac,some rs=>some (ac,rs,fn.ntmps)
      | _,_=>none
    | none=>none
  | none=>none
theorem cGf {f:FuncId} {ac:AC} {rs:List AOp} {M:Nat} {args:List V} {fb:List (Nat×List V)} {R:V→List (Nat×List V)→Prop} (htr:aDs P f=some (ac,rs,M)) (hargs:args.length≤M) (hfb:∀ n∈fb.map (·.1),M≤n∧n<NX)
    (hv:avc P ac (jH rs R) ⟨xU 0 args,fb⟩):bF P f args fb R:=by
  unfold aDs at htr
  split at htr
  · rename_i fn hf
    split at htr
    · rename_i c hb
      split at htr
      · rename_i h1 h2
        simp at htr
        obtain ⟨rfl,rfl,rfl⟩:=htr
        exact bXx hf hb h1 h2 hargs hfb hv
      · simp at htr
    · simp at htr
  · simp at htr
def V.weak:V→V
  | .osl _ _ sz l=>.d (.sl sz l)
  | .nil sz=>.d (.sl sz [])
  | .agv l=>K3 l
  | v=>v
mutual
def V.closed:V→Bool
  | .ptr .. | .msl .. | .osl .. | .bp .. | .tre .. | .trp ..=>false
  | .agv l=>V.closeds l
  | .fn _ l=>V.closeds l
  | .tup l=>V.closeds l
  | .ite _ v=>v.closed
  | _=>true
def V.closeds:List V→Bool
  | []=>true
  | v::l=>v.closed&&V.closeds l
end
mutual
theorem V.fits_closed (κ κ':Ctx):∀ v:V,v.closed=true→v.fits κ κ'
  | .ptr ..,h=>by simp [V.closed] at h
  | .msl ..,h=>by simp [V.closed] at h
  | .osl ..,h=>by simp [V.closed] at h
  | .fn _ l,h=>V.fitss_closed κ κ' l (by simpa [V.closed] using h)
  | .tup l,h=>V.fitss_closed κ κ' l (by simpa [V.closed] using h)
  | .agv l,h=>V.fitss_closed κ κ' l (by simpa [V.closed] using h)
  | .bp ..,h=>by simp [V.closed] at h
  | .tre ..,h=>by simp [V.closed] at h
  | .trp ..,h=>by simp [V.closed] at h
  | .ite _ v,h=>V.fits_closed κ κ' v (by simpa [V.closed] using h)
  | .top,_ | .und,_ | .d _,_ | .agg _,_ | .nil _,_ | .rp _,_ | .np,_ | .nf,_ | .trc ..,_ | .trs ..,_ | .tro ..,_ | .trd,_=>trivial
theorem V.fitss_closed (κ κ':Ctx):∀ l:List V,V.closeds l=true→V.fitss κ κ' l
  | [],_=>trivial
  | v::l,h=>by
    simp only [V.closeds,Bool.and_eq_true] at h
    exact ⟨V.fits_closed κ κ' v h.1,V.fitss_closed κ κ' l h.2⟩
end
theorem aR.weak {κ:Ctx} {v:Value} {x:V} (h:aR κ v x):aR κ v x.weak:=by
  cases h with
  | osl h1 h2=>exact .d h2
  | nil sz=>exact .d (.nil sz)
  | top=>exact .top _
  | und=>exact .und
  | d h=>exact .d h
  | agg h=>exact .agg h
  | ptr=>exact .ptr _ _
  | msl h1 h2=>exact .msl h1 h2
  | rp h1 h2=>exact .rp h1 h2
  | np=>exact .np
  | nf=>exact .nf
  | fn k h=>exact .fn k h
  | fnm h=>exact .fnm h
  | tup h=>exact .tup h
  | agv h=>exact aN8 h
  | bp0 h=>exact .bp0 h
  | bp1 h=>exact .bp1 h
  | yes h=>exact .yes h
  | no=>exact .no
  | tre h=>exact .tre h
  | trp=>exact .trp _ _ _ _
def weaks:List V→List V
  | []=>[]
  | v::l=>v.weak::weaks l
theorem aZ.weaks {κ:Ctx} {vs:List Value} {xs:List V} (h:aZ κ vs xs):aZ κ vs (weaks xs):=by
  induction xs generalizing vs with
  | nil=>cases h; exact .nil
  | cons x xs ih=>cases h with | cons a r=>exact .cons a.weak (ih r)
theorem aCc {d:Option Nat} {f:FuncId} {vs args:List V} {R:V→List (Nat×List V)→Prop} {K:V→St→Prop} (h:bF P f args [] R) (hargs:weaks vs=args) (hcl:V.closeds args=true)
    (hK:∀ x b,R x b→x.closed=true∧K x s):lJ P s d f vs K:=by
  intro E N κ w a cargs hfb _ hok hrep
  have g:=hok.good
  let κc:Ctx:=⟨κ.S,κ.mt,fun _=>none,κ.bl⟩
  have hgc:Good ⟨κc,w,[],fun _=>False⟩ κc w [] :=
    ⟨⟨rfl,rfl,rfl,Nat.le_refl _,fun _ _ _=>rfl,fun _ _ _=>rfl,fun _ h=>by simp at h,Mem.le_refl _⟩,g.mem,fun n c hc=>by simp [bget] at hc,fun n hn=>by simp [bget] at hn,fun n n' b hn=>by simp [bget] at hn,fun t o ho=>by simp [κc] at ho,fun t t' o o' gg ho=>by simp [κc] at ho,g.tab,fun b hb=>⟨fun h=>h,g.tabNow b hb⟩⟩
  have hrepc:aZ κc cargs args:=by
    rw [← hargs] at hcl ⊢
    exact hrep.weaks.move (show κ.S.le κc.S from Mem.le_refl _) (V.fitss_closed _ _ _ hcl)
  refine (h κc w cargs (fun _=>False) hgc hrepc).mono ?_
  rintro e w' ⟨v,x,κ',fb',rfl,hg',hx,hR⟩
  obtain ⟨hxc,hKx⟩:=hK x fb' hR
  let κ2:Ctx:=⟨κ'.S,κ.mt,κ.o,κ.bl⟩
  have hle:κ.S.le κ2.S:=hg'.frm.le
  have hblk:∀ b,b<w.heap.size→w'.heap[b]?=w.heap[b]?:=fun b hb=>hg'.frm.block b hb (fun h=>h)
  have hS:∀ b,b<w.heap.size→κ'.S b=κ.S b:=fun b hb=>hg'.frm.mem b hb (fun h=>h)
  have hmv:∀ {v:Value} {x:V},aR κ v x→aR κ2 v x:=fun hr=>hr.move hle (V.fits_eq (κ:=κ) (κ':=κ2) (fun _=>rfl) (fun _=>rfl) _)
  refine ⟨v,x,κ2,s,rfl,⟨hok.size,hok.defers,fun n=>hmv (hok.env n),?_⟩,hx.move (show κ'.S.le κ2.S from Mem.le_refl _) (V.fits_closed _ _ _ hxc),hKx⟩
  refine g.patch (fun b=>w.heap.size≤b) (fun _=>False) (fun _=>False) hg'.frm.os hg'.frm.tape hg'.frm.output hg'.frm.size (fun b hb=>.inr (Nat.le_trans g.frm.size hb)) (fun b hb=>⟨hblk b (by omega),hS b (by omega)⟩) (fun b _=>(g.frm.le b).trans (hle b)) (fun b _=>(g.tab b).trans (hle b))
    (fun b _ hn=>hg'.mem b hn) (fun _ _=>rfl) (fun n c hc _=>⟨c,hc,rfl,rfl,Mv.fits hle (V.fitss_eq (κ:=κ) (κ':=κ2) (fun _=>rfl) (fun _=>rfl) _),fun b hb=>?_⟩) (fun _ _ _ h=>h.elim) (fun _ _ _ _ _ h=>h.elim) (fun t o ho _=>⟨ho,fun b hb=>?_⟩) (fun _ _ _ h=>h.elim) (fun _ _ _ _ _ _ _ h=>h.elim)
  · have:=((g.blk n (by simp [hc])).2 b hb).2.1; omega
  · have:=(g.own t o ho).1.lt hb; omega
end
end Go.Ab
