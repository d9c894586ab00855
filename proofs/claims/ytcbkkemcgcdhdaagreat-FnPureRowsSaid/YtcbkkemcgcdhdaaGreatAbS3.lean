/- Steps through regions whose order is drawn. -/
import Derived.Test.YtcbkkemcgcdhdaaGreatAbS2
namespace Go.Ab
open Go Go.RowKit
open _root_.Bool renaming and_eq_true→QA
open _root_.List renaming mem_cons→QB,map_cons→QC,mem_map→QD,mem_append→QE
def oQ (s:St) (l:List Nat):List (Nat×V):=l.map fun t=>(t,lk s.env t)
def evV (s:St) (o:AOp) (r:V):Ev:={ o:=o,d:=o.dst,r:=r,rt:=oQ s o.rd,rb:=rdB s o }
theorem qH {s:St} {l:List Nat}:∀ p∈oQ s l,lk s.env p.1=p.2:=by
  intro p hp
  obtain ⟨t,_,rfl⟩:=QD.1 hp
  rfl
theorem kN {s s':St} {l:List Nat} (h:∀ p∈oQ s l,lk s'.env p.1=p.2):∀ t∈l,lk s'.env t=lk s.env t:=fun t ht=>h (t,lk s.env t) (QD.2 ⟨t,ht,rfl⟩)
theorem aHb {s:St} {v:V}:∀ p∈rdV s v,bget s.bx p.1=some p.2:=by
  intro p hp
  unfold rdV at hp
  split at hp
  all_goals first
    | (split at hp
       · rename_i h; simp at hp; subst hp; exact h
       · simp at hp)
    | simp at hp
theorem cJ0 {s:St} {o:AOp}:∀ p∈rdB s o,bget s.bx p.1=some p.2:=by
  cases o
  case ld d n g x=>exact aHb
  case len d x=>exact aHb
  case ia d n x i=>exact aHb
  case g j w o =>
    cases o
    case ld d n g x=>exact aHb
    case len d x=>exact aHb
    case ia d n x i=>exact aHb
    all_goals intro p hp; simp [rdB] at hp
  all_goals intro p hp; simp [rdB] at hp
theorem zA {s:St} {o:AOp} {r:V}:Rd (evV s o r) s:=⟨qH,cJ0,fun p hp=>by simp [evV] at hp⟩
theorem nZ {s:St} {o:AOp} {r:V} {d:Nat} (hd:o.dst=some d):eff (evV s o r)=fun s'=>s'.put d r:=by
  funext s'
  simp only [eff,evV,hd,D6]
  rfl
theorem cDs {s s':St} {o:AOp} {r:V} (h:Rd (evV s o r) s'):Agree s s' o.rd (rdB s o):=⟨kN h.rt,h.rb⟩
theorem bCa {P:Program} {s:St} {o:AOp} {r:V} (hval:o.val=true) (h:vop s (fun v=>v=r) o):nG P (evV s o r):=by
  intro s' hrd _
  obtain ⟨d,hd,e⟩:=aTm (P:=P) (s:=s') (K:=fun s''=>s''=eff (evV s o r) s') hval
  show aop P s' _ o
  refine e ?_
  have h':=bJi hval (cDs hrd) h
  obtain ⟨z,hz,hT⟩:=bHe s' o hval _ h'
  subst hz
  exact hT _ (by rw [nZ hd])
theorem bKx {P:Program} {s:St} {j:Nat} {want p b:Bool} {o:AOp} {r:V} (hval:o.val=true) (hb:iW (lk s.env j)=some (p,b)) (h:(p&&(b==want))=true→vop s (fun v=>v=r) o):nG P (evV s (.g j want o) (.ite (p&&(b==want)) r)):=by
  intro s' hrd _
  obtain ⟨d,hd,_⟩:=aTm (P:=P) (s:=s') (K:=fun _=>True) hval
  have hd':(AOp.g j want o).dst=some d:=hd
  show aop P s' _ (.g j want o)
  rw [bGi hval hd]
  have hj:lk s'.env j=lk s.env j:=kN hrd.rt j (by simp [AOp.rd])
  rw [hj]
  have hag:Agree s s' o.rd (rdB s o):=by
    refine ⟨fun t ht=>kN hrd.rt t (by simp [AOp.rd,ht]),fun p hp=>hrd.rb p ?_⟩
    cases o
    case ld d n g x=>exact hp
    case len d x=>exact hp
    case ia d n x i=>exact hp
    case g=>simp [AOp.val] at hval
    all_goals simp [rdB] at hp
  exact xV hb ⟨r,fun hc=>bJi hval hag (h hc),by rw [nZ hd']⟩
theorem cDt {P:Program} {s:St} {d:Nat} {f:FuncId} {xs:List AO} {args:List V} {v:V} (hg:bF P f args [] fun x _=>x=v) (hargs:weaks (xs.map (ev s))=args) (hcl:V.closeds args=true) (hv:v.closed=true) :
    nG P (evV s (.call (some d) f xs) v):=by
  intro s' hrd _
  have e:xs.map (ev s')=xs.map (ev s):=Agree.evs (B:=[]) ⟨kN hrd.rt,fun p hp=>by simp at hp⟩
  show lJ P s' (some d) f (xs.map (ev s')) fun x s''=>s''.putO (some d) x=eff _ s'
  rw [e]
  refine aCc hg hargs hcl fun x b hx=>?_
  subst hx
  exact ⟨hv,by rw [nZ (d:=d) rfl]; rfl⟩
theorem bUx {P:Program} {s:St} {j d:Nat} {want p b:Bool} {f:FuncId} {xs:List AO} {args:List V} {v:V} (hb:iW (lk s.env j)=some (p,b)) (hg:(p&&(b==want))=true→bF P f args [] fun x _=>x=v)
    (hargs:(p&&(b==want))=true→weaks (strs (xs.map (ev s)))=args) (hcl:V.closeds args=true) (hv:v.closed=true) (hn:(p&&(b==want))=true→(conds s xs).all id=true) :
    nG P (evV s (.g j want (.call (some d) f xs)) (.ite (p&&(b==want)) v)):=by
  intro s' hrd hgl
  have e:xs.map (ev s')=xs.map (ev s):=Agree.evs (B:=[]) ⟨fun t ht=>kN hrd.rt t (by simp only [AOp.rd,QB]; exact .inr ht),fun p hp=>by simp at hp⟩
  have hj:lk s'.env j=lk s.env j:=kN hrd.rt j (by simp [AOp.rd])
  have hcs:conds s' xs=conds s xs:=by
    clear hargs hn hrd hgl
    induction xs with
    | nil=>rfl
    | cons x xs ih =>
      simp only [QC,List.cons.injEq] at e
      simp only [conds,e.1,ih e.2]
  show aop P s' _ (.g j want (.call (some d) f xs))
  simp only [aop]
  rw [hj]
  refine xV hb ⟨v,s',fun hc=>?_,fun _=>Wk.refl s',by rw [nZ (d:=d) rfl]⟩
  refine aZ2 (by rw [hcs]; exact hn hc) ?_
  rw [e]
  exact aCc (hg hc) (hargs hc) hcl fun x b hx=>by subst hx; exact ⟨hv,rfl,rfl⟩
theorem bUm {P:Program} {s:St} {j d:Nat} {want p b:Bool} {g:FuncId} {fo:AO} {caps:List V} {xs:List AO} {args:List V} {v:V} (hb:iW (lk s.env j)=some (p,b)) (hfn:(ev s fo).str.vw=.fn g caps) (hgo:qD P g=true) (hg:(p&&(b==want))=true→bF P g args [] fun x _=>x=v)
    (hargs:(p&&(b==want))=true→weaks (strs (xs.map (ev s))++caps)=args) (hcl:V.closeds args=true) (hv:v.closed=true) (hn:(p&&(b==want))=true→(conds s (fo::xs)).all id=true) :
    nG P (evV s (.g j want (.callv (some d) fo xs)) (.ite (p&&(b==want)) v)):=by
  intro s' hrd hgl
  have e0:ev s' fo=ev s fo:=Agree.ev (B:=[]) ⟨fun t ht=>kN hrd.rt t (by simp only [AOp.rd,QB,QE]; exact .inr (.inl ht)),fun p hp=>by simp at hp⟩
  have e:xs.map (ev s')=xs.map (ev s):=Agree.evs (B:=[]) ⟨fun t ht=>kN hrd.rt t (by simp only [AOp.rd,QB,QE]; exact .inr (.inr ht)),fun p hp=>by simp at hp⟩
  have hj:lk s'.env j=lk s.env j:=kN hrd.rt j (by simp [AOp.rd])
  have hcs:conds s' xs=conds s xs:=by
    clear hargs hn hrd hgl
    induction xs with
    | nil=>rfl
    | cons x xs ih =>
      simp only [QC,List.cons.injEq] at e
      simp only [conds,e.1,ih e.2]
  show aop P s' _ (.g j want (.callv (some d) fo xs))
  simp only [aop]
  rw [hj,e0]
  refine xV hb ⟨v,s',fun hc=>fH (jL (hn hc)) ?_,fun _=>Wk.refl s',by rw [nZ (d:=d) rfl]⟩
  rw [hfn]
  refine ⟨hgo,?_⟩
  refine cJ7 (by rw [hcs]; exact sF (hn hc)) ?_
  rw [e]
  exact aCc (hg hc) (hargs hc) hcl fun x b hx=>by subst hx; exact ⟨hv,rfl,rfl⟩
def evA (d:Nat) (z:List V):Ev:={ o:=.alc d z,d:=some d,r:=.ptr d 0,nw:=[(d,z)],fr:=[d] }
theorem bY2 {P:Program} {d:Nat} {z:List V}:nG P (evA d z):=fun _ _ hg=>⟨hg.fr d (by simp [evA]),rfl⟩
theorem cCp {s:St} {d:Nat} {z:List V}:Rd (evA d z) s:=⟨fun p hp=>by simp [evA] at hp,fun p hp=>by simp [evA] at hp,fun p hp=>by simp [evA] at hp⟩
def evX (s:St) (d:Nat) (T:TypeId) (x:AO):Ev:={ o:=.box d T x,d:=some d,r:=.ptr d 0,nw:=[(d,(ev s x).cells.map (aAp d T))],fr:=[d],rt:=oQ s x.rd }
theorem cAy {P:Program} {s:St} {d:Nat} {T:TypeId} {x:AO} (h1:(ev s x).cond.isEmpty=true) (h2:(ev s x).solid=true) (h3:V.noPtrs d (ev s x).cells=true):nG P (evX s d T x):=by
  intro s' hrd hg
  have e:ev s' x=ev s x:=Agree.ev (B:=[]) ⟨kN hrd.rt,fun p hp=>by simp at hp⟩
  show use (ev s' x) _
  rw [e]
  exact yK h1 ⟨h2,hg.fr d (by simp [evX]),h3,rfl⟩
def evS (s:St) (n:Nat) (x y:AO) (b o:Nat) (c:List V):Ev:={ o:=.st n x y,rt:=oQ s (x.rd++y.rd),rb:=[(b,c)],wr:=[(b,putCells c o (ev s y).cells)] }
theorem cAd {P:Program} {s:St} {n:Nat} {x y:AO} {b o:Nat} {c:List V} (h1:ev s x=.ptr b o) (h2:(ev s y).cond.isEmpty=true) (h3:(ev s y).solid=true) (h4:(ev s y).cells.length=n) (h5:o+n≤c.length) (h6:nU c=true):nG P (evS s n x y b o c):=by
  intro s' hrd _
  have hag:Agree s s' (x.rd++y.rd) []:=⟨kN hrd.rt,fun p hp=>by simp at hp⟩
  have e1:ev s' x=ev s x:=hag.l.ev
  have e2:ev s' y=ev s y:=hag.r.ev
  show use (ev s' x) _
  rw [e1,e2,h1]
  refine yK (x:=ev s y) h2 ⟨c,hrd.rb (b,c) (by simp [evS]),h6,h3,h4,h5,rfl⟩
theorem bYo {s:St} {n:Nat} {x y:AO} {b o:Nat} {c:List V} (h:bget s.bx b=some c):Rd (evS s n x y b o c) s :=
  ⟨qH,fun p hp=>by simp [evS] at hp; subst hp; exact h,fun p hp=>by simp [evS] at hp; subst hp; simp [h]⟩
def evN (s:St) (d:Nat) (x:AO):Ev:={ o:=.asg d x,d:=some d,r:=ev s x,rt:=oQ s x.rd }
def V.isOsl:V→Bool
  | .osl ..=>true
  | _=>false
theorem bM5 {P:Program} {s:St} {d:Nat} {x:AO} (h1:(ev s x).cond.isEmpty=true):nG P (evN s d x):=by
  intro s' hrd _
  have e:ev s' x=ev s x:=Agree.ev (B:=[]) ⟨kN hrd.rt,fun p hp=>by simp at hp⟩
  show use (ev s' x) _
  rw [e]
  exact yK h1 (.inl rfl)
def evM (s:St) (d:Nat) (x:AO) (t:Nat) (e:TypeId) (sz:Nat) (l:List (List D)) (tt tb:List Nat):Ev:={ o:=.asg d x,d:=some d,r:=.osl d e sz l,rt:=oQ s x.rd,T:=[t,d],tt:=tt,tb:=tb }
theorem cEv {P:Program} {s:St} {d:Nat} {x:AO} {t:Nat} {e:TypeId} {sz:Nat} {l:List (List D)} {tt tb:List Nat} (h1:ev s x=.osl t e sz l) (h2:t≠d):nG P (evM s d x t e sz l tt tb):=by
  intro s' hrd hg
  have e1:ev s' x=ev s x:=Agree.ev (B:=[]) ⟨kN hrd.rt,fun p hp=>by simp at hp⟩
  show use (ev s' x) _
  rw [e1,h1]
  exact .inr ⟨h2,hg.cl t (by simp [evM]),hg.cl d (by simp [evM]),rfl⟩
def evB (s:St) (d:Nat) (e:TypeId) (sz:Nat) (xs:List AO) (l:List (List D)):Ev:={ o:=.bsl d e sz xs,d:=some d,r:=.osl d e sz l,rt:=oQ s (xs.flatMap AO.rd),fr:=[d] }
theorem bPi {P:Program} {s:St} {d:Nat} {e:TypeId} {sz:Nat} {xs:List AO} {l:List (List D)} (h:yI s sz xs=some l):nG P (evB s d e sz xs l):=by
  intro s' hrd hg
  have e1:xs.map (ev s')=xs.map (ev s):=Agree.evs (B:=[]) ⟨kN hrd.rt,fun p hp=>by simp at hp⟩
  have h':yI s' sz xs=some l:=by
    rw [← h]
    clear hrd hg h
    induction xs with
    | nil=>rfl
    | cons x xs ih =>
      simp only [QC,List.cons.injEq] at e1
      simp only [yI,e1.1,ih e1.2]
  exact .inl ⟨hg.fr d (by simp [evB]),aRp h' rfl⟩
def evP (s:St) (d:Nat) (e:TypeId) (sz by':Nat) (x y:AO) (t:Nat) (r:List (List D)) (tt tb:List Nat):Ev:={ o:=.app d e sz by' x y,d:=some d,r:=.osl d e sz r,rt:=oQ s (x.rd++y.rd),T:=[t],tt:=tt,tb:=tb,fr:=[d] }
theorem bUp {P:Program} {s:St} {d:Nat} {e:TypeId} {sz by':Nat} {x y:AO} {t:Nat} {l m:List (List D)} {tt tb:List Nat} (hb:(l.length+m.length) * by'≤140737488355328) (h1:ev s x=.osl t e sz l) (h2:(ev s y).cond=[]) (h3:srV (ev s y)=some (sz,m)):nG P (evP s d e sz by' x y t (l++m) tt tb):=by
  intro s' hrd hg
  have hag:Agree s s' (x.rd++y.rd) []:=⟨kN hrd.rt,fun p hp=>by simp at hp⟩
  have e1:ev s' x=ev s x:=hag.l.ev
  have e2:ev s' y=ev s y:=hag.r.ev
  show use (ev s' x) _
  rw [e1,e2,h1]
  refine yK (x:=ev s y) (by rw [h2]; rfl) ?_
  refine .inl (aK8 h3 ?_)
  exact ⟨rfl,.inl rfl,rfl,hb,hg.fr d (by simp [evP]),hg.cl t (by simp [evP]),rfl⟩
def dev (s:St) (o:AOp):Option Ev :=
  match o with
  | .asg d x=>if (ev s x).cond.isEmpty&&!(ev s x).isOsl then some (evN s d x) else none
  | .box d T x=>if (ev s x).cond.isEmpty&&((ev s x).solid&&V.noPtrs d (ev s x).cells) then some (evX s d T x) else none
  | .alc d z=>if V.noPtrs d z then some (evA d z) else none
  | .st n x y=>if (ev s y).cond.isEmpty then match ev s x with
      | .ptr b o=>match bget s.bx b with
        | some c=>if nU c&&(ev s y).solid&&((ev s y).cells.length==n&&decide (o+n≤c.length)) then some (evS s n x y b o c) else none
        | none=>none
      | _=>none
    else none
  | o => if o.val && (needs s o).all id then match nD s o with
      | some v=>some (evV s o v)
      | none=>none
    else none
theorem bWx {P:Program} {s:St} {o:AOp} {e:Ev} (h:dev s o=some e):e.o=o∧nG P e∧Rd e s:=by
  cases o
  case asg d x =>
    simp only [dev] at h
    split at h <;> simp at h
    rename_i hc; subst h
    simp only [QA,Bool.not_eq_true'] at hc
    exact ⟨rfl,bM5 hc.1,⟨qH,fun p hp=>by simp [evN] at hp,fun p hp=>by simp [evN] at hp⟩⟩
  case box d T x =>
    simp only [dev] at h
    split at h <;> simp at h
    rename_i hc; subst h
    simp only [QA] at hc
    exact ⟨rfl,cAy hc.1 hc.2.1 hc.2.2,⟨qH,fun p hp=>by simp [evX] at hp,fun p hp=>by simp [evX] at hp⟩⟩
  case alc d z =>
    simp only [dev] at h
    split at h <;> simp at h
    rename_i hc; subst h
    exact ⟨rfl,bY2,cCp⟩
  case st n x y =>
    simp only [dev] at h
    split at h
    · rename_i hc
      split at h
      · rename_i h1
        split at h
        · rename_i h2
          split at h <;> simp at h
          rename_i h3; subst h
          simp only [QA,beq_iff_eq,decide_eq_true_eq] at h3
          exact ⟨rfl,cAd h1 hc h3.1.2 h3.2.1 h3.2.2 h3.1.1,bYo h2⟩
        · simp at h
      · simp at h
    · simp at h
  all_goals
    simp only [dev] at h
    split at h
    · rename_i hc
      split at h <;> simp at h
      rename_i hv; subst h
      rw [QA] at hc
      exact ⟨rfl,bCa hc.1 (aEr (C:=fun v=>v=_) hc.2 hv rfl),zA⟩
    · simp at h
def bEy:List AOp→St→Option St
  | [],s=>some s
  | o::l,s=>match dev s o with
    | some e=>bEy l (eff e s)
    | none=>none
section
variable {P:Program} {K:List Ev→St→Prop} {s:St} {acc:List Ev} {rest:List AOp} {o:AOp} {α β:Type} {r:β} {d:Nat}
theorem dL {m:Option α} {v':α→V} {kF:α→Option β} (h:(m>>=kF)=some r) (hval:o.val=true) (hd:o.dst=some d) (hop:∀ y,m=some y→vop s (fun v=>v=v' y) o) (hk:∀ y,kF y=some r→dgo P K rest (evV s o (v' y)::acc) (s.put d (v' y))):dgo P K (o::rest) acc s:=by
  cases m with
  | none=>simp at h
  | some y=>exact ⟨_,rfl,bCa hval (hop y rfl),zA,by rw [nZ hd]; exact hk y h⟩
theorem bK3 {v':V} (hval:o.val=true) (hd:o.dst=some d) (hop:vop s (fun v=>v=v') o) (hk:dgo P K rest (evV s o v'::acc) (s.put d v')):dgo P K (o::rest) acc s :=
  ⟨_,rfl,bCa hval hop,zA,by rw [nZ hd]; exact hk⟩
theorem aVh {c:Bool} {m:Option α} {dflt:α} {kF:α→Option β} (h:((if c=true then m else some dflt)>>=kF)=some r):∃ y,kF y=some r∧(c=true→m=some y):=by
  by_cases hc:c=true
  · rw [if_pos hc] at h
    cases m with
    | none=>simp at h
    | some y=>exact ⟨y,h,fun _=>rfl⟩
  · rw [if_neg hc] at h
    exact ⟨dflt,h,fun h'=>absurd h' hc⟩
theorem pG {j:Nat} {want p b:Bool} {m:Option α} {dflt:α} {v':α→V} {kF:α→Option β} (h:((if (p&&(b==want))=true then m else some dflt)>>=kF)=some r) (hb:iW (lk s.env j)=some (p,b)) (hval:o.val=true) (hd:o.dst=some d)
    (hop:∀ y,m=some y→(p&&(b==want))=true→vop s (fun v=>v=v' y) o) (hk:∀ y,kF y=some r→dgo P K rest (evV s (.g j want o) (.ite (p&&(b==want)) (v' y))::acc) (s.put d (.ite (p&&(b==want)) (v' y)))):dgo P K (.g j want o::rest) acc s:=by
  obtain ⟨y,hy,hm⟩:=aVh h
  exact ⟨_,rfl,bKx hval hb fun hc=>hop y (hm hc) hc,zA,by rw [nZ (o:=.g j want o) hd]; exact hk y hy⟩
theorem aDb {j:Nat} {want p b:Bool} {v':V} (hb:iW (lk s.env j)=some (p,b)) (hval:o.val=true) (hd:o.dst=some d) (hop:(p&&(b==want))=true→vop s (fun v=>v=v') o) (hk:dgo P K rest (evV s (.g j want o) (.ite (p&&(b==want)) v')::acc) (s.put d (.ite (p&&(b==want)) v'))) :
    dgo P K (.g j want o::rest) acc s:=⟨_,rfl,bKx hval hb hop,zA,by rw [nZ (o:=.g j want o) hd]; exact hk⟩
theorem cGj {f:FuncId} {xs:List AO} {args:List V} {m:Option α} {v':α→V} {kF:α→Option β} (h:(m>>=kF)=some r) (hg:∀ y,m=some y→bF P f args [] fun x _=>x=v' y)
    (hargs:weaks (xs.map (ev s))=args) (hcl:V.closeds args=true) (hv:∀ y,(v' y).closed=true) (hk:∀ y,kF y=some r→dgo P K rest (evV s (.call (some d) f xs) (v' y)::acc) (s.put d (v' y))):dgo P K (.call (some d) f xs::rest) acc s:=by
  cases m with
  | none=>simp at h
  | some y=>exact ⟨_,rfl,cDt (hg y rfl) hargs hcl (hv y),zA,by rw [nZ (o:=.call (some d) f xs) rfl]; exact hk y h⟩
theorem bVk {j:Nat} {want p b:Bool} {f:FuncId} {xs:List AO} {args:List V} {m:Option α} {dflt:α} {v':α→V} {kF:α→Option β} (h:((if (p&&(b==want))=true then m else some dflt)>>=kF)=some r) (hb:iW (lk s.env j)=some (p,b))
    (hg:∀ y,m=some y→bF P f args [] fun x _=>x=v' y)
    (hargs:(p&&(b==want))=true→weaks (strs (xs.map (ev s)))=args) (hcl:V.closeds args=true) (hv:∀ y,(v' y).closed=true) (hn:(p&&(b==want))=true→(conds s xs).all id=true)
    (hk:∀ y,kF y=some r→dgo P K rest (evV s (.g j want (.call (some d) f xs)) (.ite (p&&(b==want)) (v' y))::acc) (s.put d (.ite (p&&(b==want)) (v' y)))):dgo P K (.g j want (.call (some d) f xs)::rest) acc s:=by
  obtain ⟨y,hy,hm⟩:=aVh h
  exact ⟨_,rfl,bUx hb (fun hc=>hg y (hm hc)) hargs hcl (hv y) hn,zA,by rw [nZ (o:=.g j want (.call (some d) f xs)) rfl]; exact hk y hy⟩
theorem bEt {j:Nat} {want p b:Bool} {g:FuncId} {fo:AO} {caps:List V} {xs:List AO} {args:List V} {m:Option α} {dflt:α} {v':α→V} {kF:α→Option β} (h:((if (p&&(b==want))=true then m else some dflt)>>=kF)=some r) (hb:iW (lk s.env j)=some (p,b))
    (hfn:(ev s fo).str.vw=.fn g caps) (hgo:qD P g=true) (hg:∀ y,m=some y→bF P g args [] fun x _=>x=v' y)
    (hargs:(p&&(b==want))=true→weaks (strs (xs.map (ev s))++caps)=args) (hcl:V.closeds args=true) (hv:∀ y,(v' y).closed=true) (hn:(p&&(b==want))=true→(conds s (fo::xs)).all id=true)
    (hk:∀ y,kF y=some r→dgo P K rest (evV s (.g j want (.callv (some d) fo xs)) (.ite (p&&(b==want)) (v' y))::acc) (s.put d (.ite (p&&(b==want)) (v' y)))):dgo P K (.g j want (.callv (some d) fo xs)::rest) acc s:=by
  obtain ⟨y,hy,hm⟩:=aVh h
  exact ⟨_,rfl,bUm hb hfn hgo (fun hc=>hg y (hm hc)) hargs hcl (hv y) hn,zA,by rw [nZ (o:=.g j want (.callv (some d) fo xs)) rfl]; exact hk y hy⟩
theorem uF {e sz:Nat} {xs:List AO} {l:List α} {f g:α→List D} (hl:yI s sz xs=some (l.map g)) (hfg:∀ x,f x=g x) (hk:dgo P K rest (evB s d e sz xs (l.map f)::acc) (s.put d (.osl d e sz (l.map f)))):dgo P K (.bsl d e sz xs::rest) acc s:=by
  have:l.map g=l.map f:=List.map_congr_left fun x _=>(hfg x).symm
  rw [this] at hl
  exact ⟨_,rfl,bPi hl,⟨qH,fun p hp=>by simp [evB] at hp,fun p hp=>by simp [evB] at hp⟩,hk⟩
theorem aRb {e sz t:Nat} {xo:AO} {l:List (List D)} (tt tb:List Nat) {s':St} (h1:ev s xo=.osl t e sz l) (h2:(t==d)=false) (hs:eff (evM s d xo t e sz l tt tb) s=s') (hk:dgo P K rest (evM s d xo t e sz l tt tb::acc) s'):dgo P K (.asg d xo::rest) acc s :=
  ⟨_,rfl,cEv h1 (by simpa using h2),⟨qH,fun p hp=>by simp [evM] at hp,fun p hp=>by simp [evM] at hp⟩,by rw [hs]; exact hk⟩
theorem aZ8 {xo:AO} {s':St} (h1:(ev s xo).cond.isEmpty=true) (hs:eff (evN s d xo) s=s') (hk:dgo P K rest (evN s d xo::acc) s'):dgo P K (.asg d xo::rest) acc s :=
  ⟨_,rfl,bM5 h1,⟨qH,fun p hp=>by simp [evN] at hp,fun p hp=>by simp [evN] at hp⟩,by rw [hs]; exact hk⟩
theorem cGr {e sz by' t:Nat} {xo yo:AO} {l m:List α} {f:α→List D} {kF:List α→Option β} {S':List α→St} (tt tb:List Nat) (h:(appG by' l m>>=kF)=some r) (hx:ev s xo=.osl t e sz (l.map f)) (hy0:(ev s yo).cond=[]) (hy:srV (ev s yo)=some (sz,m.map f))
    (hS:∀ y:List α,eff (evP s d e sz by' xo yo t (y.map f) tt tb) s=S' y) (hk:∀ y,kF y=some r→dgo P K rest (evP s d e sz by' xo yo t (y.map f) tt tb::acc) (S' y)):dgo P K (.app d e sz by' xo yo::rest) acc s:=by
  unfold appG at h
  split at h
  · rename_i h0
    have:=hk _ h
    have e1:(l++m).map f=l.map f++m.map f:=List.map_append ..
    refine ⟨evP s d e sz by' xo yo t ((l++m).map f) tt tb,rfl,?_,⟨qH,fun p hp=>by simp [evP] at hp,fun p hp=>by simp [evP] at hp⟩,by rw [hS]; exact this⟩
    rw [e1]
    exact bUp (by simpa using h0) hx hy0 hy
  · simp at h
theorem cGy {w:List (List Nat)} {s0:St} {Q:St→Prop} (h1:acc.reverse.all (glB s0)=true) (h2:aGk w (qG 0 acc.reverse)=true) (h:Q s):dgo P (K5 w s0 Q) [] acc s:=⟨h1,h2,h⟩
end
end Go.Ab
