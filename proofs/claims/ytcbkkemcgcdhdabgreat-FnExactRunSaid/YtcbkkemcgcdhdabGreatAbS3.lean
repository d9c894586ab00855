/- Steps through regions whose order is drawn. -/
import Derived.Test.YtcbkkemcgcdhdabGreatAbS2
namespace Go.Ab
open Go Go.RowKit
open _root_.Bool renaming and_eq_true→QA
open _root_.List renaming mem_cons→QB,map_cons→QC,mem_map→QD,mem_append→QE
variable {s s':St} {P:Program} {d j sz t n by':Nat} {xs:List AO} {o:AOp} {want p b:Bool} {args caps z c:List V} {x y xo fo:AO} {r v:V} {f g:FuncId} {l:List (List D)} {e:TypeId} {tt tb:List Nat}
def rQ (s:St) (l:List Nat):List (Nat×V):=l.map fun t=>(t,lk s.env t)
def evV (s:St) (o:AOp) (r:V):Ev:={ o:=o,d:=o.dst,r:=r,rt:=rQ s o.rd,rb:=rdB s o }
theorem vG {l:List Nat}:∀ p∈rQ s l,lk s.env p.1=p.2:=by
 intro p hp;obtain ⟨t,_,rfl⟩:=QD.1 hp;rfl
theorem lW {l:List Nat} (h:∀ p∈rQ s l,lk s'.env p.1=p.2):∀ t∈l,lk s'.env t=lk s.env t:=fun t ht=>h (t,lk s.env t) (QD.2 ⟨t,ht,rfl⟩)
theorem aDq {s:St} {v:V}:∀ p∈rdV s v,bget s.bx p.1=some p.2:=by
  intro p hp
  unfold rdV at hp
  split at hp
  all_goals first
    | (split at hp
       · rename_i h; simp at hp; subst hp; exact h
       · simp at hp)
    | simp at hp
theorem bPg:∀ p∈rdB s o,bget s.bx p.1=some p.2:=by
 cases o
 case ld d n g x=>exact aDq
 case len d x=>exact aDq
 case ia d n x i=>exact aDq
 case g j w o =>
  cases o
  case ld d n g x=>exact aDq
  case len d x=>exact aDq
  case ia d n x i=>exact aDq
  all_goals intro p hp; simp [rdB] at hp
 all_goals intro p hp; simp [rdB] at hp
theorem Y9:Rd (evV s o r) s:=⟨vG,bPg,fun p hp=>by simp [evV] at hp⟩
theorem nI (hd:o.dst=some d):eff (evV s o r)=fun s'=>s'.put d r:=by
 funext s'
 simp only [eff,evV,hd,J6];rfl
theorem cMb (h:Rd (evV s o r) s'):Agree s s' o.rd (rdB s o):=⟨lW h.rt,h.rb⟩
theorem bLu (hval:o.val=true) (h:vop s (fun v=>v=r) o):mG P (evV s o r):=by
 intro s' hrd _;obtain ⟨d,hd,e⟩:=aUs (P:=P) (s:=s') (K:=fun s''=>s''=eff (evV s o r) s') hval;show aop P s' _ o;refine e ?_;have h':=bG1 hval (cMb hrd) h;obtain ⟨z,hz,hT⟩:=bNw s' o hval _ h';subst hz;exact hT _ (by rw [nI hd])
theorem bOk (hval:o.val=true) (hb:iP (lk s.env j)=some (p,b)) (h:(p&&(b==want))=true→vop s (fun v=>v=r) o):mG P (evV s (.g j want o) (.ite (p&&(b==want)) r)):=by
 intro s' hrd _;obtain ⟨d,hd,_⟩:=aUs (P:=P) (s:=s') (K:=fun _=>True) hval;have hd':(AOp.g j want o).dst=some d:=hd;show aop P s' _ (.g j want o);rw [bFu hval hd];have hj:lk s'.env j=lk s.env j:=lW hrd.rt j (by simp [AOp.rd]);rw [hj];have hag:Agree s s' o.rd (rdB s o):=by
  refine ⟨fun t ht=>lW hrd.rt t (by simp [AOp.rd,ht]),fun p hp=>hrd.rb p ?_⟩;cases o
  case ld d n g x=>exact hp
  case len d x=>exact hp
  case ia d n x i=>exact hp
  case g=>simp [AOp.val] at hval
  all_goals simp [rdB] at hp
 exact yD hb ⟨r,fun hc=>bG1 hval hag (h hc),by rw [nI hd']⟩
theorem bWm (hg:bF P f args [] fun x _=>x=v) (hargs:weaks (xs.map (ev s))=args) (hcl:V.closeds args=true) (hv:v.closed=true) :
  mG P (evV s (.call (some d) f xs) v):=by
 intro s' hrd _;have e:xs.map (ev s')=xs.map (ev s):=Agree.evs (B:=[]) ⟨lW hrd.rt,fun p hp=>by simp at hp⟩;show kG P s' (some d) f (xs.map (ev s')) fun x s''=>s''.putO (some d) x=eff _ s'
 rw [e];refine aBn hg hargs hcl fun x b hx=>?_;subst hx;exact ⟨hv,by rw [nI (d:=d) rfl]; rfl⟩
theorem cLx (hb:iP (lk s.env j)=some (p,b)) (hg:(p&&(b==want))=true→bF P f args [] fun x _=>x=v)
  (hargs:(p&&(b==want))=true→weaks (strs (xs.map (ev s)))=args) (hcl:V.closeds args=true) (hv:v.closed=true) (hn:(p&&(b==want))=true→(conds s xs).all id=true) :
  mG P (evV s (.g j want (.call (some d) f xs)) (.ite (p&&(b==want)) v)):=by
 intro s' hrd hgl;have e:xs.map (ev s')=xs.map (ev s):=Agree.evs (B:=[]) ⟨fun t ht=>lW hrd.rt t (by simp only [AOp.rd,QB]; exact .inr ht),fun p hp=>by simp at hp⟩;have hj:lk s'.env j=lk s.env j:=lW hrd.rt j (by simp [AOp.rd]);have hcs:conds s' xs=conds s xs:=by
  clear hargs hn hrd hgl
  induction xs with
  | nil=>rfl
  | cons x xs ih =>
   simp only [QC,List.cons.injEq] at e;simp only [conds,e.1,ih e.2]
 show aop P s' _ (.g j want (.call (some d) f xs));simp only [aop];rw [hj];refine yD hb ⟨v,s',fun hc=>?_,fun _=>Wk.refl s',by rw [nI (d:=d) rfl]⟩;refine aU3 (by rw [hcs]; exact hn hc) ?_;rw [e];exact aBn (hg hc) (hargs hc) hcl fun x b hx=>by subst hx; exact ⟨hv,rfl,rfl⟩
theorem bSd (hb:iP (lk s.env j)=some (p,b)) (hfn:(ev s fo).str.vw=.fn g caps) (hgo:pG P g=true) (hg:(p&&(b==want))=true→bF P g args [] fun x _=>x=v)
  (hargs:(p&&(b==want))=true→weaks (strs (xs.map (ev s))++caps)=args) (hcl:V.closeds args=true) (hv:v.closed=true) (hn:(p&&(b==want))=true→(conds s (fo::xs)).all id=true) :
  mG P (evV s (.g j want (.callv (some d) fo xs)) (.ite (p&&(b==want)) v)):=by
 intro s' hrd hgl;have e0:ev s' fo=ev s fo:=Agree.ev (B:=[]) ⟨fun t ht=>lW hrd.rt t (by simp only [AOp.rd,QB,QE]; exact .inr (.inl ht)),fun p hp=>by simp at hp⟩;have e:xs.map (ev s')=xs.map (ev s):=Agree.evs (B:=[]) ⟨fun t ht=>lW hrd.rt t (by simp only [AOp.rd,QB,QE]; exact .inr (.inr ht)),fun p hp=>by simp at hp⟩;have hj:lk s'.env j=lk s.env j:=lW hrd.rt j (by simp [AOp.rd]);have hcs:conds s' xs=conds s xs:=by
  clear hargs hn hrd hgl
  induction xs with
  | nil=>rfl
  | cons x xs ih =>
   simp only [QC,List.cons.injEq] at e;simp only [conds,e.1,ih e.2]
 show aop P s' _ (.g j want (.callv (some d) fo xs));simp only [aop];rw [hj,e0];refine yD hb ⟨v,s',fun hc=>fE (iE (hn hc)) ?_,fun _=>Wk.refl s',by rw [nI (d:=d) rfl]⟩;rw [hfn];refine ⟨hgo,?_⟩;refine cF4 (by rw [hcs]; exact oJ (hn hc)) ?_;rw [e];exact aBn (hg hc) (hargs hc) hcl fun x b hx=>by subst hx; exact ⟨hv,rfl,rfl⟩
def evA (d:Nat) (z:List V):Ev:={ o:=.alc d z,d:=some d,r:=.ptr d 0,nw:=[(d,z)],fr:=[d] }
theorem bU4:mG P (evA d z):=fun _ _ hg=>⟨hg.fr d (by simp [evA]),rfl⟩
theorem cIr:Rd (evA d z) s:=⟨fun p hp=>by simp [evA] at hp,fun p hp=>by simp [evA] at hp,fun p hp=>by simp [evA] at hp⟩
def evX (s:St) (d:Nat) (T:TypeId) (x:AO):Ev:={ o:=.box d T x,d:=some d,r:=.ptr d 0,nw:=[(d,(ev s x).cells.map (Y4 d T))],fr:=[d],rt:=rQ s x.rd }
theorem bZo {T:TypeId} (h1:(ev s x).cond.isEmpty=true) (h2:(ev s x).solid=true) (h3:V.noPtrs d (ev s x).cells=true):mG P (evX s d T x):=by
 intro s' hrd hg;have e:ev s' x=ev s x:=Agree.ev (B:=[]) ⟨lW hrd.rt,fun p hp=>by simp at hp⟩;show use (ev s' x) _;rw [e];exact yN h1 ⟨h2,hg.fr d (by simp [evX]),h3,rfl⟩
def evS (s:St) (n:Nat) (x y:AO) (b o:Nat) (c:List V):Ev:={ o:=.st n x y,rt:=rQ s (x.rd++y.rd),rb:=[(b,c)],wr:=[(b,putCells c o (ev s y).cells)] }
theorem bRj {b o:Nat} (h1:ev s x=.ptr b o) (h2:(ev s y).cond.isEmpty=true) (h3:(ev s y).solid=true) (h4:(ev s y).cells.length=n) (h5:o+n≤c.length) (h6:lZ c=true):mG P (evS s n x y b o c):=by
 intro s' hrd _;have hag:Agree s s' (x.rd++y.rd) []:=⟨lW hrd.rt,fun p hp=>by simp at hp⟩
 have e1:ev s' x=ev s x:=hag.l.ev;have e2:ev s' y=ev s y:=hag.r.ev;show use (ev s' x) _;rw [e1,e2,h1];refine yN (x:=ev s y) h2 ⟨c,hrd.rb (b,c) (by simp [evS]),h6,h3,h4,h5,rfl⟩
theorem cKb {b o:Nat} (h:bget s.bx b=some c):Rd (evS s n x y b o c) s :=
 ⟨vG,fun p hp=>by simp [evS] at hp; subst hp; exact h,fun p hp=>by simp [evS] at hp; subst hp; simp [h]⟩
def evN (s:St) (d:Nat) (x:AO):Ev:={ o:=.asg d x,d:=some d,r:=ev s x,rt:=rQ s x.rd }
def V.isOsl:V→Bool
 | .osl ..=>true
 | _=>false
theorem bMt (h1:(ev s x).cond.isEmpty=true):mG P (evN s d x):=by
 intro s' hrd _;have e:ev s' x=ev s x:=Agree.ev (B:=[]) ⟨lW hrd.rt,fun p hp=>by simp at hp⟩;show use (ev s' x) _;rw [e];exact yN h1 (.inl rfl)
def evM (s:St) (d:Nat) (x:AO) (t:Nat) (e:TypeId) (sz:Nat) (l:List (List D)) (tt tb:List Nat):Ev:={ o:=.asg d x,d:=some d,r:=.osl d e sz l,rt:=rQ s x.rd,T:=[t,d],tt:=tt,tb:=tb }
theorem bVv (h1:ev s x=.osl t e sz l) (h2:t≠d):mG P (evM s d x t e sz l tt tb):=by
 intro s' hrd hg;have e1:ev s' x=ev s x:=Agree.ev (B:=[]) ⟨lW hrd.rt,fun p hp=>by simp at hp⟩;show use (ev s' x) _;rw [e1,h1];exact .inr ⟨h2,hg.cl t (by simp [evM]),hg.cl d (by simp [evM]),rfl⟩
def evB (s:St) (d:Nat) (e:TypeId) (sz:Nat) (xs:List AO) (l:List (List D)):Ev:={ o:=.bsl d e sz xs,d:=some d,r:=.osl d e sz l,rt:=rQ s (xs.flatMap AO.rd),fr:=[d] }
theorem cAl (h:yF s sz xs=some l):mG P (evB s d e sz xs l):=by
 intro s' hrd hg;have e1:xs.map (ev s')=xs.map (ev s):=Agree.evs (B:=[]) ⟨lW hrd.rt,fun p hp=>by simp at hp⟩;have h':yF s' sz xs=some l:=by
  rw [← h];clear hrd hg h
  induction xs with
  | nil=>rfl
  | cons x xs ih =>
   simp only [QC,List.cons.injEq] at e1;simp only [yF,e1.1,ih e1.2]
 exact .inl ⟨hg.fr d (by simp [evB]),aO4 h' rfl⟩
def evP (s:St) (d:Nat) (e:TypeId) (sz by':Nat) (x y:AO) (t:Nat) (r:List (List D)) (tt tb:List Nat):Ev:={ o:=.app d e sz by' x y,d:=some d,r:=.osl d e sz r,rt:=rQ s (x.rd++y.rd),T:=[t],tt:=tt,tb:=tb,fr:=[d] }
theorem cL0 {m:List (List D)} (hb:(l.length+m.length) * by'≤140737488355328) (h1:ev s x=.osl t e sz l) (h2:(ev s y).cond=[]) (h3:srV (ev s y)=some (sz,m)):mG P (evP s d e sz by' x y t (l++m) tt tb):=by
 intro s' hrd hg;have hag:Agree s s' (x.rd++y.rd) []:=⟨lW hrd.rt,fun p hp=>by simp at hp⟩
 have e1:ev s' x=ev s x:=hag.l.ev;have e2:ev s' y=ev s y:=hag.r.ev;show use (ev s' x) _;rw [e1,e2,h1];refine yN (x:=ev s y) (by rw [h2]; rfl) ?_;refine .inl (aJg h3 ?_);exact ⟨rfl,.inl rfl,rfl,hb,hg.fr d (by simp [evP]),hg.cl t (by simp [evP]),rfl⟩
def dev (s:St) (o:AOp):Option Ev :=
  match o with
  | .asg d x=>if (ev s x).cond.isEmpty&&!(ev s x).isOsl then some (evN s d x) else none
  | .box d T x=>if (ev s x).cond.isEmpty&&((ev s x).solid&&V.noPtrs d (ev s x).cells) then some (evX s d T x) else none
  | .alc d z=>if V.noPtrs d z then some (evA d z) else none
  | .st n x y=>if (ev s y).cond.isEmpty then match ev s x with
      | .ptr b o=>match bget s.bx b with
        | some c=>if lZ c&&(ev s y).solid&&((ev s y).cells.length==n&&decide (o+n≤c.length)) then some (evS s n x y b o c) else none
        | none=>none
      | _=>none
    else none
  | o => if o.val && (needs s o).all id then match lQ s o with
      | some v=>some (evV s o v)
      | none=>none
    else none
theorem cLr {e:Ev} (h:dev s o=some e):e.o=o∧mG P e∧Rd e s:=by
 cases o
 case asg d x =>
  simp only [dev] at h;split at h <;> simp at h;rename_i hc; subst h;simp only [QA,Bool.not_eq_true'] at hc;exact ⟨rfl,bMt hc.1,⟨vG,fun p hp=>by simp [evN] at hp,fun p hp=>by simp [evN] at hp⟩⟩
 case box d T x =>
  simp only [dev] at h;split at h <;> simp at h;rename_i hc; subst h;simp only [QA] at hc;exact ⟨rfl,bZo hc.1 hc.2.1 hc.2.2,⟨vG,fun p hp=>by simp [evX] at hp,fun p hp=>by simp [evX] at hp⟩⟩
 case alc d z =>
  simp only [dev] at h;split at h <;> simp at h;rename_i hc; subst h;exact ⟨rfl,bU4,cIr⟩
 case st n x y =>
  simp only [dev] at h;split at h
  ·rename_i hc;split at h
   ·rename_i h1;split at h
    ·rename_i h2;split at h <;> simp at h;rename_i h3; subst h;simp only [QA,beq_iff_eq,decide_eq_true_eq] at h3;exact ⟨rfl,bRj h1 hc h3.1.2 h3.2.1 h3.2.2 h3.1.1,cKb h2⟩
    ·simp at h
   ·simp at h
  ·simp at h
 all_goals
  simp only [dev] at h;split at h
  ·rename_i hc;split at h <;> simp at h;rename_i hv; subst h;rw [QA] at hc;exact ⟨rfl,bLu hc.1 (aDy (C:=fun v=>v=_) hc.2 hv rfl),Y9⟩
  ·simp at h
def bHk:List AOp→St→Option St
 | [],s=>some s
 | o::l,s=>match dev s o with
  | some e=>bHk l (eff e s)
  | none=>none
section
variable {P:Program} {K:List Ev→St→Prop} {s:St} {acc:List Ev} {rest:List AOp} {o:AOp} {α β:Type} {r:β} {d:Nat}
theorem fJ {m:Option α} {v':α→V} {kF:α→Option β} (h:(m>>=kF)=some r) (hval:o.val=true) (hd:o.dst=some d) (hop:∀ y,m=some y→vop s (fun v=>v=v' y) o) (hk:∀ y,kF y=some r→dgo P K rest (evV s o (v' y)::acc) (s.put d (v' y))):dgo P K (o::rest) acc s:=by
 cases m with
 | none=>simp at h
 | some y=>exact ⟨_,rfl,bLu hval (hop y rfl),Y9,by rw [nI hd]; exact hk y h⟩
theorem bBl {c:Bool} {m:Option α} {dflt:α} {kF:α→Option β} (h:((if c=true then m else some dflt)>>=kF)=some r):∃ y,kF y=some r∧(c=true→m=some y):=by
 by_cases hc:c=true
 ·rw [if_pos hc] at h;cases m with
  | none=>simp at h
  | some y=>exact ⟨y,h,fun _=>rfl⟩
 ·rw [if_neg hc] at h;exact ⟨dflt,h,fun h'=>absurd h' hc⟩
theorem tH {m:Option α} {dflt:α} {v':α→V} {kF:α→Option β} (h:((if (p&&(b==want))=true then m else some dflt)>>=kF)=some r) (hb:iP (lk s.env j)=some (p,b)) (hval:o.val=true) (hd:o.dst=some d)
  (hop:∀ y,m=some y→(p&&(b==want))=true→vop s (fun v=>v=v' y) o) (hk:∀ y,kF y=some r→dgo P K rest (evV s (.g j want o) (.ite (p&&(b==want)) (v' y))::acc) (s.put d (.ite (p&&(b==want)) (v' y)))):dgo P K (.g j want o::rest) acc s:=by
 obtain ⟨y,hy,hm⟩:=bBl h;exact ⟨_,rfl,bOk hval hb fun hc=>hop y (hm hc) hc,Y9,by rw [nI (o:=.g j want o) hd]; exact hk y hy⟩
theorem aDe {v':V} (hb:iP (lk s.env j)=some (p,b)) (hval:o.val=true) (hd:o.dst=some d) (hop:(p&&(b==want))=true→vop s (fun v=>v=v') o) (hk:dgo P K rest (evV s (.g j want o) (.ite (p&&(b==want)) v')::acc) (s.put d (.ite (p&&(b==want)) v'))) :
 dgo P K (.g j want o::rest) acc s:=⟨_,rfl,bOk hval hb hop,Y9,by rw [nI (o:=.g j want o) hd]; exact hk⟩
theorem cPf {m:Option α} {v':α→V} {kF:α→Option β} (h:(m>>=kF)=some r) (hg:∀ y,m=some y→bF P f args [] fun x _=>x=v' y)
  (hargs:weaks (xs.map (ev s))=args) (hcl:V.closeds args=true) (hv:∀ y,(v' y).closed=true) (hk:∀ y,kF y=some r→dgo P K rest (evV s (.call (some d) f xs) (v' y)::acc) (s.put d (v' y))):dgo P K (.call (some d) f xs::rest) acc s:=by
 cases m with
 | none=>simp at h
 | some y=>exact ⟨_,rfl,bWm (hg y rfl) hargs hcl (hv y),Y9,by rw [nI (o:=.call (some d) f xs) rfl]; exact hk y h⟩
theorem cFc {m:Option α} {dflt:α} {v':α→V} {kF:α→Option β} (h:((if (p&&(b==want))=true then m else some dflt)>>=kF)=some r) (hb:iP (lk s.env j)=some (p,b))
  (hg:∀ y,m=some y→bF P f args [] fun x _=>x=v' y)
  (hargs:(p&&(b==want))=true→weaks (strs (xs.map (ev s)))=args) (hcl:V.closeds args=true) (hv:∀ y,(v' y).closed=true) (hn:(p&&(b==want))=true→(conds s xs).all id=true)
  (hk:∀ y,kF y=some r→dgo P K rest (evV s (.g j want (.call (some d) f xs)) (.ite (p&&(b==want)) (v' y))::acc) (s.put d (.ite (p&&(b==want)) (v' y)))):dgo P K (.g j want (.call (some d) f xs)::rest) acc s:=by
 obtain ⟨y,hy,hm⟩:=bBl h;exact ⟨_,rfl,cLx hb (fun hc=>hg y (hm hc)) hargs hcl (hv y) hn,Y9,by rw [nI (o:=.g j want (.call (some d) f xs)) rfl]; exact hk y hy⟩
theorem bWn {m:Option α} {dflt:α} {v':α→V} {kF:α→Option β} (h:((if (p&&(b==want))=true then m else some dflt)>>=kF)=some r) (hb:iP (lk s.env j)=some (p,b))
  (hfn:(ev s fo).str.vw=.fn g caps) (hgo:pG P g=true) (hg:∀ y,m=some y→bF P g args [] fun x _=>x=v' y)
  (hargs:(p&&(b==want))=true→weaks (strs (xs.map (ev s))++caps)=args) (hcl:V.closeds args=true) (hv:∀ y,(v' y).closed=true) (hn:(p&&(b==want))=true→(conds s (fo::xs)).all id=true)
  (hk:∀ y,kF y=some r→dgo P K rest (evV s (.g j want (.callv (some d) fo xs)) (.ite (p&&(b==want)) (v' y))::acc) (s.put d (.ite (p&&(b==want)) (v' y)))):dgo P K (.g j want (.callv (some d) fo xs)::rest) acc s:=by
 obtain ⟨y,hy,hm⟩:=bBl h;exact ⟨_,rfl,bSd hb hfn hgo (fun hc=>hg y (hm hc)) hargs hcl (hv y) hn,Y9,by rw [nI (o:=.g j want (.callv (some d) fo xs)) rfl]; exact hk y hy⟩
theorem wR {e:Nat} {l:List α} {f g:α→List D} (hl:yF s sz xs=some (l.map g)) (hfg:∀ x,f x=g x) (hk:dgo P K rest (evB s d e sz xs (l.map f)::acc) (s.put d (.osl d e sz (l.map f)))):dgo P K (.bsl d e sz xs::rest) acc s:=by
 have:l.map g=l.map f:=List.map_congr_left fun x _=>(hfg x).symm;rw [this] at hl;exact ⟨_,rfl,cAl hl,⟨vG,fun p hp=>by simp [evB] at hp,fun p hp=>by simp [evB] at hp⟩,hk⟩
theorem aSr {e:Nat} (tt tb:List Nat) (h1:ev s xo=.osl t e sz l) (h2:(t==d)=false) (hs:eff (evM s d xo t e sz l tt tb) s=s') (hk:dgo P K rest (evM s d xo t e sz l tt tb::acc) s'):dgo P K (.asg d xo::rest) acc s :=
 ⟨_,rfl,bVv h1 (by simpa using h2),⟨vG,fun p hp=>by simp [evM] at hp,fun p hp=>by simp [evM] at hp⟩,by rw [hs]; exact hk⟩
theorem aW4 (h1:(ev s xo).cond.isEmpty=true) (hs:eff (evN s d xo) s=s') (hk:dgo P K rest (evN s d xo::acc) s'):dgo P K (.asg d xo::rest) acc s :=
 ⟨_,rfl,bMt h1,⟨vG,fun p hp=>by simp [evN] at hp,fun p hp=>by simp [evN] at hp⟩,by rw [hs]; exact hk⟩
theorem cF6 {e:Nat} {yo:AO} {l m:List α} {f:α→List D} {kF:List α→Option β} {S':List α→St} (tt tb:List Nat) (h:(appG by' l m>>=kF)=some r) (hx:ev s xo=.osl t e sz (l.map f)) (hy0:(ev s yo).cond=[]) (hy:srV (ev s yo)=some (sz,m.map f))
  (hS:∀ y:List α,eff (evP s d e sz by' xo yo t (y.map f) tt tb) s=S' y) (hk:∀ y,kF y=some r→dgo P K rest (evP s d e sz by' xo yo t (y.map f) tt tb::acc) (S' y)):dgo P K (.app d e sz by' xo yo::rest) acc s:=by
 unfold appG at h;split at h
 ·rename_i h0;have:=hk _ h;have e1:(l++m).map f=l.map f++m.map f:=List.map_append ..;refine ⟨evP s d e sz by' xo yo t ((l++m).map f) tt tb,rfl,?_,⟨vG,fun p hp=>by simp [evP] at hp,fun p hp=>by simp [evP] at hp⟩,by rw [hS]; exact this⟩;rw [e1];exact cL0 (by simpa using h0) hx hy0 hy
 ·simp at h
theorem cEy {w:List (List Nat)} {s0:St} {Q:St→Prop} (h1:acc.reverse.all (glB s0)=true) (h2:aHp w (pM 0 acc.reverse)=true) (h:Q s):dgo P (zQ w s0 Q) [] acc s:=⟨h1,h2,h⟩
end
end Go.Ab
