/- Steps through regions whose order is drawn. -/
import Derived.Test.YteephiaimgcliabGreatDoorAbS2
namespace Go.Ab
open Go Go.RowKit
def qI (s:St) (l:List Nat):List (Nat×V):=l.map fun t=>(t,lk s.env t)
def evV (s:St) (o:AOp) (r:V):Ev:={ o:=o,d:=o.dst,r:=r,rt:=qI s o.rd,rb:=rdB s o }
theorem tJ {s:St} {l:List Nat}:∀ p ∈ qI s l,lk s.env p.1=p.2:=by
  intro p hp
  obtain ⟨t,_,rfl⟩:=List.mem_map.1 hp
  rfl
theorem lU {s s':St} {l:List Nat} (h:∀ p ∈ qI s l,lk s'.env p.1=p.2):∀ t ∈ l,lk s'.env t=lk s.env t:=fun t ht=>h (t,lk s.env t) (List.mem_map.2 ⟨t,ht,rfl⟩)
theorem Y4 {s:St} {v:V}:∀ p ∈ rdV s v,bget s.bx p.1=some p.2:=by
  intro p hp
  unfold rdV at hp
  split at hp
  all_goals first
    | (split at hp
       · rename_i h; simp at hp; subst hp; exact h
       · simp at hp)
    | simp at hp
theorem bSy {s:St} {o:AOp}:∀ p ∈ rdB s o,bget s.bx p.1=some p.2:=by
  cases o
  case ld d n g x=>exact Y4
  case len d x=>exact Y4
  case ia d n x i=>exact Y4
  case g j w o =>
    cases o
    case ld d n g x=>exact Y4
    case len d x=>exact Y4
    case ia d n x i=>exact Y4
    all_goals intro p hp; simp [rdB] at hp
  all_goals intro p hp; simp [rdB] at hp
theorem D8 {s:St} {o:AOp} {r:V}:Rd (evV s o r) s:=⟨tJ,bSy,fun p hp=>by simp [evV] at hp⟩
theorem tN {s:St} {o:AOp} {r:V} {d:Nat} (hd:o.dst=some d):eff (evV s o r)=fun s'=>s'.put d r:=by
  funext s'
  simp only [eff,evV,hd,uU]
  rfl
theorem bMq {s s':St} {o:AOp} {r:V} (h:Rd (evV s o r) s'):Agree s s' o.rd (rdB s o):=⟨lU h.rt,h.rb⟩
theorem aL0 {P:Program} {s:St} {o:AOp} {r:V} (hval:o.val=true) (h:vop s (fun v=>v=r) o):lK P (evV s o r):=by
  intro s' hrd _
  obtain ⟨d,hd,e⟩:=aIp (P:=P) (s:=s') (K:=fun s''=>s''=eff (evV s o r) s') hval
  show aop P s' _ o
  refine e ?_
  have h':=aRg hval (bMq hrd) h
  obtain ⟨z,hz,hT⟩:=aOn s' o hval _ h'
  subst hz
  exact hT _ (by rw [tN hd])
theorem aTj {P:Program} {s:St} {j:Nat} {want p b:Bool} {o:AOp} {r:V} (hval:o.val=true) (hb:fZ (lk s.env j)=some (p,b)) (h:(p&&(b==want))=true→vop s (fun v=>v=r) o):lK P (evV s (.g j want o) (.ite (p&&(b==want)) r)):=by
  intro s' hrd _
  obtain ⟨d,hd,_⟩:=aIp (P:=P) (s:=s') (K:=fun _=>True) hval
  have hd':(AOp.g j want o).dst=some d:=hd
  show aop P s' _ (.g j want o)
  rw [aPv hval hd]
  have hj:lk s'.env j=lk s.env j:=lU hrd.rt j (by simp [AOp.rd])
  rw [hj]
  have hag:Agree s s' o.rd (rdB s o):=by
    refine ⟨fun t ht=>lU hrd.rt t (by simp [AOp.rd,ht]),fun p hp=>hrd.rb p ?_⟩
    cases o
    case ld d n g x=>exact hp
    case len d x=>exact hp
    case ia d n x i=>exact hp
    case g=>simp [AOp.val] at hval
    all_goals simp [rdB] at hp
  exact uX hb ⟨r,fun hc=>aRg hval hag (h hc),by rw [tN hd']⟩
theorem bMf {P : Program} {s : St} {d : Nat} {f : FuncId} {xs : List AO} {args : List V} {v : V} (hg : bZ P f args [] fun x _ => x = v) (hargs : weaks (xs.map (ev s)) = args) (hcl : V.closeds args = true) (hv : v.closed = true) :
    lK P (evV s (.call (some d) f xs) v):=by
  intro s' hrd _
  have e:xs.map (ev s')=xs.map (ev s):=Agree.evs (B:=[]) ⟨lU hrd.rt,fun p hp=>by simp at hp⟩
  show jN P s' (some d) f (xs.map (ev s')) fun x s''=>s''.putO (some d) x=eff _ s'
  rw [e]
  refine aEt hg hargs hcl fun x b hx=>?_
  subst hx
  exact ⟨hv,by rw [tN (d:=d) rfl]; rfl⟩
theorem bS3 {P : Program} {s : St} {j d : Nat} {want p b : Bool} {f : FuncId} {xs : List AO} {args : List V} {v : V} (hb : fZ (lk s.env j) = some (p, b)) (hg : (p && (b == want)) = true → bZ P f args [] fun x _ => x = v)
    (hargs:(p&&(b==want))=true→weaks (strs (xs.map (ev s)))=args) (hcl:V.closeds args=true) (hv:v.closed=true) (hn:(p&&(b==want))=true→(conds s xs).all id=true) :
    lK P (evV s (.g j want (.call (some d) f xs)) (.ite (p&&(b==want)) v)):=by
  intro s' hrd hgl
  have e:xs.map (ev s')=xs.map (ev s):=Agree.evs (B:=[]) ⟨fun t ht=>lU hrd.rt t (by simp only [AOp.rd,List.mem_cons]; exact .inr ht),fun p hp=>by simp at hp⟩
  have hj:lk s'.env j=lk s.env j:=lU hrd.rt j (by simp [AOp.rd])
  have hcs:conds s' xs=conds s xs:=by
    clear hargs hn hrd hgl
    induction xs with
    | nil=>rfl
    | cons x xs ih =>
      simp only [List.map_cons,List.cons.injEq] at e
      simp only [conds,e.1,ih e.2]
  show aop P s' _ (.g j want (.call (some d) f xs))
  simp only [aop]
  rw [hj]
  refine uX hb ⟨v,s',fun hc=>?_,fun _=>Wk.refl s',by rw [tN (d:=d) rfl]⟩
  refine aK3 (by rw [hcs]; exact hn hc) ?_
  rw [e]
  exact aEt (hg hc) (hargs hc) hcl fun x b hx=>by subst hx; exact ⟨hv,rfl,rfl⟩
def evA (d:Nat) (z:List V):Ev:={ o:=.alc d z,d:=some d,r:=.ptr d 0,nw:=[(d,z)],fr:=[d] }
theorem bQ0 {P:Program} {d:Nat} {z:List V}:lK P (evA d z):=fun _ _ hg=>⟨hg.fr d (by simp [evA]),rfl⟩
theorem bLi {s:St} {d:Nat} {z:List V}:Rd (evA d z) s:=⟨fun p hp=>by simp [evA] at hp,fun p hp=>by simp [evA] at hp,fun p hp=>by simp [evA] at hp⟩
def evX (s:St) (d:Nat) (T:TypeId) (x:AO):Ev:={ o:=.box d T x,d:=some d,r:=.ptr d 0,nw:=[(d,(ev s x).cells.map (xW d T))],fr:=[d],rt:=qI s x.rd }
theorem bHm {P:Program} {s:St} {d:Nat} {T:TypeId} {x:AO} (h1:(ev s x).cond.isEmpty=true) (h2:(ev s x).solid=true) (h3:V.noPtrs d (ev s x).cells=true):lK P (evX s d T x):=by
  intro s' hrd hg
  have e:ev s' x=ev s x:=Agree.ev (B:=[]) ⟨lU hrd.rt,fun p hp=>by simp at hp⟩
  show use (ev s' x) _
  rw [e]
  exact qL h1 ⟨h2,hg.fr d (by simp [evX]),h3,rfl⟩
def evS (s:St) (n:Nat) (x y:AO) (b o:Nat) (c:List V):Ev:={ o:=.st n x y,rt:=qI s (x.rd++y.rd),rb:=[(b,c)],wr:=[(b,putCells c o (ev s y).cells)] }
theorem bDw {P:Program} {s:St} {n:Nat} {x y:AO} {b o:Nat} {c:List V} (h1:ev s x=.ptr b o) (h2:(ev s y).cond.isEmpty=true) (h3:(ev s y).solid=true) (h4:(ev s y).cells.length=n) (h5:o+n≤c.length) (h6:lY c=true):lK P (evS s n x y b o c):=by
  intro s' hrd _
  have hag:Agree s s' (x.rd++y.rd) []:=⟨lU hrd.rt,fun p hp=>by simp at hp⟩
  have e1:ev s' x=ev s x:=hag.l.ev
  have e2:ev s' y=ev s y:=hag.r.ev
  show use (ev s' x) _
  rw [e1,e2,h1]
  refine qL (x:=ev s y) h2 ⟨c,hrd.rb (b,c) (by simp [evS]),h6,h3,h4,h5,rfl⟩
theorem bCf {s:St} {n:Nat} {x y:AO} {b o:Nat} {c:List V} (h:bget s.bx b=some c):Rd (evS s n x y b o c) s :=
  ⟨tJ,fun p hp=>by simp [evS] at hp; subst hp; exact h,fun p hp=>by simp [evS] at hp; subst hp; simp [h]⟩
def evN (s:St) (d:Nat) (x:AO):Ev:={ o:=.asg d x,d:=some d,r:=ev s x,rt:=qI s x.rd }
def V.isOsl:V→Bool
  | .osl ..=>true
  | _=>false
theorem bSh {P:Program} {s:St} {d:Nat} {x:AO} (h1:(ev s x).cond.isEmpty=true):lK P (evN s d x):=by
  intro s' hrd _
  have e:ev s' x=ev s x:=Agree.ev (B:=[]) ⟨lU hrd.rt,fun p hp=>by simp at hp⟩
  show use (ev s' x) _
  rw [e]
  exact qL h1 (.inl rfl)
def evM (s:St) (d:Nat) (x:AO) (t:Nat) (e:TypeId) (sz:Nat) (l:List (List D)) (tt tb:List Nat):Ev:={ o:=.asg d x,d:=some d,r:=.osl d e sz l,rt:=qI s x.rd,T:=[t,d],tt:=tt,tb:=tb }
theorem bNa {P:Program} {s:St} {d:Nat} {x:AO} {t:Nat} {e:TypeId} {sz:Nat} {l:List (List D)} {tt tb:List Nat} (h1:ev s x=.osl t e sz l) (h2:t≠d):lK P (evM s d x t e sz l tt tb):=by
  intro s' hrd hg
  have e1:ev s' x=ev s x:=Agree.ev (B:=[]) ⟨lU hrd.rt,fun p hp=>by simp at hp⟩
  show use (ev s' x) _
  rw [e1,h1]
  exact .inr ⟨h2,hg.cl t (by simp [evM]),hg.cl d (by simp [evM]),rfl⟩
def evB (s:St) (d:Nat) (e:TypeId) (sz:Nat) (xs:List AO) (l:List (List D)):Ev:={ o:=.bsl d e sz xs,d:=some d,r:=.osl d e sz l,rt:=qI s (xs.flatMap AO.rd),fr:=[d] }
theorem aZa {P:Program} {s:St} {d:Nat} {e:TypeId} {sz:Nat} {xs:List AO} {l:List (List D)} (h:vE s sz xs=some l):lK P (evB s d e sz xs l):=by
  intro s' hrd hg
  have e1:xs.map (ev s')=xs.map (ev s):=Agree.evs (B:=[]) ⟨lU hrd.rt,fun p hp=>by simp at hp⟩
  have h':vE s' sz xs=some l:=by
    rw [← h]
    clear hrd hg h
    induction xs with
    | nil=>rfl
    | cons x xs ih =>
      simp only [List.map_cons,List.cons.injEq] at e1
      simp only [vE,e1.1,ih e1.2]
  exact .inl ⟨hg.fr d (by simp [evB]),aIi h' rfl⟩
def evP (s:St) (d:Nat) (e:TypeId) (sz by':Nat) (x y:AO) (t:Nat) (r:List (List D)) (tt tb:List Nat):Ev:={ o:=.app d e sz by' x y,d:=some d,r:=.osl d e sz r,rt:=qI s (x.rd++y.rd),T:=[t],tt:=tt,tb:=tb,fr:=[d] }
theorem bC8 {P:Program} {s:St} {d:Nat} {e:TypeId} {sz by':Nat} {x y:AO} {t:Nat} {l m:List (List D)} {tt tb:List Nat} (hb:(l.length+m.length) * by'≤140737488355328) (h1:ev s x=.osl t e sz l) (h2:(ev s y).cond=[]) (h3:srV (ev s y)=some (sz,m)):lK P (evP s d e sz by' x y t (l++m) tt tb):=by
  intro s' hrd hg
  have hag:Agree s s' (x.rd++y.rd) []:=⟨lU hrd.rt,fun p hp=>by simp at hp⟩
  have e1:ev s' x=ev s x:=hag.l.ev
  have e2:ev s' y=ev s y:=hag.r.ev
  show use (ev s' x) _
  rw [e1,e2,h1]
  refine qL (x:=ev s y) (by rw [h2]; rfl) ?_
  refine .inl (aAf h3 ?_)
  exact ⟨rfl,.inl rfl,rfl,hb,hg.fr d (by simp [evP]),hg.cl t (by simp [evP]),rfl⟩
def evQ (s:St) (d:Nat) (e:TypeId) (sz by':Nat) (x y:AO) (r:List (List D)):Ev:={ o:=.app d e sz by' x y,d:=some d,r:=.osl d e sz r,rt:=qI s (x.rd++y.rd),T:=[d],tt:=[d],fr:=[d] }
theorem bEf {P:Program} {s:St} {d:Nat} {e:TypeId} {sz by':Nat} {x y:AO} {m:List (List D)} (hb:(0+m.length) * by'≤140737488355328) (h1:ev s x=.nil sz) (h2:(ev s y).cond=[]) (h3:srV (ev s y)=some (sz,m)):lK P (evQ s d e sz by' x y m):=by
  intro s' hrd hg
  have hag:Agree s s' (x.rd++y.rd) []:=⟨lU hrd.rt,fun p hp=>by simp at hp⟩
  have e1:ev s' x=ev s x:=hag.l.ev
  have e2:ev s' y=ev s y:=hag.r.ev
  show use (ev s' x) _
  rw [e1,e2,h1]
  refine qL (x:=ev s y) (by rw [h2]; rfl) ?_
  refine .inl (aAf h3 ?_)
  exact ⟨rfl,by simpa using hb,hg.fr d (by simp [evQ]),hg.cl d (by simp [evQ]),rfl⟩
def dev (s:St) (o:AOp):Option Ev :=
  match o with
  | .asg d x=>if (ev s x).cond.isEmpty&&!(ev s x).isOsl then some (evN s d x) else none
  | .box d T x=>if (ev s x).cond.isEmpty&&((ev s x).solid&&V.noPtrs d (ev s x).cells) then some (evX s d T x) else none
  | .alc d z=>if V.noPtrs d z then some (evA d z) else none
  | .st n x y => if (ev s y).cond.isEmpty then match ev s x with
      | .ptr b o=>match bget s.bx b with
        | some c=>if lY c&&(ev s y).solid&&((ev s y).cells.length==n&&decide (o+n≤c.length)) then some (evS s n x y b o c) else none
        | none=>none
      | _=>none
    else none
  | o => if o.val && (needs s o).all id then match lM s o with
      | some v=>some (evV s o v)
      | none=>none
    else none
theorem bMe {P:Program} {s:St} {o:AOp} {e:Ev} (h:dev s o=some e):e.o=o∧lK P e∧Rd e s:=by
  cases o
  case asg d x =>
    simp only [dev] at h
    split at h <;> simp at h
    rename_i hc; subst h
    simp only [Bool.and_eq_true,Bool.not_eq_true'] at hc
    exact ⟨rfl,bSh hc.1,⟨tJ,fun p hp=>by simp [evN] at hp,fun p hp=>by simp [evN] at hp⟩⟩
  case box d T x =>
    simp only [dev] at h
    split at h <;> simp at h
    rename_i hc; subst h
    simp only [Bool.and_eq_true] at hc
    exact ⟨rfl,bHm hc.1 hc.2.1 hc.2.2,⟨tJ,fun p hp=>by simp [evX] at hp,fun p hp=>by simp [evX] at hp⟩⟩
  case alc d z =>
    simp only [dev] at h
    split at h <;> simp at h
    rename_i hc; subst h
    exact ⟨rfl,bQ0,bLi⟩
  case st n x y =>
    simp only [dev] at h
    split at h
    · rename_i hc
      split at h
      · rename_i h1
        split at h
        · rename_i h2
          split at h <;> simp at h
          rename_i h3; subst h
          simp only [Bool.and_eq_true,beq_iff_eq,decide_eq_true_eq] at h3
          exact ⟨rfl,bDw h1 hc h3.1.2 h3.2.1 h3.2.2 h3.1.1,bCf h2⟩
        · simp at h
      · simp at h
    · simp at h
  all_goals
    simp only [dev] at h
    split at h
    · rename_i hc
      split at h <;> simp at h
      rename_i hv; subst h
      rw [Bool.and_eq_true] at hc
      exact ⟨rfl,aL0 hc.1 (Q0 (C:=fun v=>v=_) hc.2 hv rfl),D8⟩
    · simp at h
def xY:List AOp→St→Option St
  | [],s=>some s
  | o::l,s=>match dev s o with
    | some e=>xY l (eff e s)
    | none=>none
def aEw:List AOp→List Ev→St→List Ev
  | [],acc,_=>acc
  | o::l,acc,s=>match dev s o with
    | some e=>aEw l (e::acc) (eff e s)
    | none=>acc
section
variable {P:Program} {K:List Ev→St→Prop} {s:St} {acc:List Ev} {rest:List AOp} {o:AOp} {α β:Type} {r:β} {d:Nat}
theorem aXf (n:Nat) {l:List AOp} {s':St} (h:xY (l.take n) s=some s') (hk:dgo P K (l.drop n) (aEw (l.take n) acc s) s'):dgo P K l acc s:=by
  induction n generalizing l s acc with
  | zero=>simp [xY] at h; subst h; exact hk
  | succ n ih =>
    cases l with
    | nil=>simp [xY] at h; subst h; exact hk
    | cons o l =>
      simp only [List.take_succ_cons,xY] at h
      simp only [List.take_succ_cons,aEw,List.drop_succ_cons] at hk
      cases he:dev s o with
      | none=>rw [he] at h; simp at h
      | some e =>
        rw [he] at h hk
        obtain ⟨h1,h2,h3⟩:=bMe (P:=P) he
        exact ⟨e,h1,h2,h3,ih h hk⟩
theorem wV {m:Option α} {v':α→V} {kF:α→Option β} (h:(m>>=kF)=some r) (hval:o.val=true) (hd:o.dst=some d) (hop:∀ y,m=some y→vop s (fun v=>v=v' y) o) (hk:∀ y,kF y=some r→dgo P K rest (evV s o (v' y)::acc) (s.put d (v' y))):dgo P K (o::rest) acc s:=by
  cases m with
  | none=>simp at h
  | some y=>exact ⟨_,rfl,aL0 hval (hop y rfl),D8,by rw [tN hd]; exact hk y h⟩
theorem bMr {v':V} (hval:o.val=true) (hd:o.dst=some d) (hop:vop s (fun v=>v=v') o) (hk:dgo P K rest (evV s o v'::acc) (s.put d v')):dgo P K (o::rest) acc s :=
  ⟨_,rfl,aL0 hval hop,D8,by rw [tN hd]; exact hk⟩
theorem aPf {c:Bool} {m:Option α} {dflt:α} {kF:α→Option β} (h:((if c=true then m else some dflt)>>=kF)=some r):∃ y,kF y=some r∧(c=true→m=some y):=by
  by_cases hc:c=true
  · rw [if_pos hc] at h
    cases m with
    | none=>simp at h
    | some y=>exact ⟨y,h,fun _=>rfl⟩
  · rw [if_neg hc] at h
    exact ⟨dflt,h,fun h'=>absurd h' hc⟩
theorem aJq {j : Nat} {want p b : Bool} {m : Option α} {dflt : α} {v' : α → V} {kF : α → Option β} (h : ((if (p && (b == want)) = true then m else some dflt) >>= kF) = some r) (hb : fZ (lk s.env j) = some (p, b)) (hval : o.val = true) (hd : o.dst = some d)
    (hop:∀ y,m=some y→(p&&(b==want))=true→vop s (fun v=>v=v' y) o) (hk:∀ y,kF y=some r→dgo P K rest (evV s (.g j want o) (.ite (p&&(b==want)) (v' y))::acc) (s.put d (.ite (p&&(b==want)) (v' y)))):dgo P K (.g j want o::rest) acc s:=by
  obtain ⟨y,hy,hm⟩:=aPf h
  exact ⟨_,rfl,aTj hval hb fun hc=>hop y (hm hc) hc,D8,by rw [tN (o:=.g j want o) hd]; exact hk y hy⟩
theorem aCv {j : Nat} {want p b : Bool} {v' : V} (hb : fZ (lk s.env j) = some (p, b)) (hval : o.val = true) (hd : o.dst = some d) (hop : (p && (b == want)) = true → vop s (fun v => v = v') o) (hk : dgo P K rest (evV s (.g j want o) (.ite (p && (b == want)) v') :: acc) (s.put d (.ite (p && (b == want)) v'))) :
    dgo P K (.g j want o::rest) acc s:=⟨_,rfl,aTj hval hb hop,D8,by rw [tN (o:=.g j want o) hd]; exact hk⟩
theorem bF1 {f : FuncId} {xs : List AO} {args : List V} {m : Option α} {v' : α → V} {kF : α → Option β} (h : (m >>= kF) = some r) (hg : ∀ y, m = some y → bZ P f args [] fun x _ => x = v' y)
    (hargs:weaks (xs.map (ev s))=args) (hcl:V.closeds args=true) (hv:∀ y,(v' y).closed=true) (hk:∀ y,kF y=some r→dgo P K rest (evV s (.call (some d) f xs) (v' y)::acc) (s.put d (v' y))):dgo P K (.call (some d) f xs::rest) acc s:=by
  cases m with
  | none=>simp at h
  | some y=>exact ⟨_,rfl,bMf (hg y rfl) hargs hcl (hv y),D8,by rw [tN (o:=.call (some d) f xs) rfl]; exact hk y h⟩
theorem bLe {j : Nat} {want p b : Bool} {f : FuncId} {xs : List AO} {args : List V} {m : Option α} {dflt : α} {v' : α → V} {kF : α → Option β} (h : ((if (p && (b == want)) = true then m else some dflt) >>= kF) = some r) (hb : fZ (lk s.env j) = some (p, b))
    (hg:∀ y,m=some y→bZ P f args [] fun x _=>x=v' y)
    (hargs:(p&&(b==want))=true→weaks (strs (xs.map (ev s)))=args) (hcl:V.closeds args=true) (hv:∀ y,(v' y).closed=true) (hn:(p&&(b==want))=true→(conds s xs).all id=true)
    (hk:∀ y,kF y=some r→dgo P K rest (evV s (.g j want (.call (some d) f xs)) (.ite (p&&(b==want)) (v' y))::acc) (s.put d (.ite (p&&(b==want)) (v' y)))):dgo P K (.g j want (.call (some d) f xs)::rest) acc s:=by
  obtain ⟨y,hy,hm⟩:=aPf h
  exact ⟨_,rfl,bS3 hb (fun hc=>hg y (hm hc)) hargs hcl (hv y) hn,D8,by rw [tN (o:=.g j want (.call (some d) f xs)) rfl]; exact hk y hy⟩
theorem iC {e sz:Nat} {xs:List AO} {l:List α} {f g:α→List D} (hl:vE s sz xs=some (l.map g)) (hfg:∀ x,f x=g x) (hk:dgo P K rest (evB s d e sz xs (l.map f)::acc) (s.put d (.osl d e sz (l.map f)))):dgo P K (.bsl d e sz xs::rest) acc s:=by
  have:l.map g=l.map f:=List.map_congr_left fun x _=>(hfg x).symm
  rw [this] at hl
  exact ⟨_,rfl,aZa hl,⟨tJ,fun p hp=>by simp [evB] at hp,fun p hp=>by simp [evB] at hp⟩,hk⟩
theorem nM {e sz t:Nat} {xo:AO} {l:List (List D)} (tt tb:List Nat) {s':St} (h1:ev s xo=.osl t e sz l) (h2:(t==d)=false) (hs:eff (evM s d xo t e sz l tt tb) s=s') (hk:dgo P K rest (evM s d xo t e sz l tt tb::acc) s'):dgo P K (.asg d xo::rest) acc s :=
  ⟨_,rfl,bNa h1 (by simpa using h2),⟨tJ,fun p hp=>by simp [evM] at hp,fun p hp=>by simp [evM] at hp⟩,by rw [hs]; exact hk⟩
theorem bJn {e sz by' t : Nat} {xo yo : AO} {l m : List α} {f : α → List D} {kF : List α → Option β} {S' : List α → St} (tt tb : List Nat) (h : (appG by' l m >>= kF) = some r) (hx : ev s xo = .osl t e sz (l.map f)) (hy0 : (ev s yo).cond = []) (hy : srV (ev s yo) = some (sz, m.map f))
    (hS:∀ y:List α,eff (evP s d e sz by' xo yo t (y.map f) tt tb) s=S' y) (hk:∀ y,kF y=some r→dgo P K rest (evP s d e sz by' xo yo t (y.map f) tt tb::acc) (S' y)):dgo P K (.app d e sz by' xo yo::rest) acc s:=by
  unfold appG at h
  split at h
  · rename_i h0
    have:=hk _ h
    have e1:(l++m).map f=l.map f++m.map f:=List.map_append ..
    refine ⟨evP s d e sz by' xo yo t ((l++m).map f) tt tb,rfl,?_,⟨tJ,fun p hp=>by simp [evP] at hp,fun p hp=>by simp [evP] at hp⟩,by rw [hS]; exact this⟩
    rw [e1]
    exact bC8 (by simpa using h0) hx hy0 hy
  · simp at h
theorem aGp {e sz by' : Nat} {xo yo : AO} {m : List α} {f : α → List D} {kF : List α → Option β} {S' : List α → St} (h : (appG by' [] m >>= kF) = some r) (hx : ev s xo = .nil sz) (hy0 : (ev s yo).cond = []) (hy : srV (ev s yo) = some (sz, m.map f))
    (hS:∀ y:List α,eff (evQ s d e sz by' xo yo (y.map f)) s=S' y) (hk:∀ y,kF y=some r→dgo P K rest (evQ s d e sz by' xo yo (y.map f)::acc) (S' y)):dgo P K (.app d e sz by' xo yo::rest) acc s:=by
  unfold appG at h
  split at h
  · rename_i h0
    have:=hk _ h
    refine ⟨evQ s d e sz by' xo yo (m.map f),rfl,bEf (by simpa using h0) hx hy0 hy,⟨tJ,fun p hp=>by simp [evQ] at hp,fun p hp=>by simp [evQ] at hp⟩,by rw [hS]; simpa using this⟩
  · simp at h
theorem fB {w:List (List Nat)} {s0:St} {Q:St→Prop} (h1:acc.reverse.all (glB s0)=true) (h2:aC4 w (mU 0 acc.reverse)=true) (h:Q s):dgo P (O1 w s0 Q) [] acc s:=⟨h1,h2,h⟩
theorem fC {w:List (List Nat)} {Q:Exit→St→Prop} {l:List AOp} (h:dgo P (O1 w s (Q .normal)) l [] s):avc P (.dops w l) Q s:=⟨s,Wk.refl s,h⟩
end
end Go.Ab
