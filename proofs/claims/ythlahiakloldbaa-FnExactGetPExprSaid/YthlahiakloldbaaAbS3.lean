/- Steps through regions whose order is drawn. -/
import Derived.Test.YthlahiakloldbaaAbS2
namespace Go.Ab
open Go Go.RowKit
def kT (s:St) (l:List Nat):List (Nat×V):=l.map fun t=>(t,lk s.env t)
def evV (s:St) (o:AOp) (r:V):Ev:={ o:=o,d:=o.dst,r:=r,rt:=kT s o.rd,rb:=rdB s o }
theorem mQ {s:St} {l:List Nat}:∀ p ∈ kT s l,lk s.env p.1=p.2:=by
  intro p hp
  obtain ⟨t,_,rfl⟩:=List.mem_map.1 hp
  rfl
theorem jX {s s':St} {l:List Nat} (h:∀ p ∈ kT s l,lk s'.env p.1=p.2):∀ t ∈ l,lk s'.env t=lk s.env t:=fun t ht=>h (t,lk s.env t) (List.mem_map.2 ⟨t,ht,rfl⟩)
theorem X3 {s:St} {v:V}:∀ p ∈ rdV s v,bget s.bx p.1=some p.2:=by
  intro p hp
  unfold rdV at hp
  split at hp
  all_goals first
    | (split at hp
       · rename_i h; simp at hp; subst hp; exact h
       · simp at hp)
    | simp at hp
theorem aNi {s:St} {o:AOp}:∀ p ∈ rdB s o,bget s.bx p.1=some p.2:=by
  cases o
  case ld d n g x=>exact X3
  case len d x=>exact X3
  case g j w o =>
    cases o
    case ld d n g x=>exact X3
    case len d x=>exact X3
    all_goals intro p hp; simp [rdB] at hp
  all_goals intro p hp; simp [rdB] at hp
theorem J4 {s:St} {o:AOp} {r:V}:Rd (evV s o r) s:=⟨mQ,aNi,fun p hp=>by simp [evV] at hp⟩
theorem uD {s:St} {o:AOp} {r:V} {d:Nat} (hd:o.dst=some d):eff (evV s o r)=fun s'=>s'.put d r:=by
  funext s'
  simp only [eff,evV,hd,nZ]
  rfl
theorem aO6 {s s':St} {o:AOp} {r:V} (h:Rd (evV s o r) s'):Agree s s' o.rd (rdB s o):=⟨jX h.rt,h.rb⟩
theorem aDd {P:Program} {s:St} {o:AOp} {r:V} (hval:o.val=true) (h:vop s (fun v=>v=r) o):jY P (evV s o r):=by
  intro s' hrd _
  obtain ⟨d,hd,e⟩:=aG3 (P:=P) (s:=s') (K:=fun s''=>s''=eff (evV s o r) s') hval
  show aop P s' _ o
  refine e ?_
  have h':=aKh hval (aO6 hrd) h
  obtain ⟨z,hz,hT⟩:=aLi s' o hval _ h'
  subst hz
  exact hT _ (by rw [uD hd])
theorem aRi {P:Program} {s:St} {j:Nat} {want p b:Bool} {o:AOp} {r:V} (hval:o.val=true) (hb:jP (lk s.env j)=some (p,b)) (h:(p&&(b==want))=true→vop s (fun v=>v=r) o):jY P (evV s (.g j want o) (.ite (p&&(b==want)) r)):=by
  intro s' hrd _
  obtain ⟨d,hd,_⟩:=aG3 (P:=P) (s:=s') (K:=fun _=>True) hval
  have hd':(AOp.g j want o).dst=some d:=hd
  show aop P s' _ (.g j want o)
  rw [aKy hval hd]
  have hj:lk s'.env j=lk s.env j:=jX hrd.rt j (by simp [AOp.rd])
  rw [hj]
  have hag:Agree s s' o.rd (rdB s o):=by
    refine ⟨fun t ht=>jX hrd.rt t (by simp [AOp.rd,ht]),fun p hp=>hrd.rb p ?_⟩
    cases o
    case ld d n g x=>exact hp
    case len d x=>exact hp
    case g=>simp [AOp.val] at hval
    all_goals simp [rdB] at hp
  exact uT hb ⟨r,fun hc=>aKh hval hag (h hc),by rw [uD hd']⟩
theorem aUn {P : Program} {s : St} {d : Nat} {f : FuncId} {xs : List AO} {args : List V} {v : V} (hg : bR P f args [] fun x _ => x = v) (hargs : weaks (xs.map (ev s)) = args) (hcl : V.closeds args = true) (hv : v.closed = true) :
    jY P (evV s (.call (some d) f xs) v):=by
  intro s' hrd _
  have e:xs.map (ev s')=xs.map (ev s):=Agree.evs (B:=[]) ⟨jX hrd.rt,fun p hp=>by simp at hp⟩
  show jR P s' (some d) f (xs.map (ev s')) fun x s''=>s''.putO (some d) x=eff _ s'
  rw [e]
  refine aCb hg hargs hcl fun x b hx=>?_
  subst hx
  exact ⟨hv,by rw [uD (d:=d) rfl]; rfl⟩
def evA (d:Nat) (z:List V):Ev:={ o:=.alc d z,d:=some d,r:=.ptr d 0,nw:=[(d,z)],fr:=[d] }
theorem aO5 {P:Program} {d:Nat} {z:List V}:jY P (evA d z):=fun _ _ hg=>⟨hg.fr d (by simp [evA]),rfl⟩
theorem aOi {s:St} {d:Nat} {z:List V}:Rd (evA d z) s:=⟨fun p hp=>by simp [evA] at hp,fun p hp=>by simp [evA] at hp,fun p hp=>by simp [evA] at hp⟩
def evX (s:St) (d:Nat) (T:TypeId) (x:AO):Ev:={ o:=.box d T x,d:=some d,r:=.ptr d 0,nw:=[(d,(ev s x).cells.map (rA d T))],fr:=[d],rt:=kT s x.rd }
theorem aU6 {P:Program} {s:St} {d:Nat} {T:TypeId} {x:AO} (h1:(ev s x).cond.isEmpty=true) (h2:(ev s x).solid=true) (h3:V.noPtrs d (ev s x).cells=true):jY P (evX s d T x):=by
  intro s' hrd hg
  have e:ev s' x=ev s x:=Agree.ev (B:=[]) ⟨jX hrd.rt,fun p hp=>by simp at hp⟩
  show use (ev s' x) _
  rw [e]
  exact nI h1 ⟨h2,hg.fr d (by simp [evX]),h3,rfl⟩
def evS (s:St) (n:Nat) (x y:AO) (b o:Nat) (c:List V):Ev:={ o:=.st n x y,rt:=kT s (x.rd++y.rd),rb:=[(b,c)],wr:=[(b,putCells c o (ev s y).cells)] }
theorem aTs {P:Program} {s:St} {n:Nat} {x y:AO} {b o:Nat} {c:List V} (h1:ev s x=.ptr b o) (h2:(ev s y).cond.isEmpty=true) (h3:(ev s y).solid=true) (h4:(ev s y).cells.length=n) (h5:o+n≤c.length) (h6:jI c=true):jY P (evS s n x y b o c):=by
  intro s' hrd _
  have hag:Agree s s' (x.rd++y.rd) []:=⟨jX hrd.rt,fun p hp=>by simp at hp⟩
  have e1:ev s' x=ev s x:=hag.l.ev
  have e2:ev s' y=ev s y:=hag.r.ev
  show use (ev s' x) _
  rw [e1,e2,h1]
  refine nI (x:=ev s y) h2 ⟨c,hrd.rb (b,c) (by simp [evS]),h6,h3,h4,h5,rfl⟩
theorem aPt {s:St} {n:Nat} {x y:AO} {b o:Nat} {c:List V} (h:bget s.bx b=some c):Rd (evS s n x y b o c) s :=
  ⟨mQ,fun p hp=>by simp [evS] at hp; subst hp; exact h,fun p hp=>by simp [evS] at hp; subst hp; simp [h]⟩
def evN (s:St) (d:Nat) (x:AO):Ev:={ o:=.asg d x,d:=some d,r:=ev s x,rt:=kT s x.rd }
def V.isOsl:V→Bool
  | .osl ..=>true
  | _=>false
theorem aR9 {P:Program} {s:St} {d:Nat} {x:AO} (h1:(ev s x).cond.isEmpty=true):jY P (evN s d x):=by
  intro s' hrd _
  have e:ev s' x=ev s x:=Agree.ev (B:=[]) ⟨jX hrd.rt,fun p hp=>by simp at hp⟩
  show use (ev s' x) _
  rw [e]
  exact nI h1 (.inl rfl)
def evB (s:St) (d:Nat) (e:TypeId) (sz:Nat) (xs:List AO) (l:List (List D)):Ev:={ o:=.bsl d e sz xs,d:=some d,r:=.osl d e sz l,rt:=kT s (xs.flatMap AO.rd),fr:=[d] }
theorem aSa {P:Program} {s:St} {d:Nat} {e:TypeId} {sz:Nat} {xs:List AO} {l:List (List D)} (h:pI s sz xs=some l):jY P (evB s d e sz xs l):=by
  intro s' hrd hg
  have e1:xs.map (ev s')=xs.map (ev s):=Agree.evs (B:=[]) ⟨jX hrd.rt,fun p hp=>by simp at hp⟩
  have h':pI s' sz xs=some l:=by
    rw [← h]
    clear hrd hg h
    induction xs with
    | nil=>rfl
    | cons x xs ih =>
      simp only [List.map_cons,List.cons.injEq] at e1
      simp only [pI,e1.1,ih e1.2]
  exact .inl ⟨hg.fr d (by simp [evB]),aFq h' rfl⟩
def evP (s:St) (d:Nat) (e:TypeId) (sz by':Nat) (x y:AO) (t:Nat) (r:List (List D)) (tt tb:List Nat):Ev:={ o:=.app d e sz by' x y,d:=some d,r:=.osl d e sz r,rt:=kT s (x.rd++y.rd),T:=[t],tt:=tt,tb:=tb,fr:=[d] }
theorem aVi {P:Program} {s:St} {d:Nat} {e:TypeId} {sz by':Nat} {x y:AO} {t:Nat} {l m:List (List D)} {tt tb:List Nat} (hb:(l.length+m.length) * by'≤140737488355328) (h1:ev s x=.osl t e sz l) (h2:(ev s y).cond=[]) (h3:srV (ev s y)=some (sz,m)):jY P (evP s d e sz by' x y t (l++m) tt tb):=by
  intro s' hrd hg
  have hag:Agree s s' (x.rd++y.rd) []:=⟨jX hrd.rt,fun p hp=>by simp at hp⟩
  have e1:ev s' x=ev s x:=hag.l.ev
  have e2:ev s' y=ev s y:=hag.r.ev
  show use (ev s' x) _
  rw [e1,e2,h1]
  refine nI (x:=ev s y) (by rw [h2]; rfl) ?_
  refine .inl (aJd h3 ?_)
  exact ⟨rfl,rfl,rfl,hb,hg.fr d (by simp [evP]),hg.cl t (by simp [evP]),rfl⟩
def dev (s:St) (o:AOp):Option Ev :=
  match o with
  | .asg d x=>if (ev s x).cond.isEmpty&&!(ev s x).isOsl then some (evN s d x) else none
  | .box d T x=>if (ev s x).cond.isEmpty&&((ev s x).solid&&V.noPtrs d (ev s x).cells) then some (evX s d T x) else none
  | .alc d z=>if V.noPtrs d z then some (evA d z) else none
  | .st n x y => if (ev s y).cond.isEmpty then match ev s x with
      | .ptr b o=>match bget s.bx b with
        | some c=>if jI c&&(ev s y).solid&&((ev s y).cells.length==n&&decide (o+n≤c.length)) then some (evS s n x y b o c) else none
        | none=>none
      | _=>none
    else none
  | o => if o.val && (needs s o).all id then match mW s o with
      | some v=>some (evV s o v)
      | none=>none
    else none
theorem aR8 {P:Program} {s:St} {o:AOp} {e:Ev} (h:dev s o=some e):e.o=o∧jY P e∧Rd e s:=by
  cases o
  case asg d x =>
    simp only [dev] at h
    split at h <;> simp at h
    rename_i hc; subst h
    simp only [Bool.and_eq_true,Bool.not_eq_true'] at hc
    exact ⟨rfl,aR9 hc.1,⟨mQ,fun p hp=>by simp [evN] at hp,fun p hp=>by simp [evN] at hp⟩⟩
  case box d T x =>
    simp only [dev] at h
    split at h <;> simp at h
    rename_i hc; subst h
    simp only [Bool.and_eq_true] at hc
    exact ⟨rfl,aU6 hc.1 hc.2.1 hc.2.2,⟨mQ,fun p hp=>by simp [evX] at hp,fun p hp=>by simp [evX] at hp⟩⟩
  case alc d z =>
    simp only [dev] at h
    split at h <;> simp at h
    rename_i hc; subst h
    exact ⟨rfl,aO5,aOi⟩
  case st n x y =>
    simp only [dev] at h
    split at h
    · rename_i hc
      split at h
      · rename_i h1
        split at h
        · rename_i h2
          split at h <;> simp at h
          rename_i h3; subst h
          simp only [Bool.and_eq_true,beq_iff_eq,decide_eq_true_eq] at h3
          exact ⟨rfl,aTs h1 hc h3.1.2 h3.2.1 h3.2.2 h3.1.1,aPt h2⟩
        · simp at h
      · simp at h
    · simp at h
  all_goals
    simp only [dev] at h
    split at h
    · rename_i hc
      split at h <;> simp at h
      rename_i hv; subst h
      rw [Bool.and_eq_true] at hc
      exact ⟨rfl,aDd hc.1 (yD (C:=fun v=>v=_) hc.2 hv rfl),J4⟩
    · simp at h
def O6:List AOp→St→Option St
  | [],s=>some s
  | o::l,s=>match dev s o with
    | some e=>O6 l (eff e s)
    | none=>none
def aBp:List AOp→List Ev→St→List Ev
  | [],acc,_=>acc
  | o::l,acc,s=>match dev s o with
    | some e=>aBp l (e::acc) (eff e s)
    | none=>acc
section
variable {P:Program} {K:List Ev→St→Prop} {s:St} {acc:List Ev} {rest:List AOp} {o:AOp} {α β:Type} {r:β} {d:Nat}
theorem bO (n:Nat) {l:List AOp} {s':St} (h:O6 (l.take n) s=some s') (hk:dgo P K (l.drop n) (aBp (l.take n) acc s) s'):dgo P K l acc s:=by
  induction n generalizing l s acc with
  | zero=>simp [O6] at h; subst h; exact hk
  | succ n ih =>
    cases l with
    | nil=>simp [O6] at h; subst h; exact hk
    | cons o l =>
      simp only [List.take_succ_cons,O6] at h
      simp only [List.take_succ_cons,aBp,List.drop_succ_cons] at hk
      cases he:dev s o with
      | none=>rw [he] at h; simp at h
      | some e =>
        rw [he] at h hk
        obtain ⟨h1,h2,h3⟩:=aR8 (P:=P) he
        exact ⟨e,h1,h2,h3,ih h hk⟩
theorem iQ {m:Option α} {v':α→V} {kF:α→Option β} (h:(m>>=kF)=some r) (hval:o.val=true) (hd:o.dst=some d) (hop:∀ y,m=some y→vop s (fun v=>v=v' y) o) (hk:∀ y,kF y=some r→dgo P K rest (evV s o (v' y)::acc) (s.put d (v' y))):dgo P K (o::rest) acc s:=by
  cases m with
  | none=>simp at h
  | some y=>exact ⟨_,rfl,aDd hval (hop y rfl),J4,by rw [uD hd]; exact hk y h⟩
theorem aQy {v':V} (hval:o.val=true) (hd:o.dst=some d) (hop:vop s (fun v=>v=v') o) (hk:dgo P K rest (evV s o v'::acc) (s.put d v')):dgo P K (o::rest) acc s :=
  ⟨_,rfl,aDd hval hop,J4,by rw [uD hd]; exact hk⟩
theorem lV {j : Nat} {want p b : Bool} {v' : V} (hb : jP (lk s.env j) = some (p, b)) (hval : o.val = true) (hd : o.dst = some d) (hop : (p && (b == want)) = true → vop s (fun v => v = v') o) (hk : dgo P K rest (evV s (.g j want o) (.ite (p && (b == want)) v') :: acc) (s.put d (.ite (p && (b == want)) v'))) :
    dgo P K (.g j want o::rest) acc s:=⟨_,rfl,aRi hval hb hop,J4,by rw [uD (o:=.g j want o) hd]; exact hk⟩
theorem lD {f : FuncId} {xs : List AO} {args : List V} {m : Option α} {v' : α → V} {kF : α → Option β} (h : (m >>= kF) = some r) (hg : ∀ y, m = some y → bR P f args [] fun x _ => x = v' y)
    (hargs:weaks (xs.map (ev s))=args) (hcl:V.closeds args=true) (hv:∀ y,(v' y).closed=true) (hk:∀ y,kF y=some r→dgo P K rest (evV s (.call (some d) f xs) (v' y)::acc) (s.put d (v' y))):dgo P K (.call (some d) f xs::rest) acc s:=by
  cases m with
  | none=>simp at h
  | some y=>exact ⟨_,rfl,aUn (hg y rfl) hargs hcl (hv y),J4,by rw [uD (o:=.call (some d) f xs) rfl]; exact hk y h⟩
theorem R3 {e sz:Nat} {xs:List AO} {l:List α} {f g:α→List D} (hl:pI s sz xs=some (l.map g)) (hfg:∀ x,f x=g x) (hk:dgo P K rest (evB s d e sz xs (l.map f)::acc) (s.put d (.osl d e sz (l.map f)))):dgo P K (.bsl d e sz xs::rest) acc s:=by
  have:l.map g=l.map f:=List.map_congr_left fun x _=>(hfg x).symm
  rw [this] at hl
  exact ⟨_,rfl,aSa hl,⟨mQ,fun p hp=>by simp [evB] at hp,fun p hp=>by simp [evB] at hp⟩,hk⟩
theorem V7 {e sz by' t : Nat} {xo yo : AO} {l m : List α} {f : α → List D} {kF : List α → Option β} {S' : List α → St} (tt tb : List Nat) (h : (appG by' l m >>= kF) = some r) (hx : ev s xo = .osl t e sz (l.map f)) (hy0 : (ev s yo).cond = []) (hy : srV (ev s yo) = some (sz, m.map f))
    (hS:∀ y:List α,eff (evP s d e sz by' xo yo t (y.map f) tt tb) s=S' y) (hk:∀ y,kF y=some r→dgo P K rest (evP s d e sz by' xo yo t (y.map f) tt tb::acc) (S' y)):dgo P K (.app d e sz by' xo yo::rest) acc s:=by
  unfold appG at h
  split at h
  · rename_i h0
    have:=hk _ h
    have e1:(l++m).map f=l.map f++m.map f:=List.map_append ..
    refine ⟨evP s d e sz by' xo yo t ((l++m).map f) tt tb,rfl,?_,⟨mQ,fun p hp=>by simp [evP] at hp,fun p hp=>by simp [evP] at hp⟩,by rw [hS]; exact this⟩
    rw [e1]
    exact aVi (by simpa using h0) hx hy0 hy
  · simp at h
theorem fK {w:List (List Nat)} {s0:St} {Q:St→Prop} (h1:acc.reverse.all (glB s0)=true) (h2:F9 w (jW 0 acc.reverse)=true) (h:Q s):dgo P (X8 w s0 Q) [] acc s:=⟨h1,h2,h⟩
theorem fM {w:List (List Nat)} {Q:Exit→St→Prop} {l:List AOp} (h:dgo P (X8 w s (Q .normal)) l [] s):avc P (.dops w l) Q s:=h
end
end Go.Ab
