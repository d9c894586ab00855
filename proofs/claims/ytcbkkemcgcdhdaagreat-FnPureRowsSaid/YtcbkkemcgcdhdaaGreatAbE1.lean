/- Operations in an open order: what an operation reads and changes; when two may be exchanged. -/
import Derived.Test.YtcbkkemcgcdhdaaGreatAb5
namespace Go.Ab
open Go Go.RowKit
open _root_.List renaming foldl_cons→QA,all_eq_true→QC,map_map→QD,any_cons→QF,mem_cons→QG,all_map→QH,cons_append→QI,map_cons→QJ,map_congr_left→QK
open _root_.Bool renaming and_eq_true→QB,or_eq_false_iff→QE
structure Ev where
  o:AOp
  d:Option Nat:=none
  r:V:=.und
  rt:List (Nat×V):=[]
  rb:List (Nat×List V):=[]
  T:List Nat:=[]
  tt:List Nat:=[]
  tb:List Nat:=[]
  wr:List (Nat×List V):=[]
  nw:List (Nat×List V):=[]
  fr:List Nat:=[]
def dnE (T:List Nat) (l:List (Nat×V)):List (Nat×V):=T.foldl (fun l t=>mI t l) l
def dnB (T:List Nat) (l:List (Nat×List V)):List (Nat×List V):=T.foldl (fun l t=>kT t l) l
def gG (l:List (Nat×List V)) (wr:List (Nat×List V)):List (Nat×List V):=wr.foldl (fun l p=>fC l p.1 p.2) l
def St.dnT (s:St) (T:List Nat):St:=⟨dnE T s.env,dnB T s.bx⟩
def D6 (d:Option Nat) (r:V) (l:List (Nat×V)):List (Nat×V) :=
  match d with
  | some d=>(d,r)::l
  | none=>l
def eff (e:Ev) (s:St):St:=⟨D6 e.d e.r (dnE e.T s.env),e.nw++gG (dnB e.T s.bx) e.wr⟩
structure Rd (e:Ev) (s:St):Prop where
  rt:∀ p∈e.rt,lk s.env p.1=p.2
  rb:∀ p∈e.rb,bget s.bx p.1=some p.2
  wr:∀ p∈e.wr,(bget s.bx p.1).isSome=true
structure Gl (e:Ev) (s:St):Prop where
  fr:∀ d∈e.fr,(s.dnT e.T).fresh d=true
  cl:∀ t∈e.T,(s.dnT e.T).clean t=true
  tt:∀ t∈e.T,∀ p∈s.env,e.tt.contains p.1=false→p.2.noTok t=true
  tb:∀ t∈e.T,∀ p∈s.bx,e.tb.contains p.1=false→V.noToks t p.2=true
structure Eqv (s s':St):Prop where
  lk:∀ n,lk s.env n=lk s'.env n
  env:∀ p,p∈s.env↔p∈s'.env
  bx:∀ n,bget s.bx n=bget s'.bx n
theorem Eqv.refl (s:St):Eqv s s:=⟨fun _=>rfl,fun _=>.rfl,fun _=>rfl⟩
theorem Eqv.symm {s s':St} (h:Eqv s s'):Eqv s' s:=⟨fun n=>(h.lk n).symm,fun p=>(h.env p).symm,fun n=>(h.bx n).symm⟩
theorem Eqv.trans {a b c:St} (h:Eqv a b) (k:Eqv b c):Eqv a c:=⟨fun n=>(h.lk n).trans (k.lk n),fun p=>(h.env p).trans (k.env p),fun n=>(h.bx n).trans (k.bx n)⟩
theorem bId {t:Nat} {l:List (Nat×V)} {p:Nat×V}:p∈mI t l↔∃ q∈l,p=(q.1,q.2.dn t):=by
  induction l with
  | nil=>simp [mI]
  | cons q l ih=>obtain ⟨m,v⟩:=q; simp [mI,ih]
theorem bIq {t:Nat} {l:List (Nat×List V)} {p:Nat×List V}:p∈kT t l↔∃ q∈l,p=(q.1,tV t q.2):=by
  induction l with
  | nil=>simp [kT]
  | cons q l ih=>obtain ⟨m,v⟩:=q; simp [kT,ih]
def dnV (T:List Nat) (v:V):V:=T.foldl (fun v t=>v.dn t) v
def dnVs (T:List Nat) (l:List V):List V:=T.foldl (fun l t=>tV t l) l
theorem aE3 (T:List Nat):∀ (l:List (Nat×V)) (n:Nat),lk (dnE T l) n=dnV T (lk l n):=by
  induction T with
  | nil=>intro l n; rfl
  | cons t T ih=>intro l n; simp only [dnE,QA] at ih ⊢; rw [ih,aM9]; rfl
theorem aCa (T:List Nat):∀ {l:List (Nat×V)} {p:Nat×V},p∈dnE T l↔∃ q∈l,p=(q.1,dnV T q.2):=by
  induction T with
  | nil=>intro l p; simp [dnE,dnV]
  | cons t T ih =>
    intro l p
    simp only [dnE,QA,dnV] at ih ⊢
    rw [ih]
    constructor
    · rintro ⟨q,hq,rfl⟩
      obtain ⟨q',hq',rfl⟩:=bId.1 hq
      exact ⟨q',hq',rfl⟩
    · rintro ⟨q,hq,rfl⟩
      exact ⟨_,bId.2 ⟨q,hq,rfl⟩,rfl⟩
theorem aBx (T:List Nat):∀ (l:List (Nat×List V)) (n:Nat),bget (dnB T l) n=(bget l n).map (dnVs T):=by
  induction T with
  | nil=>intro l n; cases h:bget l n <;> simp [dnB,dnVs,h]
  | cons t T ih=>intro l n; simp only [dnB,QA] at ih ⊢; rw [ih,aIm]; cases bget l n <;> rfl
theorem aI7 (T:List Nat):∀ {l:List (Nat×List V)} {p:Nat×List V},p∈dnB T l↔∃ q∈l,p=(q.1,dnVs T q.2):=by
  induction T with
  | nil=>intro l p; simp [dnB,dnVs]
  | cons t T ih =>
    intro l p
    simp only [dnB,QA,dnVs] at ih ⊢
    rw [ih]
    constructor
    · rintro ⟨q,hq,rfl⟩
      obtain ⟨q',hq',rfl⟩:=bIq.1 hq
      exact ⟨q',hq',rfl⟩
    · rintro ⟨q,hq,rfl⟩
      exact ⟨_,bIq.2 ⟨q,hq,rfl⟩,rfl⟩
theorem bFz {t:Nat} {v:V} (h:v.noTok t=true):v.dn1 t=v:=by
  cases v <;> first | rfl | skip
  case osl t' e sz l =>
    simp only [V.noTok,bne_iff_ne,ne_eq] at h
    simp [V.dn1,h]
theorem aX6 {t:Nat}:∀ {l:List V},V.noToks t l=true→l.map (V.dn1 t)=l
  | [],_=>rfl
  | v::l,h=>by
    simp only [V.noToks,QB] at h
    rw [QJ,bFz h.1,aX6 h.2]
theorem bMi {t:Nat} {v:V} (h:v.noTok t=true):v.dn0 t=v:=by
  cases v with
  | tup l=>exact congrArg V.tup (aX6 (by simpa [V.noTok] using h))
  | agv l=>exact congrArg V.agv (aX6 (by simpa [V.noTok] using h))
  | osl w e sz l=>exact bFz (v:=.osl w e sz l) h
  | _=>rfl
theorem bVt {t:Nat} {v:V} (h:v.noTok t=true):v.dn t=v:=by
  cases v <;> first | exact bMi h | exact congrArg _ (bMi (by simpa [V.noTok] using h))
theorem aHg:∀ {T:List Nat} {v:V},(∀ t∈T,v.noTok t=true)→dnV T v=v
  | [],v,_=>rfl
  | t::T,v,h=>by
    simp only [dnV,QA,bVt (h t (by simp))]
    exact aHg fun u hu=>h u (by simp [hu])
theorem aHl (t:Nat) (l:List V):tV t l=l.map (V.dn t):=by
  induction l with
  | nil=>rfl
  | cons v l ih=>simp [tV,ih]
theorem aEm (T:List Nat):∀ l:List V,dnVs T l=l.map (dnV T):=by
  induction T with
  | nil=>intro l; exact (List.map_id l).symm
  | cons t T ih=>intro l; simp only [dnVs,QA] at ih ⊢; rw [ih,aHl,QD]; rfl
theorem aPo {T:List Nat} {l:List V} (h:∀ t∈T,V.noToks t l=true):dnVs T l=l:=by
  rw [aEm]
  have:∀ v∈l,dnV T v=v:=fun v hv=>aHg fun t ht=>by
    have:=h t ht
    rw [D8,QC] at this
    exact this v hv
  exact (QK this).trans (by simp)
theorem bGr {t n:Nat} {v:V}:(v.dn1 t).noPtr n=v.noPtr n:=by
  cases v <;> first | rfl | skip
  simp only [V.dn1]; split <;> rfl
theorem bD2 {t n:Nat}:∀ {l:List V},V.noPtrs n (l.map (V.dn1 t))=V.noPtrs n l
  | []=>rfl
  | v::l=>by simp only [QJ,V.noPtrs,bGr,bD2 (l:=l)]
theorem bFj {t n:Nat} {v:V}:(v.dn0 t).noPtr n=v.noPtr n:=by
  cases v with
  | tup l=>simp only [V.dn0,V.noPtr]; exact bD2
  | agv l=>simp only [V.dn0,V.noPtr]; exact bD2
  | osl w e sz l=>exact bGr (v:=.osl w e sz l)
  | _=>rfl
theorem bP5 {t n:Nat} {v:V}:(v.dn t).noPtr n=v.noPtr n:=by
  cases v <;> first | exact bFj | (simp only [V.dn,V.noPtr]; exact bFj)
theorem bHv {t n:Nat} {v:V} (h:v.noTok n=true):(v.dn1 t).noTok n=true:=by
  cases v <;> first | exact h | skip
  simp only [V.dn1]; split
  · rfl
  · exact h
theorem bBu {t n:Nat}:∀ {l:List V},V.noToks n l=true→V.noToks n (l.map (V.dn1 t))=true
  | [],_=>rfl
  | v::l,h=>by
    simp only [V.noToks,QB] at h
    simp only [QJ,V.noToks,QB]
    exact ⟨bHv h.1,bBu h.2⟩
theorem bF1 {t n:Nat} {v:V} (h:v.noTok n=true):(v.dn0 t).noTok n=true:=by
  cases v with
  | tup l=>simp only [V.dn0,V.noTok] at h ⊢; exact bBu h
  | agv l=>simp only [V.dn0,V.noTok] at h ⊢; exact bBu h
  | osl w e sz l=>exact bHv (v:=.osl w e sz l) h
  | _=>exact h
theorem bZv {t n:Nat} {v:V} (h:v.noTok n=true):(v.dn t).noTok n=true:=by
  cases v <;> first | exact bF1 (t:=t) h | (rename_i c v; exact bF1 (t:=t) (v:=v) h)
theorem aG3 {n:Nat}:∀ {T:List Nat} {v:V},(dnV T v).noPtr n=v.noPtr n
  | [],v=>rfl
  | t::T,v=>by simp only [dnV,QA]; exact (aG3 (T:=T)).trans bP5
theorem aNq {n:Nat}:∀ {T:List Nat} {v:V},v.noTok n=true→(dnV T v).noTok n=true
  | [],v,h=>h
  | t::T,v,h=>by simp only [dnV,QA]; exact aNq (T:=T) (bZv h)
theorem bKk {t u:Nat} {v:V}:(v.dn1 t).dn1 u=(v.dn1 u).dn1 t:=by
  cases v <;> first | rfl | skip
  case osl w e sz l =>
    simp only [V.dn1]
    by_cases h1:w=t <;> by_cases h2:w=u <;> simp [h1,h2]
    all_goals first | (subst h1; simp_all) | (subst h2; simp_all) | skip
theorem bMo {t u:Nat} {l:List V}:(l.map (V.dn1 t)).map (V.dn1 u)=(l.map (V.dn1 u)).map (V.dn1 t):=by
  rw [QD,QD]
  exact QK fun v _=>bKk
theorem cFg {t w:Nat} {e:TypeId} {sz:Nat} {l:List (List D)}:(V.osl w e sz l).dn1 t=.d (.sl sz l)∨(V.osl w e sz l).dn1 t=.osl w e sz l:=by
  simp only [V.dn1]; split
  · exact .inl rfl
  · exact .inr rfl
theorem bM2 {t u:Nat} {v:V}:(v.dn0 t).dn0 u=(v.dn0 u).dn0 t:=by
  cases v with
  | tup l=>exact congrArg V.tup bMo
  | agv l=>exact congrArg V.agv bMo
  | osl w e sz l =>
    have h:=bKk (t:=t) (u:=u) (v:=.osl w e sz l)
    show ((V.osl w e sz l).dn1 t).dn0 u=((V.osl w e sz l).dn1 u).dn0 t
    have k:∀ (t u:Nat),((V.osl w e sz l).dn1 t).dn0 u=((V.osl w e sz l).dn1 t).dn1 u:=by
      intro t u
      rcases cFg (t:=t) (w:=w) (e:=e) (sz:=sz) (l:=l) with h | h <;> rw [h] <;> rfl
    rw [k,k,h]
  | _=>rfl
theorem aYh {t u:Nat} {v:V}:(v.dn t).dn u=(v.dn u).dn t:=by
  have plain:∀ v:V,(∀ c x,v≠.ite c x)→∀ t,v.dn t=v.dn0 t∧∀ c x,v.dn0 t≠.ite c x:=by
    intro v hv t
    cases v
    case osl=>exact ⟨rfl,fun c x h=>by simp only [V.dn0,V.dn1] at h; split at h <;> simp at h⟩
    case ite c x=>exact absurd rfl (hv c x)
    all_goals exact ⟨rfl,fun c x h=>by simp [V.dn0,V.dn1] at h⟩
  by_cases hv:∃ c x,v=.ite c x
  · obtain ⟨c,x,rfl⟩:=hv
    simp only [V.dn,bM2 (t:=t) (u:=u)]
  · have hv':∀ c x,v≠.ite c x:=fun c x e=>hv ⟨c,x,e⟩
    rw [(plain v hv' t).1,(plain v hv' u).1,(plain _ (plain v hv' t).2 u).1,(plain _ (plain v hv' u).2 t).1,bM2]
theorem bEp {u:Nat}:∀ {T:List Nat} {v:V},dnV T (v.dn u)=(dnV T v).dn u
  | [],v=>rfl
  | t::T,v=>by simp only [dnV,QA]; rw [aYh]; exact bEp (T:=T)
theorem bCx {T:List Nat}:∀ {U:List Nat} {v:V},dnV T (dnV U v)=dnV U (dnV T v)
  | [],v=>rfl
  | u::U,v=>by
    have h1:dnV (u::U) v=dnV U (v.dn u):=rfl
    have h2:dnV (u::U) (dnV T v)=dnV U ((dnV T v).dn u):=rfl
    rw [h1,h2,bCx (U:=U),bEp]
def named (l:List (Nat×List V)) (n:Nat):Bool:=l.any fun p=>p.1==n
theorem aKf (l:List (Nat×List V)) (n:Nat) (c:List V) (k:Nat):bget (fC l n c) k=if k=n then (bget l n).map (fun _=>c) else bget l k:=tC l n c k
theorem bLj:∀ {wr l:List (Nat×List V)} {k:Nat},named wr k=false→bget (gG l wr) k=bget l k
  | [],l,k,_=>rfl
  | p::wr,l,k,h=>by
    simp only [named,QF,QE,beq_eq_false_iff_ne] at h
    simp only [gG,QA]
    have:=bLj (wr:=wr) (l:=fC l p.1 p.2) (k:=k) h.2
    simp only [gG] at this
    rw [this,aKf,if_neg (fun e=>h.1 e.symm)]
theorem bG9 {n m:Nat} {c c':List V} (h:n≠m):∀ l:List (Nat×List V),fC (fC l n c) m c'=fC (fC l m c') n c
  | []=>rfl
  | (k,v)::l=>by
    by_cases h1:n=k <;> by_cases h2:m=k <;> simp [fC,h1,h2]
    · omega
    · exact bG9 h l
theorem wG (p:Nat×List V) (wr l:List (Nat×List V)):gG l (p::wr)=gG (fC l p.1 p.2) wr:=rfl
theorem bJ1 {n:Nat} {c:List V}:∀ {wr l:List (Nat×List V)},named wr n=false→gG (fC l n c) wr=fC (gG l wr) n c
  | [],l,_=>rfl
  | p::wr,l,h=>by
    simp only [named,QF,QE,beq_eq_false_iff_ne] at h
    rw [wG,wG,bG9 (fun e=>h.1 e.symm),bJ1 h.2]
theorem bMa:∀ {wr wr' l:List (Nat×List V)},(∀ p∈wr,named wr' p.1=false)→gG (gG l wr) wr'=gG (gG l wr') wr
  | [],wr',l,_=>rfl
  | p::wr,wr',l,h=>by
    rw [wG,wG,bMa (fun q hq=>h q (by simp [hq])),bJ1 (h p (by simp))]
theorem bGy {t n:Nat} {c:List V}:∀ {l:List (Nat×List V)},kT t (fC l n c)=fC (kT t l) n (tV t c)
  | []=>rfl
  | (k,v)::l=>by
    by_cases h1:n=k <;> simp [fC,kT,h1]
    exact bGy
theorem bL5 {n:Nat}:∀ {T:List Nat} {c:List V} {l:List (Nat×List V)},dnB T (fC l n c)=fC (dnB T l) n (dnVs T c)
  | [],c,l=>rfl
  | t::T,c,l=>by
    show dnB T (kT t (fC l n c))=_
    rw [bGy,bL5]; rfl
theorem bC5 {T:List Nat}:∀ {wr l:List (Nat×List V)},(∀ p∈wr,dnVs T p.2=p.2)→dnB T (gG l wr)=gG (dnB T l) wr
  | [],l,_=>rfl
  | p::wr,l,h=>by rw [wG,wG,bC5 (fun q hq=>h q (by simp [hq])),bL5,h p (by simp)]
theorem bAr {T:List Nat} {d:Nat} {c:List V} {l:List (Nat×List V)}:dnB T ((d,c)::l)=(d,dnVs T c)::dnB T l:=by
  induction T generalizing c l with
  | nil=>rfl
  | cons t T ih=>exact ih
theorem bVu {T:List Nat} {d:Nat} {v:V} {l:List (Nat×V)}:dnE T ((d,v)::l)=(d,dnV T v)::dnE T l:=by
  induction T generalizing v l with
  | nil=>rfl
  | cons t T ih=>exact ih
theorem bMq {t u:Nat}:∀ {l:List (Nat×V)},mI t (mI u l)=mI u (mI t l)
  | []=>rfl
  | (n,v)::l=>by simp only [mI,bMq (l:=l),aYh (v:=v)]
theorem bIp {u:Nat}:∀ {T:List Nat} {l:List (Nat×V)},dnE T (mI u l)=mI u (dnE T l)
  | [],l=>rfl
  | t::T,l=>by
    show dnE T (mI t (mI u l))=mI u (dnE T (mI t l))
    rw [bMq,bIp]
theorem bIt {T:List Nat}:∀ {U:List Nat} {l:List (Nat×V)},dnE T (dnE U l)=dnE U (dnE T l)
  | [],l=>rfl
  | u::U,l=>by
    show dnE T (dnE U (mI u l))=dnE U (mI u (dnE T l))
    rw [bIt (U:=U),bIp]
theorem bSy {t u:Nat} (l:List V):tV t (tV u l)=tV u (tV t l):=by
  rw [aHl,aHl,aHl,aHl,QD,QD]
  exact QK fun v _=>aYh
theorem bJn {t u:Nat}:∀ {l:List (Nat×List V)},kT t (kT u l)=kT u (kT t l)
  | []=>rfl
  | (n,v)::l=>by simp only [kT,bJn (l:=l),bSy v]
theorem bH4 {u:Nat}:∀ {T:List Nat} {l:List (Nat×List V)},dnB T (kT u l)=kT u (dnB T l)
  | [],l=>rfl
  | t::T,l=>by
    show dnB T (kT t (kT u l))=kT u (dnB T (kT t l))
    rw [bJn,bH4]
theorem bF3 {T:List Nat}:∀ {U:List Nat} {l:List (Nat×List V)},dnB T (dnB U l)=dnB U (dnB T l)
  | [],l=>rfl
  | u::U,l=>by
    show dnB T (dnB U (kT u l))=dnB U (kT u (dnB T l))
    rw [bF3 (U:=U),bH4]
structure Apart (a b:Ev):Prop where
  d:∀ x,a.d=some x→b.d≠some x
  rt:∀ p∈b.rt,a.d≠some p.1
  rb:∀ p∈b.rb,named a.wr p.1=false∧named a.nw p.1=false
  wr:∀ p∈b.wr,named a.wr p.1=false∧named a.nw p.1=false
  tt:∀ t∈a.T,(∀ p∈b.rt,a.tt.contains p.1=false)∧(∀ p∈b.rb,a.tb.contains p.1=false)
  tok:∀ t∈a.T,b.r.noTok t=true∧(∀ p∈b.wr,V.noToks t p.2=true)∧∀ p∈b.nw,V.noToks t p.2=true
def apart (a b:Ev):Bool :=
  (match a.d with | some x=>b.d != some x | none=>true)&&((b.rt.all fun p=>a.d != some p.1)&&((b.rb.all fun p=>!named a.wr p.1&&!named a.nw p.1)&&((b.wr.all fun p=>!named a.wr p.1&&!named a.nw p.1) &&
  ((a.T.all fun _=>(b.rt.all fun p=>!a.tt.contains p.1)&&b.rb.all fun p=>!a.tb.contains p.1) &&
  (a.T.all fun t=>b.r.noTok t&&((b.wr.all fun p=>V.noToks t p.2)&&b.nw.all fun p=>V.noToks t p.2))))))
theorem bJ2 {a b:Ev} (h:apart a b=true):Apart a b:=by
  simp only [apart,QB,QC,Bool.not_eq_true',bne_iff_ne,ne_eq] at h
  obtain ⟨h1,h2,h3,h4,h5,h7⟩:=h
  refine ⟨fun x hx=>?_,h2,h3,h4,h5,h7⟩
  rw [hx] at h1; simpa using h1
structure yF (e b:Ev):Prop where
  fr:∀ x∈b.fr,(e.r.noPtr x=true∧(dnV b.T e.r).noTok x=true)∧(∀ p∈e.wr,V.noPtrs x p.2=true∧V.noToks x (dnVs b.T p.2)=true)∧∀ p∈e.nw,V.noPtrs x p.2=true∧V.noToks x p.2=true
  cl:∀ t∈b.T,(dnV b.T e.r).noTok t=true∧(∀ p∈e.wr,V.noToks t (dnVs b.T p.2)=true)∧∀ p∈e.nw,V.noToks t p.2=true
  tt:∀ t∈b.T,∀ x,e.d=some x→b.tt.contains x=true∨e.r.noTok t=true
  tb:∀ t∈b.T,∀ p∈e.wr,b.tb.contains p.1=true∨V.noToks t p.2=true
def aN6 (e b:Ev):Bool :=
  (b.fr.all fun x=>(e.r.noPtr x&&(dnV b.T e.r).noTok x)&&((e.wr.all fun p=>V.noPtrs x p.2&&V.noToks x (dnVs b.T p.2))&&e.nw.all fun p=>V.noPtrs x p.2&&V.noToks x p.2)) &&
  ((b.T.all fun t=>(dnV b.T e.r).noTok t&&((e.wr.all fun p=>V.noToks t (dnVs b.T p.2))&&e.nw.all fun p=>V.noToks t p.2)) &&
  ((b.T.all fun t=>match e.d with | some x=>b.tt.contains x||e.r.noTok t | none=>true)&&b.T.all fun t=>e.wr.all fun p=>b.tb.contains p.1||V.noToks t p.2))
theorem bMu {e b:Ev} (h:aN6 e b=true):yF e b:=by
  simp only [aN6,QB,QC] at h
  obtain ⟨h1,h2,h3,h4⟩:=h
  refine ⟨h1,h2,fun t ht x hx=>?_,fun t ht p hp=>by simpa using h4 t ht p hp⟩
  have:=h3 t ht
  rw [hx] at this
  simpa using this
theorem bG2:∀ (l:List (Nat×V)) (n:Nat),lk l n=.top∨(n,lk l n)∈l
  | [],n=>.inl rfl
  | (m,v)::l,n=>by
    simp only [lk]
    split
    · rename_i e; subst e; exact .inr (by simp)
    · rcases bG2 l n with h | h
      · exact .inl h
      · exact .inr (by simp [h])
theorem bB1:∀ {l:List (Nat×List V)} {n:Nat} {c:List V},bget l n=some c→(n,c)∈l
  | [],n,c,h=>by simp [bget] at h
  | (m,v)::l,n,c,h=>by
    simp only [bget] at h
    split at h
    · rename_i e; subst e; simp at h; subst h; simp
    · simp [bB1 h]
theorem bBv {p:V→Bool}:∀ {l:List (Nat×V)},I5 p l=true↔∀ e∈l,p e.2=true
  | []=>by simp [I5]
  | (m,v)::l=>by simp [I5,bBv (l:=l)]
theorem bCv {p:V→Bool}:∀ {l:List (Nat×List V)},xW p l=true↔∀ e∈l,e.2.all p=true
  | []=>by simp [xW]
  | (m,v)::l=>by simp [xW,bCv (l:=l)]
theorem bK9 {n:Nat} {c:List V} {q:Nat×List V}:∀ {l:List (Nat×List V)},q∈fC l n c→q∈l∨q=(n,c)
  | [],h=>by simp [fC] at h
  | (m,v)::l,h=>by
    simp only [fC] at h
    split at h
    · rename_i e
      subst e
      rcases QG.1 h with rfl | h
      · exact .inr rfl
      · exact .inl (by simp [h])
    · rcases QG.1 h with rfl | h
      · exact .inl (by simp)
      · rcases bK9 h with h | h
        · exact .inl (by simp [h])
        · exact .inr h
theorem bMp {q:Nat×List V}:∀ {wr l:List (Nat×List V)},q∈gG l wr→q∈l∨q∈wr
  | [],l,h=>.inl h
  | p::wr,l,h=>by
    rw [wG] at h
    rcases bMp h with h | h
    · rcases bK9 h with h | h
      · exact .inl h
      · exact .inr (by simp [h])
    · exact .inr (by simp [h])
theorem bDm {e:Ev} {s:St} {p:Nat×V} (h:p∈(eff e s).env):(e.d=some p.1∧p.2=e.r)∨∃ q∈s.env,p=(q.1,dnV e.T q.2):=by
  have h':p∈dnE e.T s.env→∃ q∈s.env,p=(q.1,dnV e.T q.2):=aCa e.T |>.1
  simp only [eff,D6] at h
  split at h
  · rename_i d hd
    rcases QG.1 h with rfl | h
    · exact .inl ⟨hd,rfl⟩
    · exact .inr (h' h)
  · exact .inr (h' h)
theorem bCo {e:Ev} {s:St} {p:Nat×List V} (h:p∈(eff e s).bx):p∈e.nw∨p∈e.wr∨∃ q∈s.bx,p=(q.1,dnVs e.T q.2):=by
  rcases List.mem_append.1 h with h | h
  · exact .inl h
  · rcases bMp h with h | h
    · exact .inr (.inr ((aI7 e.T).1 h))
    · exact .inr (.inl h)
theorem aX3 {T:List Nat} {n:Nat} {l:List V} (h:V.noToks n l=true):V.noToks n (dnVs T l)=true:=by
  rw [D8,QC] at h
  rw [aEm,D8,QC]
  intro v hv
  obtain ⟨u,hu,rfl⟩:=List.mem_map.1 hv
  exact aNq (h u hu)
theorem aLl {T:List Nat} {n:Nat} {l:List V}:V.noPtrs n (dnVs T l)=V.noPtrs n l:=by
  rw [aEm,aPq,aPq,QH]
  congr 1
  funext v
  exact aG3
theorem aVk {T U:List Nat} {t:Nat} {v:V} (h:(dnV T v).noTok t=true):(dnV T (dnV U v)).noTok t=true:=by rw [bCx]; exact aNq h
theorem bL0 {T U:List Nat} {t:Nat} {l:List V} (h:V.noToks t (dnVs T l)=true):V.noToks t (dnVs T (dnVs U l))=true:=by
  rw [aEm,D8,QH,QC] at h
  rw [aEm,aEm,D8,QH,QH,QC]
  exact fun v hv=>aVk (h v hv)
theorem Gl.step {e b:Ev} {s:St} (h:Gl b s) (hp:yF e b):Gl b (eff e s):=by
  have fr1:∀ d (l:List (Nat×V)) ,I5 (fun v=>v.noPtr d&&v.noTok d) l=true↔∀ p∈l,p.2.noPtr d=true∧p.2.noTok d=true:=fun d l=>by
    rw [bBv]; simp
  have fr2:∀ d (l:List (Nat×List V)) ,xW (fun v=>v.noPtr d&&v.noTok d) l=true↔∀ p∈l,V.noPtrs d p.2=true∧V.noToks d p.2=true:=fun d l=>by
    rw [bCv]
    refine forall_congr' fun p=>forall_congr' fun _=>?_
    rw [aPq,D8]
    simp only [QC,QB]
    exact ⟨fun h=>⟨fun v hv=>(h v hv).1,fun v hv=>(h v hv).2⟩,fun h v hv=>⟨h.1 v hv,h.2 v hv⟩⟩
  have cl2:∀ t (l:List (Nat×List V)) ,xW (V.noTok t) l=true↔∀ p∈l,V.noToks t p.2=true:=fun t l=>by
    rw [bCv]
    refine forall_congr' fun p=>forall_congr' fun _=>?_
    rw [D8]
  refine ⟨fun d hd=>?_,fun t ht=>?_,fun t ht p hp' hn=>?_,fun t ht p hp' hn=>?_⟩
  · have h0:=h.fr d hd
    obtain ⟨⟨k1,k2⟩,k3,k4⟩:=hp.fr d hd
    simp only [St.fresh,St.dnT,QB,fr1,fr2] at h0 ⊢
    refine ⟨fun p hp=>?_,fun p hp=>?_⟩
    · obtain ⟨q,hq,rfl⟩:=(aCa b.T).1 hp
      rcases bDm hq with ⟨_,e2⟩ | ⟨q',hq',rfl⟩
      · rw [e2]; exact ⟨aG3.trans k1,k2⟩
      · have:=h0.1 _ ((aCa b.T).2 ⟨q',hq',rfl⟩)
        exact ⟨by rw [aG3,aG3]; simpa [aG3] using this.1,aVk this.2⟩
    · obtain ⟨q,hq,rfl⟩:=(aI7 b.T).1 hp
      rcases bCo hq with hw | hw | ⟨q',hq',rfl⟩
      · exact ⟨aLl.trans (k4 q hw).1,aX3 (k4 q hw).2⟩
      · exact ⟨aLl.trans (k3 q hw).1,(k3 q hw).2⟩
      · have:=h0.2 _ ((aI7 b.T).2 ⟨q',hq',rfl⟩)
        exact ⟨by rw [aLl,aLl]; simpa [aLl] using this.1,bL0 this.2⟩
  · have h0:=h.cl t ht
    obtain ⟨k1,k2,k3⟩:=hp.cl t ht
    simp only [St.clean,St.dnT,QB,bBv,cl2] at h0 ⊢
    refine ⟨fun p hp=>?_,fun p hp=>?_⟩
    · obtain ⟨q,hq,rfl⟩:=(aCa b.T).1 hp
      rcases bDm hq with ⟨_,e2⟩ | ⟨q',hq',rfl⟩
      · rw [e2]; exact k1
      · exact aVk (h0.1 _ ((aCa b.T).2 ⟨q',hq',rfl⟩))
    · obtain ⟨q,hq,rfl⟩:=(aI7 b.T).1 hp
      rcases bCo hq with hw | hw | ⟨q',hq',rfl⟩
      · exact aX3 (k3 q hw)
      · exact k2 q hw
      · exact bL0 (h0.2 _ ((aI7 b.T).2 ⟨q',hq',rfl⟩))
  · rcases bDm hp' with ⟨e1,e2⟩ | ⟨q',hq',rfl⟩
    · rcases hp.tt t ht p.1 e1 with h1 | h1
      · rw [h1] at hn; simp at hn
      · rw [e2]; exact h1
    · exact aNq (h.tt t ht q' hq' hn)
  · rcases bCo hp' with hw | hw | ⟨q',hq',rfl⟩
    · exact (hp.cl t ht).2.2 p hw
    · rcases hp.tb t ht p hw with h1 | h1
      · rw [h1] at hn; simp at hn
      · exact h1
    · exact aX3 (h.tb t ht q' hq' hn)
theorem G6 {e:Ev} {s:St} {n:Nat} (h:e.d≠some n):lk (eff e s).env n=dnV e.T (lk s.env n):=by
  simp only [eff,D6]
  split
  · rename_i d hd
    rw [hd] at h
    simp only [lk]
    rw [if_neg (fun e=>h (by rw [e]))]
    exact aE3 _ _ _
  · exact aE3 _ _ _
theorem bGm:∀ {l m:List (Nat×List V)} {n:Nat},named l n=false→bget (l++m) n=bget m n
  | [],_,_,_=>rfl
  | (k,c)::l,m,n,h=>by
    simp only [named,QF,QE,beq_eq_false_iff_ne,ne_eq] at h
    simp only [QI,Go.Ab.bget,if_neg (fun e:n=k=>h.1 e.symm)]
    exact bGm h.2
theorem bK5 {e:Ev} {s:St} {n:Nat} (h:named e.nw n=false) (hw:named e.wr n=false):bget (eff e s).bx n=(bget s.bx n).map (dnVs e.T):=by
  show bget (e.nw++gG (dnB e.T s.bx) e.wr) n=_
  rw [bGm h,bLj hw]; exact aBx _ _ _
theorem Apart.lk {a b:Ev} {s:St} (h:Apart a b) (hg:Gl a s) {p:Nat×V} (hp:p∈b.rt):Go.Ab.lk (eff a s).env p.1=Go.Ab.lk s.env p.1:=by
  rw [G6 (h.rt p hp)]
  refine aHg fun t ht=>?_
  rcases bG2 s.env p.1 with e | e
  · rw [e]; rfl
  · exact hg.tt t ht _ e ((h.tt t ht).1 p hp)
theorem Apart.bget {a b:Ev} {s:St} (h:Apart a b) (hg:Gl a s) {p:Nat×List V} (hp:p∈b.rb):Go.Ab.bget (eff a s).bx p.1=Go.Ab.bget s.bx p.1:=by
  rw [bK5 (h.rb p hp).2 (h.rb p hp).1]
  cases hb:Go.Ab.bget s.bx p.1 with
  | none=>rfl
  | some c =>
    rw [Option.map_some,aPo fun t ht=>hg.tb t ht _ (bB1 hb) ((h.tt t ht).2 p hp)]
theorem Apart.rd {a b:Ev} {s:St} (h:Apart a b) (hg:Gl a s):Rd b (eff a s)↔Rd b s:=by
  have hw:∀ p∈b.wr,(Go.Ab.bget (eff a s).bx p.1).isSome=(Go.Ab.bget s.bx p.1).isSome:=fun p hp=>by
    rw [bK5 (h.wr p hp).2 (h.wr p hp).1]; simp
  constructor
  · exact fun k=>⟨fun p hp=>(h.lk hg hp).symm.trans (k.rt p hp),fun p hp=>(h.bget hg hp).symm.trans (k.rb p hp),fun p hp=>(hw p hp).symm.trans (k.wr p hp)⟩
  · exact fun k=>⟨fun p hp=>(h.lk hg hp).trans (k.rt p hp),fun p hp=>(h.bget hg hp).trans (k.rb p hp),fun p hp=>(hw p hp).trans (k.wr p hp)⟩
theorem Rd.eqv {e:Ev} {s s':St} (h:Eqv s s') (k:Rd e s):Rd e s':=⟨fun p hp=>(h.lk p.1).symm.trans (k.rt p hp),fun p hp=>(h.bx p.1).symm.trans (k.rb p hp),fun p hp=>by rw [← h.bx]; exact k.wr p hp⟩
theorem aDj:∀ {l m:List (Nat×List V)} {n:Nat},bget (l++m) n=match bget l n with
    | some c=>some c
    | none=>bget m n
  | [],_,_=>rfl
  | (a,c)::l,m,n=>by
    simp only [QI,bget]
    split
    · rfl
    · exact aDj
theorem bN9:∀ {wr l l':List (Nat×List V)},(∀ n,bget l n=bget l' n)→∀ n,bget (gG l wr) n=bget (gG l' wr) n
  | [],_,_,h,n=>h n
  | p::wr,l,l',h,n=>by
    rw [wG,wG]
    exact bN9 (fun m=>by rw [aKf,aKf,h,h]) n
theorem bAc:∀ {l:List (Nat×List V)} {n:Nat} {c:List V},bget l n=some c→∃ p∈l,p.1=n
  | (a,d)::l,n,c,h=>by
    simp only [bget] at h
    split at h
    · rename_i e; exact ⟨(a,d),by simp,e.symm⟩
    · obtain ⟨p,hp,e⟩:=bAc h; exact ⟨p,by simp [hp],e⟩
theorem bEi {e:Ev} {s s':St} (h:Eqv s s'):Eqv (eff e s) (eff e s'):=by
  refine ⟨fun n=>?_,fun p=>?_,fun n=>by
    simp only [eff]
    rw [aDj,aDj,bN9 (l:=dnB e.T s.bx) (l':=dnB e.T s'.bx) (fun m=>by rw [aBx,aBx,h.bx]) n]⟩
  · by_cases hd:e.d=some n
    · simp [eff,D6,hd,Go.Ab.lk]
    · rw [G6 hd,G6 hd,h.lk]
  · have hm:p∈dnE e.T s.env↔p∈dnE e.T s'.env:=by
      rw [aCa,aCa]
      exact ⟨fun ⟨q,hq,e⟩=>⟨q,(h.env q).1 hq,e⟩,fun ⟨q,hq,e⟩=>⟨q,(h.env q).2 hq,e⟩⟩
    cases hd:e.d <;> simp [eff,D6,hd,hm]
theorem bE5 {n:Nat} {c:List V}:∀ {l m:List (Nat×List V)},named l n=false→fC (l++m) n c=l++fC m n c
  | [],_,_=>rfl
  | (k,d)::l,m,h=>by
    simp only [named,QF,QE,beq_eq_false_iff_ne,ne_eq] at h
    simp only [QI,fC,if_neg (fun e:n=k=>h.1 e.symm)]
    rw [bE5 h.2]
theorem bDr:∀ {wr l m:List (Nat×List V)},(∀ p∈wr,named l p.1=false)→gG (l++m) wr=l++gG m wr
  | [],_,_,_=>rfl
  | p::wr,l,m,h=>by rw [wG,wG,bE5 (h p (by simp)),bDr fun q hq=>h q (by simp [hq])]
theorem bD7:∀ {T:List Nat},dnB T []=[]
  | []=>rfl
  | _::T=>bD7 (T:=T)
theorem aZt {T:List Nat}:∀ {l m:List (Nat×List V)},dnB T (l++m)=dnB T l++dnB T m
  | [],m=>by rw [bD7]; rfl
  | (k,d)::l,m=>by rw [QI,bAr,bAr,aZt]; rfl
theorem aWz {T:List Nat}:∀ {l:List (Nat×List V)},(∀ p∈l,∀ t∈T,V.noToks t p.2=true)→dnB T l=l
  | [],_=>bD7
  | (k,d)::l,h=>by rw [bAr,aPo fun t ht=>h (k,d) (by simp) t ht,aWz fun p hp=>h p (by simp [hp])]
theorem cIh {a b:Ev} (h:Apart a b) (k:Apart b a) (hn:∀ p∈a.nw,named b.nw p.1=false) (s:St):Eqv (eff b (eff a s)) (eff a (eff b s)):=by
  have ra:dnV b.T a.r=a.r:=aHg fun t ht=>(k.tok t ht).1
  have rb:dnV a.T b.r=b.r:=aHg fun t ht=>(h.tok t ht).1
  have wa:∀ p∈a.wr,dnVs b.T p.2=p.2:=fun p hp=>aPo fun t ht=>(k.tok t ht).2.1 p hp
  have wb:∀ p∈b.wr,dnVs a.T p.2=p.2:=fun p hp=>aPo fun t ht=>(h.tok t ht).2.1 p hp
  refine ⟨fun n=>?_,fun p=>?_,?_⟩
  · by_cases ha:a.d=some n
    · have hb:b.d≠some n:=h.d n ha
      rw [G6 hb]
      simp only [eff,D6,ha,Go.Ab.lk,if_true,ra]
    · by_cases hb:b.d=some n
      · rw [G6 ha]
        simp only [eff,D6,hb,Go.Ab.lk,if_true,rb]
      · rw [G6 hb,G6 ha,G6 ha,G6 hb,bCx]
  · cases ha:a.d <;> cases hb:b.d <;> simp only [eff,D6,ha,hb,bVu,ra,rb,QG,bIt (T:=a.T) (U:=b.T)]
    exact ⟨fun h=>by rcases h with h | h | h <;> simp [h],fun h=>by rcases h with h | h | h <;> simp [h]⟩
  · have hwa:∀ p∈a.wr,named b.wr p.1=false:=fun p hp=>(k.wr p hp).1
    have core:gG (dnB b.T (gG (dnB a.T s.bx) a.wr)) b.wr=gG (dnB a.T (gG (dnB b.T s.bx) b.wr)) a.wr:=by
      rw [bC5 wa,bC5 wb,bF3,bMa hwa]
    have e1:(eff b (eff a s)).bx=b.nw++(a.nw++gG (dnB a.T (gG (dnB b.T s.bx) b.wr)) a.wr):=by
      show b.nw++gG (dnB b.T (a.nw++gG (dnB a.T s.bx) a.wr)) b.wr=_
      rw [aZt,aWz (T:=b.T) fun p hp t ht=>(k.tok t ht).2.2 p hp,bDr fun p hp=>(h.wr p hp).2,core]
    have e2:(eff a (eff b s)).bx=a.nw++(b.nw++gG (dnB a.T (gG (dnB b.T s.bx) b.wr)) a.wr):=by
      show a.nw++gG (dnB a.T (b.nw++gG (dnB b.T s.bx) b.wr)) a.wr=_
      rw [aZt,aWz (T:=a.T) fun p hp t ht=>(h.tok t ht).2.2 p hp,bDr fun p hp=>(k.wr p hp).2]
    intro n
    rw [e1,e2,aDj,aDj,aDj (l:=a.nw),aDj (l:=b.nw)]
    cases ha:bget a.nw n with
    | none=>rfl
    | some c =>
      cases hb:bget b.nw n with
      | none=>rfl
      | some d =>
        exfalso
        obtain ⟨p,hp,e⟩:=bAc ha
        obtain ⟨q,hq,e'⟩:=bAc hb
        have:=hn p hp
        simp only [named,List.any_eq_false,beq_iff_eq] at this
        exact this q hq (by rw [e,e'])
def Seq:List Ev→St→Prop
  | [],_=>True
  | e::l,s=>Rd e s∧Seq l (eff e s)
def fin:List Ev→St→St
  | [],s=>s
  | e::l,s=>fin l (eff e s)
theorem Seq.eqv:∀ {l:List Ev} {s s':St},Eqv s s'→Seq l s→Seq l s'
  | [],_,_,_,_=>trivial
  | _::_,_,_,h,k=>⟨k.1.eqv h,k.2.eqv (bEi h)⟩
theorem bI3:∀ {l:List Ev} {s s':St},Eqv s s'→Eqv (fin l s) (fin l s')
  | [],_,_,h=>h
  | _::l,_,_,h=>bI3 (l:=l) (bEi h)
def Comm (a b:Ev):Prop:=Apart a b∧Apart b a∧∀ p∈a.nw,named b.nw p.1=false
theorem Seq.front:∀ {l1 l2:List Ev} {e:Ev} {s:St},Seq (l1++e::l2) s→(∀ f∈l1,Comm f e)→Gl e s→(∀ f∈l1,Gl f s)→(∀ f∈l1,yF f e)→l1.Pairwise yF →
    Rd e s∧Seq (l1++l2) (eff e s)∧Eqv (fin (l1++e::l2) s) (fin (l1++l2) (eff e s)):=by
  intro l1
  induction l1 with
  | nil=>exact fun h _ _ _ _ _=>⟨h.1,h.2,Eqv.refl _⟩
  | cons f l1 ih =>
    intro l2 e s h hc hg hgs hp hpw
    obtain ⟨c1,c2,c3⟩:=hc f (by simp)
    rw [List.pairwise_cons] at hpw
    obtain ⟨r1,r2,r3⟩:=ih (l2:=l2) (e:=e) h.2 (fun g hg=>hc g (by simp [hg])) (hg.step (hp f (by simp))) (fun g hg'=>(hgs g (by simp [hg'])).step (hpw.1 g hg')) (fun g hg'=>hp g (by simp [hg'])) hpw.2
    have hf:=hgs f (by simp)
    have e1:Rd e s:=(c1.rd hf).1 r1
    have sw:=cIh c1 c2 c3 s
    exact ⟨e1,⟨(c2.rd hg).2 h.1,r2.eqv sw⟩,r3.trans (bI3 sw)⟩
end Go.Ab
