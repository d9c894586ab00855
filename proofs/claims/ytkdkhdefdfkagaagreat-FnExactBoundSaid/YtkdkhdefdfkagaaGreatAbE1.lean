/- Operations in an open order: what an operation reads and changes; when two may be exchanged. -/
import Derived.Test.YtkdkhdefdfkagaaGreatAb5
namespace Go.Ab
open Go Go.RowKit
structure Ev where
  o:AOp
  d:Option Nat:=none
  r:V:=.und
  rt:List (Nat×V):=[]
  rb:List (Nat×List V):=[]
  T:List Nat:=[]
  tt:List Nat:=[]
  tb:List Nat:=[]
  wr:List (Nat×List V):=[]
  nw:Option (List V):=none
  fr:Bool:=false
def dnE (T:List Nat) (l:List (Nat×V)):List (Nat×V):=T.foldl (fun l t=>mW t l) l
def dnB (T:List Nat) (l:List (Nat×List V)):List (Nat×List V):=T.foldl (fun l t=>kW t l) l
def kJ (l:List (Nat×List V)) (wr:List (Nat×List V)):List (Nat×List V):=wr.foldl (fun l p=>jH l p.1 p.2) l
def St.dnT (s:St) (T:List Nat):St:=⟨dnE T s.env,dnB T s.bx⟩
def vC (d:Option Nat) (r:V) (l:List (Nat×V)):List (Nat×V) :=
  match d with
  | some d=>(d,r)::l
  | none=>l
def rD (d:Option Nat) (c:Option (List V)) (l:List (Nat×List V)):List (Nat×List V) :=
  match d,c with
  | some d,some c=>(d,c)::l
  | _,_=>l
def eff (e:Ev) (s:St):St:=⟨vC e.d e.r (dnE e.T s.env),rD e.d e.nw (kJ (dnB e.T s.bx) e.wr)⟩
structure Rd (e:Ev) (s:St):Prop where
  rt:∀ p ∈ e.rt,lk s.env p.1=p.2
  rb:∀ p ∈ e.rb,bget s.bx p.1=some p.2
  wr:∀ p ∈ e.wr,(bget s.bx p.1).isSome=true
structure Gl (e:Ev) (s:St):Prop where
  fr:e.fr=true→∀ d,e.d=some d→(s.dnT e.T).fresh d=true
  cl:∀ t ∈ e.T,(s.dnT e.T).clean t=true
  tt:∀ t ∈ e.T,∀ p ∈ s.env,e.tt.contains p.1=false→p.2.noTok t=true
  tb:∀ t ∈ e.T,∀ p ∈ s.bx,e.tb.contains p.1=false→V.noToks t p.2=true
structure Eqv (s s':St):Prop where
  lk:∀ n,lk s.env n=lk s'.env n
  env:∀ p,p ∈ s.env↔p ∈ s'.env
  bx:s.bx=s'.bx
theorem Eqv.refl (s:St):Eqv s s:=⟨fun _=>rfl,fun _=>.rfl,rfl⟩
theorem Eqv.symm {s s':St} (h:Eqv s s'):Eqv s' s:=⟨fun n=>(h.lk n).symm,fun p=>(h.env p).symm,h.bx.symm⟩
theorem Eqv.trans {a b c:St} (h:Eqv a b) (k:Eqv b c):Eqv a c:=⟨fun n=>(h.lk n).trans (k.lk n),fun p=>(h.env p).trans (k.env p),h.bx.trans k.bx⟩
theorem bBw {t:Nat} {l:List (Nat×V)} {p:Nat×V}:p ∈ mW t l↔∃ q ∈ l,p=(q.1,q.2.dn t):=by
  induction l with
  | nil=>simp [mW]
  | cons q l ih=>obtain ⟨m,v⟩:=q; simp [mW,ih]
theorem bAm {t:Nat} {l:List (Nat×List V)} {p:Nat×List V}:p ∈ kW t l↔∃ q ∈ l,p=(q.1,qL t q.2):=by
  induction l with
  | nil=>simp [kW]
  | cons q l ih=>obtain ⟨m,v⟩:=q; simp [kW,ih]
def dnV (T:List Nat) (v:V):V:=T.foldl (fun v t=>v.dn t) v
def dnVs (T:List Nat) (l:List V):List V:=T.foldl (fun l t=>qL t l) l
theorem aGi (T:List Nat):∀ (l:List (Nat×V)) (n:Nat),lk (dnE T l) n=dnV T (lk l n):=by
  induction T with
  | nil=>intro l n; rfl
  | cons t T ih=>intro l n; simp only [dnE,List.foldl_cons] at ih ⊢; rw [ih,aJt]; rfl
theorem H8 (T:List Nat):∀ {l:List (Nat×V)} {p:Nat×V},p ∈ dnE T l↔∃ q ∈ l,p=(q.1,dnV T q.2):=by
  induction T with
  | nil=>intro l p; simp [dnE,dnV]
  | cons t T ih =>
    intro l p
    simp only [dnE,List.foldl_cons,dnV] at ih ⊢
    rw [ih]
    constructor
    · rintro ⟨q,hq,rfl⟩
      obtain ⟨q',hq',rfl⟩:=bBw.1 hq
      exact ⟨q',hq',rfl⟩
    · rintro ⟨q,hq,rfl⟩
      exact ⟨_,bBw.2 ⟨q,hq,rfl⟩,rfl⟩
theorem aLk (T:List Nat):∀ (l:List (Nat×List V)) (n:Nat),bget (dnB T l) n=(bget l n).map (dnVs T):=by
  induction T with
  | nil=>intro l n; cases h:bget l n <;> simp [dnB,dnVs,h]
  | cons t T ih=>intro l n; simp only [dnB,List.foldl_cons] at ih ⊢; rw [ih,aHn]; cases bget l n <;> rfl
theorem aG1 (T:List Nat):∀ {l:List (Nat×List V)} {p:Nat×List V},p ∈ dnB T l↔∃ q ∈ l,p=(q.1,dnVs T q.2):=by
  induction T with
  | nil=>intro l p; simp [dnB,dnVs]
  | cons t T ih =>
    intro l p
    simp only [dnB,List.foldl_cons,dnVs] at ih ⊢
    rw [ih]
    constructor
    · rintro ⟨q,hq,rfl⟩
      obtain ⟨q',hq',rfl⟩:=bAm.1 hq
      exact ⟨q',hq',rfl⟩
    · rintro ⟨q,hq,rfl⟩
      exact ⟨_,bAm.2 ⟨q,hq,rfl⟩,rfl⟩
theorem bAy {t:Nat} {v:V} (h:v.noTok t=true):v.dn1 t=v:=by
  cases v <;> first | rfl | skip
  case osl t' e sz l =>
    simp only [V.noTok,bne_iff_ne,ne_eq] at h
    simp [V.dn1,h]
theorem aRf {t:Nat}:∀ {l:List V},V.noToks t l=true→l.map (V.dn1 t)=l
  | [],_=>rfl
  | v::l,h=>by
    simp only [V.noToks,Bool.and_eq_true] at h
    rw [List.map_cons,bAy h.1,aRf h.2]
theorem bAk {t:Nat} {v:V} (h:v.noTok t=true):v.dn0 t=v:=by
  cases v with
  | tup l=>exact congrArg V.tup (aRf (by simpa [V.noTok] using h))
  | agv l=>exact congrArg V.agv (aRf (by simpa [V.noTok] using h))
  | osl w e sz l=>exact bAy (v:=.osl w e sz l) h
  | _=>rfl
theorem bGb {t:Nat} {v:V} (h:v.noTok t=true):v.dn t=v:=by
  cases v <;> first | exact bAk h | exact congrArg _ (bAk (by simpa [V.noTok] using h))
theorem aIe:∀ {T:List Nat} {v:V},(∀ t ∈ T,v.noTok t=true)→dnV T v=v
  | [],v,_=>rfl
  | t::T,v,h=>by
    simp only [dnV,List.foldl_cons,bGb (h t (by simp))]
    exact aIe fun u hu=>h u (by simp [hu])
theorem aIj (t:Nat) (l:List V):qL t l=l.map (V.dn t):=by
  induction l with
  | nil=>rfl
  | cons v l ih=>simp [qL,ih]
theorem aC2 (T:List Nat):∀ l:List V,dnVs T l=l.map (dnV T):=by
  induction T with
  | nil=>intro l; exact (List.map_id l).symm
  | cons t T ih=>intro l; simp only [dnVs,List.foldl_cons] at ih ⊢; rw [ih,aIj,List.map_map]; rfl
theorem aEx {T:List Nat} {l:List V} (h:∀ t ∈ T,V.noToks t l=true):dnVs T l=l:=by
  rw [aC2]
  have:∀ v ∈ l,dnV T v=v:=fun v hv=>aIe fun t ht=>by
    have:=h t ht
    rw [vV,List.all_eq_true] at this
    exact this v hv
  exact (List.map_congr_left this).trans (by simp)
theorem aZ0 {t n:Nat} {v:V}:(v.dn1 t).noPtr n=v.noPtr n:=by
  cases v <;> first | rfl | skip
  simp only [V.dn1]; split <;> rfl
theorem aXt {t n:Nat}:∀ {l:List V},V.noPtrs n (l.map (V.dn1 t))=V.noPtrs n l
  | []=>rfl
  | v::l=>by simp only [List.map_cons,V.noPtrs,aZ0,aXt (l:=l)]
theorem bD2 {t n:Nat} {v:V}:(v.dn0 t).noPtr n=v.noPtr n:=by
  cases v with
  | tup l=>simp only [V.dn0,V.noPtr]; exact aXt
  | agv l=>simp only [V.dn0,V.noPtr]; exact aXt
  | osl w e sz l=>exact aZ0 (v:=.osl w e sz l)
  | _=>rfl
theorem bTf {t n:Nat} {v:V}:(v.dn t).noPtr n=v.noPtr n:=by
  cases v <;> first | exact bD2 | (simp only [V.dn,V.noPtr]; exact bD2)
theorem bDv {t n:Nat} {v:V} (h:v.noTok n=true):(v.dn1 t).noTok n=true:=by
  cases v <;> first | exact h | skip
  simp only [V.dn1]; split
  · rfl
  · exact h
theorem aRs {t n:Nat}:∀ {l:List V},V.noToks n l=true→V.noToks n (l.map (V.dn1 t))=true
  | [],_=>rfl
  | v::l,h=>by
    simp only [V.noToks,Bool.and_eq_true] at h
    simp only [List.map_cons,V.noToks,Bool.and_eq_true]
    exact ⟨bDv h.1,aRs h.2⟩
theorem bCx {t n:Nat} {v:V} (h:v.noTok n=true):(v.dn0 t).noTok n=true:=by
  cases v with
  | tup l=>simp only [V.dn0,V.noTok] at h ⊢; exact aRs h
  | agv l=>simp only [V.dn0,V.noTok] at h ⊢; exact aRs h
  | osl w e sz l=>exact bDv (v:=.osl w e sz l) h
  | _=>exact h
theorem bY9 {t n:Nat} {v:V} (h:v.noTok n=true):(v.dn t).noTok n=true:=by
  cases v <;> first | exact bCx (t:=t) h | (rename_i c v; exact bCx (t:=t) (v:=v) h)
theorem P8 {n:Nat}:∀ {T:List Nat} {v:V},(dnV T v).noPtr n=v.noPtr n
  | [],v=>rfl
  | t::T,v=>by simp only [dnV,List.foldl_cons]; exact (P8 (T:=T)).trans bTf
theorem aJj {n:Nat}:∀ {T:List Nat} {v:V},v.noTok n=true→(dnV T v).noTok n=true
  | [],v,h=>h
  | t::T,v,h=>by simp only [dnV,List.foldl_cons]; exact aJj (T:=T) (bY9 h)
theorem bD0 {t u:Nat} {v:V}:(v.dn1 t).dn1 u=(v.dn1 u).dn1 t:=by
  cases v <;> first | rfl | skip
  case osl w e sz l =>
    simp only [V.dn1]
    by_cases h1:w=t <;> by_cases h2:w=u <;> simp [h1,h2]
    all_goals first | (subst h1; simp_all) | (subst h2; simp_all) | skip
theorem bCd {t u:Nat} {l:List V}:(l.map (V.dn1 t)).map (V.dn1 u)=(l.map (V.dn1 u)).map (V.dn1 t):=by
  rw [List.map_map,List.map_map]
  exact List.map_congr_left fun v _=>bD0
theorem bWh {t w:Nat} {e:TypeId} {sz:Nat} {l:List (List D)}:(V.osl w e sz l).dn1 t=.d (.sl sz l)∨(V.osl w e sz l).dn1 t=.osl w e sz l:=by
  simp only [V.dn1]; split
  · exact .inl rfl
  · exact .inr rfl
theorem bEl {t u:Nat} {v:V}:(v.dn0 t).dn0 u=(v.dn0 u).dn0 t:=by
  cases v with
  | tup l=>exact congrArg V.tup bCd
  | agv l=>exact congrArg V.agv bCd
  | osl w e sz l =>
    have h:=bD0 (t:=t) (u:=u) (v:=.osl w e sz l)
    show ((V.osl w e sz l).dn1 t).dn0 u=((V.osl w e sz l).dn1 u).dn0 t
    have k:∀ (t u:Nat),((V.osl w e sz l).dn1 t).dn0 u=((V.osl w e sz l).dn1 t).dn1 u:=by
      intro t u
      rcases bWh (t:=t) (w:=w) (e:=e) (sz:=sz) (l:=l) with h | h <;> rw [h] <;> rfl
    rw [k,k,h]
  | _=>rfl
theorem aQ2 {t u:Nat} {v:V}:(v.dn t).dn u=(v.dn u).dn t:=by
  have plain:∀ v:V,(∀ c x,v≠.ite c x)→∀ t,v.dn t=v.dn0 t∧∀ c x,v.dn0 t≠.ite c x:=by
    intro v hv t
    cases v
    case osl=>exact ⟨rfl,fun c x h=>by simp only [V.dn0,V.dn1] at h; split at h <;> simp at h⟩
    case ite c x=>exact absurd rfl (hv c x)
    all_goals exact ⟨rfl,fun c x h=>by simp [V.dn0,V.dn1] at h⟩
  by_cases hv:∃ c x,v=.ite c x
  · obtain ⟨c,x,rfl⟩:=hv
    simp only [V.dn,bEl (t:=t) (u:=u)]
  · have hv':∀ c x,v≠.ite c x:=fun c x e=>hv ⟨c,x,e⟩
    rw [(plain v hv' t).1,(plain v hv' u).1,(plain _ (plain v hv' t).2 u).1,(plain _ (plain v hv' u).2 t).1,bEl]
theorem bEc {u:Nat}:∀ {T:List Nat} {v:V},dnV T (v.dn u)=(dnV T v).dn u
  | [],v=>rfl
  | t::T,v=>by simp only [dnV,List.foldl_cons]; rw [aQ2]; exact bEc (T:=T)
theorem aSf {T:List Nat}:∀ {U:List Nat} {v:V},dnV T (dnV U v)=dnV U (dnV T v)
  | [],v=>rfl
  | u::U,v=>by
    have h1:dnV (u::U) v=dnV U (v.dn u):=rfl
    have h2:dnV (u::U) (dnV T v)=dnV U ((dnV T v).dn u):=rfl
    rw [h1,h2,aSf (U:=U),bEc]
def named (l:List (Nat×List V)) (n:Nat):Bool:=l.any fun p=>p.1==n
theorem bA8 (l:List (Nat×List V)) (n:Nat) (c:List V) (k:Nat):bget (jH l n c) k=if k=n then (bget l n).map (fun _=>c) else bget l k:=aVm l n c k
theorem bDm:∀ {wr l:List (Nat×List V)} {k:Nat},named wr k=false→bget (kJ l wr) k=bget l k
  | [],l,k,_=>rfl
  | p::wr,l,k,h=>by
    simp only [named,List.any_cons,Bool.or_eq_false_iff,beq_eq_false_iff_ne] at h
    simp only [kJ,List.foldl_cons]
    have:=bDm (wr:=wr) (l:=jH l p.1 p.2) (k:=k) h.2
    simp only [kJ] at this
    rw [this,bA8,if_neg (fun e=>h.1 e.symm)]
theorem bFw {n m:Nat} {c c':List V} (h:n≠m):∀ l:List (Nat×List V),jH (jH l n c) m c'=jH (jH l m c') n c
  | []=>rfl
  | (k,v)::l=>by
    by_cases h1:n=k <;> by_cases h2:m=k <;> simp [jH,h1,h2]
    · omega
    · exact bFw h l
theorem uH (p:Nat×List V) (wr l:List (Nat×List V)):kJ l (p::wr)=kJ (jH l p.1 p.2) wr:=rfl
theorem bDe {n:Nat} {c:List V}:∀ {wr l:List (Nat×List V)},named wr n=false→kJ (jH l n c) wr=jH (kJ l wr) n c
  | [],l,_=>rfl
  | p::wr,l,h=>by
    simp only [named,List.any_cons,Bool.or_eq_false_iff,beq_eq_false_iff_ne] at h
    rw [uH,uH,bFw (fun e=>h.1 e.symm),bDe h.2]
theorem bAl:∀ {wr wr' l:List (Nat×List V)},(∀ p ∈ wr,named wr' p.1=false)→kJ (kJ l wr) wr'=kJ (kJ l wr') wr
  | [],wr',l,_=>rfl
  | p::wr,wr',l,h=>by
    rw [uH,uH,bAl (fun q hq=>h q (by simp [hq])),bDe (h p (by simp))]
theorem aS7 {d:Nat} {c:List V}:∀ {wr l:List (Nat×List V)},named wr d=false→kJ ((d,c)::l) wr=(d,c)::kJ l wr
  | [],l,_=>rfl
  | p::wr,l,h=>by
    simp only [named,List.any_cons,Bool.or_eq_false_iff,beq_eq_false_iff_ne] at h
    rw [uH,uH,show jH ((d,c)::l) p.1 p.2=(d,c)::jH l p.1 p.2 by simp [jH,h.1],aS7 h.2]
theorem aZs {t n:Nat} {c:List V}:∀ {l:List (Nat×List V)},kW t (jH l n c)=jH (kW t l) n (qL t c)
  | []=>rfl
  | (k,v)::l=>by
    by_cases h1:n=k <;> simp [jH,kW,h1]
    exact aZs
theorem bCb {n:Nat}:∀ {T:List Nat} {c:List V} {l:List (Nat×List V)},dnB T (jH l n c)=jH (dnB T l) n (dnVs T c)
  | [],c,l=>rfl
  | t::T,c,l=>by
    show dnB T (kW t (jH l n c))=_
    rw [aZs,bCb]; rfl
theorem aV9 {T:List Nat}:∀ {wr l:List (Nat×List V)},(∀ p ∈ wr,dnVs T p.2=p.2)→dnB T (kJ l wr)=kJ (dnB T l) wr
  | [],l,_=>rfl
  | p::wr,l,h=>by rw [uH,uH,aV9 (fun q hq=>h q (by simp [hq])),bCb,h p (by simp)]
theorem bCe {T:List Nat} {d:Nat} {c:List V} {l:List (Nat×List V)}:dnB T ((d,c)::l)=(d,dnVs T c)::dnB T l:=by
  induction T generalizing c l with
  | nil=>rfl
  | cons t T ih=>exact ih
theorem bM6 {T:List Nat} {d:Nat} {v:V} {l:List (Nat×V)}:dnE T ((d,v)::l)=(d,dnV T v)::dnE T l:=by
  induction T generalizing v l with
  | nil=>rfl
  | cons t T ih=>exact ih
theorem bC2 {t u:Nat}:∀ {l:List (Nat×V)},mW t (mW u l)=mW u (mW t l)
  | []=>rfl
  | (n,v)::l=>by simp only [mW,bC2 (l:=l),aQ2 (v:=v)]
theorem aZ9 {u:Nat}:∀ {T:List Nat} {l:List (Nat×V)},dnE T (mW u l)=mW u (dnE T l)
  | [],l=>rfl
  | t::T,l=>by
    show dnE T (mW t (mW u l))=mW u (dnE T (mW t l))
    rw [bC2,aZ9]
theorem bC4 {T:List Nat}:∀ {U:List Nat} {l:List (Nat×V)},dnE T (dnE U l)=dnE U (dnE T l)
  | [],l=>rfl
  | u::U,l=>by
    show dnE T (dnE U (mW u l))=dnE U (mW u (dnE T l))
    rw [bC4 (U:=U),aZ9]
theorem bG6 {t u:Nat} (l:List V):qL t (qL u l)=qL u (qL t l):=by
  rw [aIj,aIj,aIj,aIj,List.map_map,List.map_map]
  exact List.map_congr_left fun v _=>aQ2
theorem aZx {t u:Nat}:∀ {l:List (Nat×List V)},kW t (kW u l)=kW u (kW t l)
  | []=>rfl
  | (n,v)::l=>by simp only [kW,aZx (l:=l),bG6 v]
theorem bBj {u:Nat}:∀ {T:List Nat} {l:List (Nat×List V)},dnB T (kW u l)=kW u (dnB T l)
  | [],l=>rfl
  | t::T,l=>by
    show dnB T (kW t (kW u l))=kW u (dnB T (kW t l))
    rw [aZx,bBj]
theorem bB8 {T:List Nat}:∀ {U:List Nat} {l:List (Nat×List V)},dnB T (dnB U l)=dnB U (dnB T l)
  | [],l=>rfl
  | u::U,l=>by
    show dnB T (dnB U (kW u l))=dnB U (kW u (dnB T l))
    rw [bB8 (U:=U),bBj]
structure Apart (a b:Ev):Prop where
  d:∀ x,a.d=some x→b.d≠some x
  rt:∀ p ∈ b.rt,a.d≠some p.1
  rb:∀ p ∈ b.rb,named a.wr p.1=false∧a.d≠some p.1
  wr:∀ p ∈ b.wr,named a.wr p.1=false∧a.d≠some p.1
  tt:∀ t ∈ a.T,(∀ p ∈ b.rt,a.tt.contains p.1=false)∧(∀ p ∈ b.rb,a.tb.contains p.1=false)
  tok:∀ t ∈ a.T,b.r.noTok t=true∧(∀ p ∈ b.wr,V.noToks t p.2=true)∧V.noToks t (b.nw.getD [])=true
def apart (a b:Ev):Bool :=
  (match a.d with | some x=>b.d != some x | none=>true)&&((b.rt.all fun p=>a.d != some p.1)&&((b.rb.all fun p=>!named a.wr p.1&&a.d != some p.1)&&((b.wr.all fun p=>!named a.wr p.1&&a.d != some p.1) &&
  ((a.T.all fun _=>(b.rt.all fun p=>!a.tt.contains p.1)&&b.rb.all fun p=>!a.tb.contains p.1) &&
  (a.T.all fun t=>b.r.noTok t&&((b.wr.all fun p=>V.noToks t p.2)&&V.noToks t (b.nw.getD [])))))))
theorem bBh {a b:Ev} (h:apart a b=true):Apart a b:=by
  simp only [apart,Bool.and_eq_true,List.all_eq_true,Bool.not_eq_true',bne_iff_ne,ne_eq] at h
  obtain ⟨h1,h2,h3,h4,h5,h7⟩:=h
  refine ⟨fun x hx=>?_,h2,h3,h4,h5,h7⟩
  rw [hx] at h1; simpa using h1
structure uA (e b:Ev):Prop where
  fr:b.fr=true→∀ x,b.d=some x→(e.r.noPtr x=true∧(dnV b.T e.r).noTok x=true)∧(∀ p ∈ e.wr,V.noPtrs x p.2=true∧V.noToks x (dnVs b.T p.2)=true)∧V.noPtrs x (e.nw.getD [])=true∧V.noToks x (e.nw.getD [])=true
  cl:∀ t ∈ b.T,(dnV b.T e.r).noTok t=true∧(∀ p ∈ e.wr,V.noToks t (dnVs b.T p.2)=true)∧V.noToks t (e.nw.getD [])=true
  tt:∀ t ∈ b.T,∀ x,e.d=some x→b.tt.contains x=true∨e.r.noTok t=true
  tb:∀ t ∈ b.T,∀ p ∈ e.wr,b.tb.contains p.1=true∨V.noToks t p.2=true
def aL9 (e b:Ev):Bool :=
  (match b.d with | some x=>!b.fr||(e.r.noPtr x&&(dnV b.T e.r).noTok x&&((e.wr.all fun p=>V.noPtrs x p.2&&V.noToks x (dnVs b.T p.2))&&(V.noPtrs x (e.nw.getD [])&&V.noToks x (e.nw.getD [])))) | none=>true) &&
  ((b.T.all fun t=>(dnV b.T e.r).noTok t&&((e.wr.all fun p=>V.noToks t (dnVs b.T p.2))&&V.noToks t (e.nw.getD []))) &&
  ((b.T.all fun t=>match e.d with | some x=>b.tt.contains x||e.r.noTok t | none=>true)&&b.T.all fun t=>e.wr.all fun p=>b.tb.contains p.1||V.noToks t p.2))
theorem bC3 {e b:Ev} (h:aL9 e b=true):uA e b:=by
  simp only [aL9,Bool.and_eq_true,List.all_eq_true] at h
  obtain ⟨h1,h2,h3,h4⟩:=h
  refine ⟨fun hf x hx=>?_,h2,fun t ht x hx=>?_,fun t ht p hp=>by simpa using h4 t ht p hp⟩
  · rw [hx] at h1
    simp only [hf,Bool.not_true,Bool.false_or,List.all_eq_true,Bool.and_eq_true] at h1
    exact ⟨h1.1,h1.2.1,h1.2.2.1,h1.2.2.2⟩
  · have:=h3 t ht
    rw [hx] at this
    simpa using this
theorem bEh:∀ (l:List (Nat×V)) (n:Nat),lk l n=.top∨(n,lk l n) ∈ l
  | [],n=>.inl rfl
  | (m,v)::l,n=>by
    simp only [lk]
    split
    · rename_i e; subst e; exact .inr (by simp)
    · rcases bEh l n with h | h
      · exact .inl h
      · exact .inr (by simp [h])
theorem aTg:∀ {l:List (Nat×List V)} {n:Nat} {c:List V},bget l n=some c→(n,c) ∈ l
  | [],n,c,h=>by simp [bget] at h
  | (m,v)::l,n,c,h=>by
    simp only [bget] at h
    split at h
    · rename_i e; subst e; simp at h; subst h; simp
    · simp [aTg h]
theorem aX4 {p:V→Bool}:∀ {l:List (Nat×V)},vT p l=true↔∀ e ∈ l,p e.2=true
  | []=>by simp [vT]
  | (m,v)::l=>by simp [vT,aX4 (l:=l)]
theorem aQr {p:V→Bool}:∀ {l:List (Nat×List V)},uM p l=true↔∀ e ∈ l,e.2.all p=true
  | []=>by simp [uM]
  | (m,v)::l=>by simp [uM,aQr (l:=l)]
theorem bDy {n:Nat} {c:List V} {q:Nat×List V}:∀ {l:List (Nat×List V)},q ∈ jH l n c→q ∈ l∨q=(n,c)
  | [],h=>by simp [jH] at h
  | (m,v)::l,h=>by
    simp only [jH] at h
    split at h
    · rename_i e
      subst e
      rcases List.mem_cons.1 h with rfl | h
      · exact .inr rfl
      · exact .inl (by simp [h])
    · rcases List.mem_cons.1 h with rfl | h
      · exact .inl (by simp)
      · rcases bDy h with h | h
        · exact .inl (by simp [h])
        · exact .inr h
theorem bD8 {q:Nat×List V}:∀ {wr l:List (Nat×List V)},q ∈ kJ l wr→q ∈ l∨q ∈ wr
  | [],l,h=>.inl h
  | p::wr,l,h=>by
    rw [uH] at h
    rcases bD8 h with h | h
    · rcases bDy h with h | h
      · exact .inl h
      · exact .inr (by simp [h])
    · exact .inr (by simp [h])
theorem aTl {e:Ev} {s:St} {p:Nat×V} (h:p ∈ (eff e s).env):(e.d=some p.1∧p.2=e.r)∨∃ q ∈ s.env,p=(q.1,dnV e.T q.2):=by
  have h':p ∈ dnE e.T s.env→∃ q ∈ s.env,p=(q.1,dnV e.T q.2):=H8 e.T |>.1
  simp only [eff,vC] at h
  split at h
  · rename_i d hd
    rcases List.mem_cons.1 h with rfl | h
    · exact .inl ⟨hd,rfl⟩
    · exact .inr (h' h)
  · exact .inr (h' h)
theorem aR6 {e:Ev} {s:St} {p:Nat×List V} (h:p ∈ (eff e s).bx):(e.d=some p.1∧p.2=e.nw.getD [])∨p ∈ e.wr∨∃ q ∈ s.bx,p=(q.1,dnVs e.T q.2):=by
  have h':p ∈ kJ (dnB e.T s.bx) e.wr→p ∈ e.wr∨∃ q ∈ s.bx,p=(q.1,dnVs e.T q.2):=fun h=>by
    rcases bD8 h with h | h
    · exact .inr ((aG1 e.T).1 h)
    · exact .inl h
  simp only [eff,rD] at h
  split at h
  · rename_i d c hd hc
    rcases List.mem_cons.1 h with rfl | h
    · exact .inl ⟨hd,by rw [hc]; rfl⟩
    · exact .inr (h' h)
  · exact .inr (h' h)
theorem aQw {T:List Nat} {n:Nat} {l:List V} (h:V.noToks n l=true):V.noToks n (dnVs T l)=true:=by
  rw [vV,List.all_eq_true] at h
  rw [aC2,vV,List.all_eq_true]
  intro v hv
  obtain ⟨u,hu,rfl⟩:=List.mem_map.1 hv
  exact aJj (h u hu)
theorem aH0 {T:List Nat} {n:Nat} {l:List V}:V.noPtrs n (dnVs T l)=V.noPtrs n l:=by
  rw [aC2,aKc,aKc,List.all_map]
  congr 1
  funext v
  exact P8
theorem aNe {T U:List Nat} {t:Nat} {v:V} (h:(dnV T v).noTok t=true):(dnV T (dnV U v)).noTok t=true:=by rw [aSf]; exact aJj h
theorem bCq {T U:List Nat} {t:Nat} {l:List V} (h:V.noToks t (dnVs T l)=true):V.noToks t (dnVs T (dnVs U l))=true:=by
  rw [aC2,vV,List.all_map,List.all_eq_true] at h
  rw [aC2,aC2,vV,List.all_map,List.all_map,List.all_eq_true]
  exact fun v hv=>aNe (h v hv)
theorem Gl.step {e b:Ev} {s:St} (h:Gl b s) (hp:uA e b):Gl b (eff e s):=by
  have fr1:∀ d (l:List (Nat×V)) ,vT (fun v=>v.noPtr d&&v.noTok d) l=true↔∀ p ∈ l,p.2.noPtr d=true∧p.2.noTok d=true:=fun d l=>by
    rw [aX4]; simp
  have fr2:∀ d (l:List (Nat×List V)) ,uM (fun v=>v.noPtr d&&v.noTok d) l=true↔∀ p ∈ l,V.noPtrs d p.2=true∧V.noToks d p.2=true:=fun d l=>by
    rw [aQr]
    refine forall_congr' fun p=>forall_congr' fun _=>?_
    rw [aKc,vV]
    simp only [List.all_eq_true,Bool.and_eq_true]
    exact ⟨fun h=>⟨fun v hv=>(h v hv).1,fun v hv=>(h v hv).2⟩,fun h v hv=>⟨h.1 v hv,h.2 v hv⟩⟩
  have cl2:∀ t (l:List (Nat×List V)) ,uM (V.noTok t) l=true↔∀ p ∈ l,V.noToks t p.2=true:=fun t l=>by
    rw [aQr]
    refine forall_congr' fun p=>forall_congr' fun _=>?_
    rw [vV]
  refine ⟨fun hf d hd=>?_,fun t ht=>?_,fun t ht p hp' hn=>?_,fun t ht p hp' hn=>?_⟩
  · have h0:=h.fr hf d hd
    obtain ⟨⟨k1,k2⟩,k3,k4,k5⟩:=hp.fr hf d hd
    simp only [St.fresh,St.dnT,Bool.and_eq_true,fr1,fr2] at h0 ⊢
    refine ⟨fun p hp=>?_,fun p hp=>?_⟩
    · obtain ⟨q,hq,rfl⟩:=(H8 b.T).1 hp
      rcases aTl hq with ⟨_,e2⟩ | ⟨q',hq',rfl⟩
      · rw [e2]; exact ⟨P8.trans k1,k2⟩
      · have:=h0.1 _ ((H8 b.T).2 ⟨q',hq',rfl⟩)
        exact ⟨by rw [P8,P8]; simpa [P8] using this.1,aNe this.2⟩
    · obtain ⟨q,hq,rfl⟩:=(aG1 b.T).1 hp
      rcases aR6 hq with ⟨_,e2⟩ | hw | ⟨q',hq',rfl⟩
      · rw [e2]; exact ⟨aH0.trans k4,aQw k5⟩
      · exact ⟨aH0.trans (k3 q hw).1,(k3 q hw).2⟩
      · have:=h0.2 _ ((aG1 b.T).2 ⟨q',hq',rfl⟩)
        exact ⟨by rw [aH0,aH0]; simpa [aH0] using this.1,bCq this.2⟩
  · have h0:=h.cl t ht
    obtain ⟨k1,k2,k3⟩:=hp.cl t ht
    simp only [St.clean,St.dnT,Bool.and_eq_true,aX4,cl2] at h0 ⊢
    refine ⟨fun p hp=>?_,fun p hp=>?_⟩
    · obtain ⟨q,hq,rfl⟩:=(H8 b.T).1 hp
      rcases aTl hq with ⟨_,e2⟩ | ⟨q',hq',rfl⟩
      · rw [e2]; exact k1
      · exact aNe (h0.1 _ ((H8 b.T).2 ⟨q',hq',rfl⟩))
    · obtain ⟨q,hq,rfl⟩:=(aG1 b.T).1 hp
      rcases aR6 hq with ⟨_,e2⟩ | hw | ⟨q',hq',rfl⟩
      · rw [e2]; exact aQw k3
      · exact k2 q hw
      · exact bCq (h0.2 _ ((aG1 b.T).2 ⟨q',hq',rfl⟩))
  · rcases aTl hp' with ⟨e1,e2⟩ | ⟨q',hq',rfl⟩
    · rcases hp.tt t ht p.1 e1 with h1 | h1
      · rw [h1] at hn; simp at hn
      · rw [e2]; exact h1
    · exact aJj (h.tt t ht q' hq' hn)
  · rcases aR6 hp' with ⟨_,e2⟩ | hw | ⟨q',hq',rfl⟩
    · rw [e2]; exact (hp.cl t ht).2.2
    · rcases hp.tb t ht p hw with h1 | h1
      · rw [h1] at hn; simp at hn
      · exact h1
    · exact aQw (h.tb t ht q' hq' hn)
theorem uU {e:Ev} {s:St} {n:Nat} (h:e.d≠some n):lk (eff e s).env n=dnV e.T (lk s.env n):=by
  simp only [eff,vC]
  split
  · rename_i d hd
    rw [hd] at h
    simp only [lk]
    rw [if_neg (fun e=>h (by rw [e]))]
    exact aGi _ _ _
  · exact aGi _ _ _
theorem bA7 {e:Ev} {s:St} {n:Nat} (h:e.d≠some n) (hw:named e.wr n=false):bget (eff e s).bx n=(bget s.bx n).map (dnVs e.T):=by
  have h':bget (kJ (dnB e.T s.bx) e.wr) n=(bget s.bx n).map (dnVs e.T):=by rw [bDm hw]; exact aLk _ _ _
  simp only [eff,rD]
  split
  · rename_i d c hd hc
    rw [hd] at h
    simp only [bget]
    rw [if_neg (fun e=>h (by rw [e]))]
    exact h'
  · exact h'
theorem Apart.lk {a b:Ev} {s:St} (h:Apart a b) (hg:Gl a s) {p:Nat×V} (hp:p ∈ b.rt):Go.Ab.lk (eff a s).env p.1=Go.Ab.lk s.env p.1:=by
  rw [uU (h.rt p hp)]
  refine aIe fun t ht=>?_
  rcases bEh s.env p.1 with e | e
  · rw [e]; rfl
  · exact hg.tt t ht _ e ((h.tt t ht).1 p hp)
theorem Apart.bget {a b:Ev} {s:St} (h:Apart a b) (hg:Gl a s) {p:Nat×List V} (hp:p ∈ b.rb):Go.Ab.bget (eff a s).bx p.1=Go.Ab.bget s.bx p.1:=by
  rw [bA7 (h.rb p hp).2 (h.rb p hp).1]
  cases hb:Go.Ab.bget s.bx p.1 with
  | none=>rfl
  | some c =>
    rw [Option.map_some,aEx fun t ht=>hg.tb t ht _ (aTg hb) ((h.tt t ht).2 p hp)]
theorem Apart.rd {a b:Ev} {s:St} (h:Apart a b) (hg:Gl a s):Rd b (eff a s)↔Rd b s:=by
  have hw:∀ p ∈ b.wr,(Go.Ab.bget (eff a s).bx p.1).isSome=(Go.Ab.bget s.bx p.1).isSome:=fun p hp=>by
    rw [bA7 (h.wr p hp).2 (h.wr p hp).1]; simp
  constructor
  · exact fun k=>⟨fun p hp=>(h.lk hg hp).symm.trans (k.rt p hp),fun p hp=>(h.bget hg hp).symm.trans (k.rb p hp),fun p hp=>(hw p hp).symm.trans (k.wr p hp)⟩
  · exact fun k=>⟨fun p hp=>(h.lk hg hp).trans (k.rt p hp),fun p hp=>(h.bget hg hp).trans (k.rb p hp),fun p hp=>(hw p hp).trans (k.wr p hp)⟩
theorem Rd.eqv {e:Ev} {s s':St} (h:Eqv s s') (k:Rd e s):Rd e s':=⟨fun p hp=>(h.lk p.1).symm.trans (k.rt p hp),fun p hp=>by rw [← h.bx]; exact k.rb p hp,fun p hp=>by rw [← h.bx]; exact k.wr p hp⟩
theorem bAu {e:Ev} {s s':St} (h:Eqv s s'):Eqv (eff e s) (eff e s'):=by
  refine ⟨fun n=>?_,fun p=>?_,by simp only [eff,h.bx]⟩
  · by_cases hd:e.d=some n
    · simp [eff,vC,hd,Go.Ab.lk]
    · rw [uU hd,uU hd,h.lk]
  · have hm : p ∈ dnE e.T s.env ↔ p ∈ dnE e.T s'.env := by
      rw [H8,H8]
      exact ⟨fun ⟨q,hq,e⟩=>⟨q,(h.env q).1 hq,e⟩,fun ⟨q,hq,e⟩=>⟨q,(h.env q).2 hq,e⟩⟩
    cases hd:e.d <;> simp [eff,vC,hd,hm]
theorem bWf {a b:Ev} (h:Apart a b) (k:Apart b a) (hn:a.nw=none∨b.nw=none) (s:St):Eqv (eff b (eff a s)) (eff a (eff b s)):=by
  have ra:dnV b.T a.r=a.r:=aIe fun t ht=>(k.tok t ht).1
  have rb:dnV a.T b.r=b.r:=aIe fun t ht=>(h.tok t ht).1
  have wa:∀ p ∈ a.wr,dnVs b.T p.2=p.2:=fun p hp=>aEx fun t ht=>(k.tok t ht).2.1 p hp
  have wb:∀ p ∈ b.wr,dnVs a.T p.2=p.2:=fun p hp=>aEx fun t ht=>(h.tok t ht).2.1 p hp
  refine ⟨fun n=>?_,fun p=>?_,?_⟩
  · by_cases ha:a.d=some n
    · have hb:b.d≠some n:=h.d n ha
      rw [uU hb]
      simp only [eff,vC,ha,Go.Ab.lk,if_true,ra]
    · by_cases hb:b.d=some n
      · rw [uU ha]
        simp only [eff,vC,hb,Go.Ab.lk,if_true,rb]
      · rw [uU hb,uU ha,uU ha,uU hb,aSf]
  · cases ha:a.d <;> cases hb:b.d <;> simp only [eff,vC,ha,hb,bM6,ra,rb,List.mem_cons,bC4 (T:=a.T) (U:=b.T)]
    exact ⟨fun h=>by rcases h with h | h | h <;> simp [h],fun h=>by rcases h with h | h | h <;> simp [h]⟩
  · have hwa:∀ p ∈ a.wr,named b.wr p.1=false:=fun p hp=>(k.wr p hp).1
    have hda:∀ d,a.d=some d→named b.wr d=false:=fun d hd=>by
      cases hx:named b.wr d with
      | false=>rfl
      | true =>
        simp only [named,List.any_eq_true,beq_iff_eq] at hx
        obtain ⟨p,hp,rfl⟩:=hx
        exact absurd hd (h.wr p hp).2
    have hdb:∀ d,b.d=some d→named a.wr d=false:=fun d hd=>by
      cases hx:named a.wr d with
      | false=>rfl
      | true =>
        simp only [named,List.any_eq_true,beq_iff_eq] at hx
        obtain ⟨p,hp,rfl⟩:=hx
        exact absurd hd (k.wr p hp).2
    have core:kJ (dnB b.T (kJ (dnB a.T s.bx) a.wr)) b.wr=kJ (dnB a.T (kJ (dnB b.T s.bx) b.wr)) a.wr:=by
      rw [aV9 wa,aV9 wb,bB8,bAl hwa]
    rcases hn with hn | hn
    · have e1:∀ l,rD a.d a.nw l=l:=fun l=>by rw [hn]; cases a.d <;> rfl
      simp only [eff,e1]
      rw [core]
      cases hb:b.d with
      | none=>simp only [rD]
      | some d =>
        cases hc:b.nw with
        | none=>simp only [rD]
        | some c =>
          simp only [rD]
          rw [bCe,aS7 (hdb d hb),aEx fun t ht=>by have:=(h.tok t ht).2.2; rw [hc] at this; exact this]
    · have e1:∀ l,rD b.d b.nw l=l:=fun l=>by rw [hn]; cases b.d <;> rfl
      simp only [eff,e1]
      rw [← core]
      cases ha:a.d with
      | none=>simp only [rD]
      | some d =>
        cases hc:a.nw with
        | none=>simp only [rD]
        | some c =>
          simp only [rD]
          rw [bCe,aS7 (hda d ha),aEx fun t ht=>by have:=(k.tok t ht).2.2; rw [hc] at this; exact this]
def Seq:List Ev→St→Prop
  | [],_=>True
  | e::l,s=>Rd e s∧Seq l (eff e s)
def fin:List Ev→St→St
  | [],s=>s
  | e::l,s=>fin l (eff e s)
theorem Seq.eqv:∀ {l:List Ev} {s s':St},Eqv s s'→Seq l s→Seq l s'
  | [],_,_,_,_=>trivial
  | _::_,_,_,h,k=>⟨k.1.eqv h,k.2.eqv (bAu h)⟩
theorem aZd:∀ {l:List Ev} {s s':St},Eqv s s'→Eqv (fin l s) (fin l s')
  | [],_,_,h=>h
  | _::l,_,_,h=>aZd (l:=l) (bAu h)
def Comm (a b:Ev):Prop:=Apart a b∧Apart b a∧(a.nw=none∨b.nw=none)
theorem Seq.front : ∀ {l1 l2 : List Ev} {e : Ev} {s : St}, Seq (l1 ++ e :: l2) s → (∀ f ∈ l1, Comm f e) → Gl e s → (∀ f ∈ l1, Gl f s) → (∀ f ∈ l1, uA f e) → l1.Pairwise uA →
    Rd e s∧Seq (l1++l2) (eff e s)∧Eqv (fin (l1++e::l2) s) (fin (l1++l2) (eff e s)):=by
  intro l1
  induction l1 with
  | nil=>exact fun h _ _ _ _ _=>⟨h.1,h.2,Eqv.refl _⟩
  | cons f l1 ih =>
    intro l2 e s h hc hg hgs hp hpw
    obtain ⟨c1,c2,c3⟩:=hc f (by simp)
    rw [List.pairwise_cons] at hpw
    obtain ⟨r1,r2,r3⟩:=ih (l2:=l2) (e:=e) h.2 (fun g hg=>hc g (by simp [hg])) (hg.step (hp f (by simp))) (fun g hg'=>(hgs g (by simp [hg'])).step (hpw.1 g hg')) (fun g hg'=>hp g (by simp [hg'])) hpw.2
    have hf:=hgs f (by simp)
    have e1:Rd e s:=(c1.rd hf).1 r1
    have sw:=bWf c1 c2 c3 s
    exact ⟨e1,⟨(c2.rd hg).2 h.1,r2.eqv sw⟩,r3.trans (aZd sw)⟩
end Go.Ab
