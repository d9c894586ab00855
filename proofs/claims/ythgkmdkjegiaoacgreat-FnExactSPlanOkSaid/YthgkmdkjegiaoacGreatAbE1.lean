/- Operations in an open order: what an operation reads and changes; when two may be exchanged. -/
import Derived.Test.YthgkmdkjegiaoacGreatAb5
namespace Go.Ab
open Go Go.RowKit
structure Ev where
  o:AOp
  d:Option Nat:=none
  r:V:=.und
  rt:List (Nat×V):=[]
  rb:List (Nat×List V):=[]
  T:List Nat:=[]
  tt:List Nat:=[]
  tb:List Nat:=[]
  wr:List (Nat×List V):=[]
  nw:List (Nat×List V):=[]
  fr:List Nat:=[]
def dnE (T:List Nat) (l:List (Nat×V)):List (Nat×V):=T.foldl (fun l t=>gQ t l) l
def dnB (T:List Nat) (l:List (Nat×List V)):List (Nat×List V):=T.foldl (fun l t=>fJ t l) l
def eD (l:List (Nat×List V)) (wr:List (Nat×List V)):List (Nat×List V):=wr.foldl (fun l p=>dV l p.1 p.2) l
def St.dnT (s:St) (T:List Nat):St:=⟨dnE T s.env,dnB T s.bx⟩
def qR (d:Option Nat) (r:V) (l:List (Nat×V)):List (Nat×V) :=
  match d with
  | some d=>(d,r)::l
  | none=>l
def eff (e:Ev) (s:St):St:=⟨qR e.d e.r (dnE e.T s.env),e.nw++eD (dnB e.T s.bx) e.wr⟩
structure Rd (e:Ev) (s:St):Prop where
  rt:∀ p ∈ e.rt,lk s.env p.1=p.2
  rb:∀ p ∈ e.rb,bget s.bx p.1=some p.2
  wr:∀ p ∈ e.wr,(bget s.bx p.1).isSome=true
structure Gl (e:Ev) (s:St):Prop where
  fr:∀ d ∈ e.fr,(s.dnT e.T).fresh d=true
  cl:∀ t ∈ e.T,(s.dnT e.T).clean t=true
  tt:∀ t ∈ e.T,∀ p ∈ s.env,e.tt.contains p.1=false→p.2.noTok t=true
  tb:∀ t ∈ e.T,∀ p ∈ s.bx,e.tb.contains p.1=false→V.noToks t p.2=true
structure Eqv (s s':St):Prop where
  lk:∀ n,lk s.env n=lk s'.env n
  env:∀ p,p ∈ s.env↔p ∈ s'.env
  bx:∀ n,bget s.bx n=bget s'.bx n
theorem Eqv.refl (s:St):Eqv s s:=⟨fun _=>rfl,fun _=>.rfl,fun _=>rfl⟩
theorem Eqv.symm {s s':St} (h:Eqv s s'):Eqv s' s:=⟨fun n=>(h.lk n).symm,fun p=>(h.env p).symm,fun n=>(h.bx n).symm⟩
theorem Eqv.trans {a b c:St} (h:Eqv a b) (k:Eqv b c):Eqv a c:=⟨fun n=>(h.lk n).trans (k.lk n),fun p=>(h.env p).trans (k.env p),fun n=>(h.bx n).trans (k.bx n)⟩
theorem aV4 {t:Nat} {l:List (Nat×V)} {p:Nat×V}:p ∈ gQ t l↔∃ q ∈ l,p=(q.1,q.2.dn t):=by
  induction l with
  | nil=>simp [gQ]
  | cons q l ih=>obtain ⟨m,v⟩:=q; simp [gQ,ih]
theorem aXi {t:Nat} {l:List (Nat×List V)} {p:Nat×List V}:p ∈ fJ t l↔∃ q ∈ l,p=(q.1,kM t q.2):=by
  induction l with
  | nil=>simp [fJ]
  | cons q l ih=>obtain ⟨m,v⟩:=q; simp [fJ,ih]
def dnV (T:List Nat) (v:V):V:=T.foldl (fun v t=>v.dn t) v
def dnVs (T:List Nat) (l:List V):List V:=T.foldl (fun l t=>kM t l) l
theorem V5 (T:List Nat):∀ (l:List (Nat×V)) (n:Nat),lk (dnE T l) n=dnV T (lk l n):=by
  induction T with
  | nil=>intro l n; rfl
  | cons t T ih=>intro l n; simp only [dnE,List.foldl_cons] at ih ⊢; rw [ih,aG7]; rfl
theorem vP (T:List Nat):∀ {l:List (Nat×V)} {p:Nat×V},p ∈ dnE T l↔∃ q ∈ l,p=(q.1,dnV T q.2):=by
  induction T with
  | nil=>intro l p; simp [dnE,dnV]
  | cons t T ih =>
    intro l p
    simp only [dnE,List.foldl_cons,dnV] at ih ⊢
    rw [ih]
    constructor
    · rintro ⟨q,hq,rfl⟩
      obtain ⟨q',hq',rfl⟩:=aV4.1 hq
      exact ⟨q',hq',rfl⟩
    · rintro ⟨q,hq,rfl⟩
      exact ⟨_,aV4.2 ⟨q,hq,rfl⟩,rfl⟩
theorem zG (T:List Nat):∀ (l:List (Nat×List V)) (n:Nat),bget (dnB T l) n=(bget l n).map (dnVs T):=by
  induction T with
  | nil=>intro l n; cases h:bget l n <;> simp [dnB,dnVs,h]
  | cons t T ih=>intro l n; simp only [dnB,List.foldl_cons] at ih ⊢; rw [ih,aDi]; cases bget l n <;> rfl
theorem T9 (T:List Nat):∀ {l:List (Nat×List V)} {p:Nat×List V},p ∈ dnB T l↔∃ q ∈ l,p=(q.1,dnVs T q.2):=by
  induction T with
  | nil=>intro l p; simp [dnB,dnVs]
  | cons t T ih =>
    intro l p
    simp only [dnB,List.foldl_cons,dnVs] at ih ⊢
    rw [ih]
    constructor
    · rintro ⟨q,hq,rfl⟩
      obtain ⟨q',hq',rfl⟩:=aXi.1 hq
      exact ⟨q',hq',rfl⟩
    · rintro ⟨q,hq,rfl⟩
      exact ⟨_,aXi.2 ⟨q,hq,rfl⟩,rfl⟩
theorem aVx {t:Nat} {v:V} (h:v.noTok t=true):v.dn1 t=v:=by
  cases v <;> first | rfl | skip
  case osl t' e sz l =>
    simp only [V.noTok,bne_iff_ne,ne_eq] at h
    simp [V.dn1,h]
theorem aO9 {t:Nat}:∀ {l:List V},V.noToks t l=true→l.map (V.dn1 t)=l
  | [],_=>rfl
  | v::l,h=>by
    simp only [V.noToks,Bool.and_eq_true] at h
    rw [List.map_cons,aVx h.1,aO9 h.2]
theorem aVs {t:Nat} {v:V} (h:v.noTok t=true):v.dn0 t=v:=by
  cases v with
  | tup l=>exact congrArg V.tup (aO9 (by simpa [V.noTok] using h))
  | agv l=>exact congrArg V.agv (aO9 (by simpa [V.noTok] using h))
  | osl w e sz l=>exact aVx (v:=.osl w e sz l) h
  | _=>rfl
theorem bOj {t:Nat} {v:V} (h:v.noTok t=true):v.dn t=v:=by
  cases v <;> first | exact aVs h | exact congrArg _ (aVs (by simpa [V.noTok] using h))
theorem aAg:∀ {T:List Nat} {v:V},(∀ t ∈ T,v.noTok t=true)→dnV T v=v
  | [],v,_=>rfl
  | t::T,v,h=>by
    simp only [dnV,List.foldl_cons,bOj (h t (by simp))]
    exact aAg fun u hu=>h u (by simp [hu])
theorem X5 (t:Nat) (l:List V):kM t l=l.map (V.dn t):=by
  induction l with
  | nil=>rfl
  | cons v l ih=>simp [kM,ih]
theorem H9 (T:List Nat):∀ l:List V,dnVs T l=l.map (dnV T):=by
  induction T with
  | nil=>intro l; exact (List.map_id l).symm
  | cons t T ih=>intro l; simp only [dnVs,List.foldl_cons] at ih ⊢; rw [ih,X5,List.map_map]; rfl
theorem aCw {T:List Nat} {l:List V} (h:∀ t ∈ T,V.noToks t l=true):dnVs T l=l:=by
  rw [H9]
  have:∀ v ∈ l,dnV T v=v:=fun v hv=>aAg fun t ht=>by
    have:=h t ht
    rw [pW,List.all_eq_true] at this
    exact this v hv
  exact (List.map_congr_left this).trans (by simp)
theorem aRf {t n:Nat} {v:V}:(v.dn1 t).noPtr n=v.noPtr n:=by
  cases v <;> first | rfl | skip
  simp only [V.dn1]; split <;> rfl
theorem aI4 {t n:Nat}:∀ {l:List V},V.noPtrs n (l.map (V.dn1 t))=V.noPtrs n l
  | []=>rfl
  | v::l=>by simp only [List.map_cons,V.noPtrs,aRf,aI4 (l:=l)]
theorem bA7 {t n:Nat} {v:V}:(v.dn0 t).noPtr n=v.noPtr n:=by
  cases v with
  | tup l=>simp only [V.dn0,V.noPtr]; exact aI4
  | agv l=>simp only [V.dn0,V.noPtr]; exact aI4
  | osl w e sz l=>exact aRf (v:=.osl w e sz l)
  | _=>rfl
theorem bQa {t n:Nat} {v:V}:(v.dn t).noPtr n=v.noPtr n:=by
  cases v <;> first | exact bA7 | (simp only [V.dn,V.noPtr]; exact bA7)
theorem aR8 {t n:Nat} {v:V} (h:v.noTok n=true):(v.dn1 t).noTok n=true:=by
  cases v <;> first | exact h | skip
  simp only [V.dn1]; split
  · rfl
  · exact h
theorem aO0 {t n:Nat}:∀ {l:List V},V.noToks n l=true→V.noToks n (l.map (V.dn1 t))=true
  | [],_=>rfl
  | v::l,h=>by
    simp only [V.noToks,Bool.and_eq_true] at h
    simp only [List.map_cons,V.noToks,Bool.and_eq_true]
    exact ⟨aR8 h.1,aO0 h.2⟩
theorem aTw {t n:Nat} {v:V} (h:v.noTok n=true):(v.dn0 t).noTok n=true:=by
  cases v with
  | tup l=>simp only [V.dn0,V.noTok] at h ⊢; exact aO0 h
  | agv l=>simp only [V.dn0,V.noTok] at h ⊢; exact aO0 h
  | osl w e sz l=>exact aR8 (v:=.osl w e sz l) h
  | _=>exact h
theorem bUi {t n:Nat} {v:V} (h:v.noTok n=true):(v.dn t).noTok n=true:=by
  cases v <;> first | exact aTw (t:=t) h | (rename_i c v; exact aTw (t:=t) (v:=v) h)
theorem zY {n:Nat}:∀ {T:List Nat} {v:V},(dnV T v).noPtr n=v.noPtr n
  | [],v=>rfl
  | t::T,v=>by simp only [dnV,List.foldl_cons]; exact (zY (T:=T)).trans bQa
theorem aBi {n:Nat}:∀ {T:List Nat} {v:V},v.noTok n=true→(dnV T v).noTok n=true
  | [],v,h=>h
  | t::T,v,h=>by simp only [dnV,List.foldl_cons]; exact aBi (T:=T) (bUi h)
theorem aPa {t u:Nat} {v:V}:(v.dn1 t).dn1 u=(v.dn1 u).dn1 t:=by
  cases v <;> first | rfl | skip
  case osl w e sz l =>
    simp only [V.dn1]
    by_cases h1:w=t <;> by_cases h2:w=u <;> simp [h1,h2]
    all_goals first | (subst h1; simp_all) | (subst h2; simp_all) | skip
theorem aSy {t u:Nat} {l:List V}:(l.map (V.dn1 t)).map (V.dn1 u)=(l.map (V.dn1 u)).map (V.dn1 t):=by
  rw [List.map_map,List.map_map]
  exact List.map_congr_left fun v _=>aPa
theorem bHe {t w:Nat} {e:TypeId} {sz:Nat} {l:List (List D)}:(V.osl w e sz l).dn1 t=.d (.sl sz l)∨(V.osl w e sz l).dn1 t=.osl w e sz l:=by
  simp only [V.dn1]; split
  · exact .inl rfl
  · exact .inr rfl
theorem aT5 {t u:Nat} {v:V}:(v.dn0 t).dn0 u=(v.dn0 u).dn0 t:=by
  cases v with
  | tup l=>exact congrArg V.tup aSy
  | agv l=>exact congrArg V.agv aSy
  | osl w e sz l =>
    have h:=aPa (t:=t) (u:=u) (v:=.osl w e sz l)
    show ((V.osl w e sz l).dn1 t).dn0 u=((V.osl w e sz l).dn1 u).dn0 t
    have k:∀ (t u:Nat),((V.osl w e sz l).dn1 t).dn0 u=((V.osl w e sz l).dn1 t).dn1 u:=by
      intro t u
      rcases bHe (t:=t) (w:=w) (e:=e) (sz:=sz) (l:=l) with h | h <;> rw [h] <;> rfl
    rw [k,k,h]
  | _=>rfl
theorem aO5 {t u:Nat} {v:V}:(v.dn t).dn u=(v.dn u).dn t:=by
  have plain:∀ v:V,(∀ c x,v≠.ite c x)→∀ t,v.dn t=v.dn0 t∧∀ c x,v.dn0 t≠.ite c x:=by
    intro v hv t
    cases v
    case osl=>exact ⟨rfl,fun c x h=>by simp only [V.dn0,V.dn1] at h; split at h <;> simp at h⟩
    case ite c x=>exact absurd rfl (hv c x)
    all_goals exact ⟨rfl,fun c x h=>by simp [V.dn0,V.dn1] at h⟩
  by_cases hv:∃ c x,v=.ite c x
  · obtain ⟨c,x,rfl⟩:=hv
    simp only [V.dn,aT5 (t:=t) (u:=u)]
  · have hv':∀ c x,v≠.ite c x:=fun c x e=>hv ⟨c,x,e⟩
    rw [(plain v hv' t).1,(plain v hv' u).1,(plain _ (plain v hv' t).2 u).1,(plain _ (plain v hv' u).2 t).1,aT5]
theorem bAc {u:Nat}:∀ {T:List Nat} {v:V},dnV T (v.dn u)=(dnV T v).dn u
  | [],v=>rfl
  | t::T,v=>by simp only [dnV,List.foldl_cons]; rw [aO5]; exact bAc (T:=T)
theorem aMk {T:List Nat}:∀ {U:List Nat} {v:V},dnV T (dnV U v)=dnV U (dnV T v)
  | [],v=>rfl
  | u::U,v=>by
    have h1:dnV (u::U) v=dnV U (v.dn u):=rfl
    have h2:dnV (u::U) (dnV T v)=dnV U ((dnV T v).dn u):=rfl
    rw [h1,h2,aMk (U:=U),bAc]
def named (l:List (Nat×List V)) (n:Nat):Bool:=l.any fun p=>p.1==n
theorem V9 (l:List (Nat×List V)) (n:Nat) (c:List V) (k:Nat):bget (dV l n c) k=if k=n then (bget l n).map (fun _=>c) else bget l k:=lJ l n c k
theorem aTm:∀ {wr l:List (Nat×List V)} {k:Nat},named wr k=false→bget (eD l wr) k=bget l k
  | [],l,k,_=>rfl
  | p::wr,l,k,h=>by
    simp only [named,List.any_cons,Bool.or_eq_false_iff,beq_eq_false_iff_ne] at h
    simp only [eD,List.foldl_cons]
    have:=aTm (wr:=wr) (l:=dV l p.1 p.2) (k:=k) h.2
    simp only [eD] at this
    rw [this,V9,if_neg (fun e=>h.1 e.symm)]
theorem aQ3 {n m:Nat} {c c':List V} (h:n≠m):∀ l:List (Nat×List V),dV (dV l n c) m c'=dV (dV l m c') n c
  | []=>rfl
  | (k,v)::l=>by
    by_cases h1:n=k <;> by_cases h2:m=k <;> simp [dV,h1,h2]
    · omega
    · exact aQ3 h l
theorem lG (p:Nat×List V) (wr l:List (Nat×List V)):eD l (p::wr)=eD (dV l p.1 p.2) wr:=rfl
theorem aTb {n:Nat} {c:List V}:∀ {wr l:List (Nat×List V)},named wr n=false→eD (dV l n c) wr=dV (eD l wr) n c
  | [],l,_=>rfl
  | p::wr,l,h=>by
    simp only [named,List.any_cons,Bool.or_eq_false_iff,beq_eq_false_iff_ne] at h
    rw [lG,lG,aQ3 (fun e=>h.1 e.symm),aTb h.2]
theorem aVj:∀ {wr wr' l:List (Nat×List V)},(∀ p ∈ wr,named wr' p.1=false)→eD (eD l wr) wr'=eD (eD l wr') wr
  | [],wr',l,_=>rfl
  | p::wr,wr',l,h=>by
    rw [lG,lG,aVj (fun q hq=>h q (by simp [hq])),aTb (h p (by simp))]
theorem aUm {t n:Nat} {c:List V}:∀ {l:List (Nat×List V)},fJ t (dV l n c)=dV (fJ t l) n (kM t c)
  | []=>rfl
  | (k,v)::l=>by
    by_cases h1:n=k <;> simp [dV,fJ,h1]
    exact aUm
theorem aUy {n:Nat}:∀ {T:List Nat} {c:List V} {l:List (Nat×List V)},dnB T (dV l n c)=dV (dnB T l) n (dnVs T c)
  | [],c,l=>rfl
  | t::T,c,l=>by
    show dnB T (fJ t (dV l n c))=_
    rw [aUm,aUy]; rfl
theorem aIy {T:List Nat}:∀ {wr l:List (Nat×List V)},(∀ p ∈ wr,dnVs T p.2=p.2)→dnB T (eD l wr)=eD (dnB T l) wr
  | [],l,_=>rfl
  | p::wr,l,h=>by rw [lG,lG,aIy (fun q hq=>h q (by simp [hq])),aUy,h p (by simp)]
theorem aHu {T:List Nat} {d:Nat} {c:List V} {l:List (Nat×List V)}:dnB T ((d,c)::l)=(d,dnVs T c)::dnB T l:=by
  induction T generalizing c l with
  | nil=>rfl
  | cons t T ih=>exact ih
theorem bYc {T:List Nat} {d:Nat} {v:V} {l:List (Nat×V)}:dnE T ((d,v)::l)=(d,dnV T v)::dnE T l:=by
  induction T generalizing v l with
  | nil=>rfl
  | cons t T ih=>exact ih
theorem aP2 {t u:Nat}:∀ {l:List (Nat×V)},gQ t (gQ u l)=gQ u (gQ t l)
  | []=>rfl
  | (n,v)::l=>by simp only [gQ,aP2 (l:=l),aO5 (v:=v)]
theorem aV5 {u:Nat}:∀ {T:List Nat} {l:List (Nat×V)},dnE T (gQ u l)=gQ u (dnE T l)
  | [],l=>rfl
  | t::T,l=>by
    show dnE T (gQ t (gQ u l))=gQ u (dnE T (gQ t l))
    rw [aP2,aV5]
theorem aZe {T:List Nat}:∀ {U:List Nat} {l:List (Nat×V)},dnE T (dnE U l)=dnE U (dnE T l)
  | [],l=>rfl
  | u::U,l=>by
    show dnE T (dnE U (gQ u l))=dnE U (gQ u (dnE T l))
    rw [aZe (U:=U),aV5]
theorem cA1 {t u:Nat} (l:List V):kM t (kM u l)=kM u (kM t l):=by
  rw [X5,X5,X5,X5,List.map_map,List.map_map]
  exact List.map_congr_left fun v _=>aO5
theorem aWk {t u:Nat}:∀ {l:List (Nat×List V)},fJ t (fJ u l)=fJ u (fJ t l)
  | []=>rfl
  | (n,v)::l=>by simp only [fJ,aWk (l:=l),cA1 v]
theorem aRg {u:Nat}:∀ {T:List Nat} {l:List (Nat×List V)},dnB T (fJ u l)=fJ u (dnB T l)
  | [],l=>rfl
  | t::T,l=>by
    show dnB T (fJ t (fJ u l))=fJ u (dnB T (fJ t l))
    rw [aWk,aRg]
theorem aPk {T:List Nat}:∀ {U:List Nat} {l:List (Nat×List V)},dnB T (dnB U l)=dnB U (dnB T l)
  | [],l=>rfl
  | u::U,l=>by
    show dnB T (dnB U (fJ u l))=dnB U (fJ u (dnB T l))
    rw [aPk (U:=U),aRg]
structure Apart (a b:Ev):Prop where
  d:∀ x,a.d=some x→b.d≠some x
  rt:∀ p ∈ b.rt,a.d≠some p.1
  rb:∀ p ∈ b.rb,named a.wr p.1=false∧named a.nw p.1=false
  wr:∀ p ∈ b.wr,named a.wr p.1=false∧named a.nw p.1=false
  tt:∀ t ∈ a.T,(∀ p ∈ b.rt,a.tt.contains p.1=false)∧(∀ p ∈ b.rb,a.tb.contains p.1=false)
  tok:∀ t ∈ a.T,b.r.noTok t=true∧(∀ p ∈ b.wr,V.noToks t p.2=true)∧∀ p ∈ b.nw,V.noToks t p.2=true
def apart (a b:Ev):Bool :=
  (match a.d with | some x=>b.d != some x | none=>true)&&((b.rt.all fun p=>a.d != some p.1)&&((b.rb.all fun p=>!named a.wr p.1&&!named a.nw p.1)&&((b.wr.all fun p=>!named a.wr p.1&&!named a.nw p.1) &&
  ((a.T.all fun _=>(b.rt.all fun p=>!a.tt.contains p.1)&&b.rb.all fun p=>!a.tb.contains p.1) &&
  (a.T.all fun t=>b.r.noTok t&&((b.wr.all fun p=>V.noToks t p.2)&&b.nw.all fun p=>V.noToks t p.2))))))
theorem aWd {a b:Ev} (h:apart a b=true):Apart a b:=by
  simp only [apart,Bool.and_eq_true,List.all_eq_true,Bool.not_eq_true',bne_iff_ne,ne_eq] at h
  obtain ⟨h1,h2,h3,h4,h5,h7⟩:=h
  refine ⟨fun x hx=>?_,h2,h3,h4,h5,h7⟩
  rw [hx] at h1; simpa using h1
structure nC (e b:Ev):Prop where
  fr:∀ x ∈ b.fr,(e.r.noPtr x=true∧(dnV b.T e.r).noTok x=true)∧(∀ p ∈ e.wr,V.noPtrs x p.2=true∧V.noToks x (dnVs b.T p.2)=true)∧∀ p ∈ e.nw,V.noPtrs x p.2=true∧V.noToks x p.2=true
  cl:∀ t ∈ b.T,(dnV b.T e.r).noTok t=true∧(∀ p ∈ e.wr,V.noToks t (dnVs b.T p.2)=true)∧∀ p ∈ e.nw,V.noToks t p.2=true
  tt:∀ t ∈ b.T,∀ x,e.d=some x→b.tt.contains x=true∨e.r.noTok t=true
  tb:∀ t ∈ b.T,∀ p ∈ e.wr,b.tb.contains p.1=true∨V.noToks t p.2=true
def aE5 (e b:Ev):Bool :=
  (b.fr.all fun x=>(e.r.noPtr x&&(dnV b.T e.r).noTok x)&&((e.wr.all fun p=>V.noPtrs x p.2&&V.noToks x (dnVs b.T p.2))&&e.nw.all fun p=>V.noPtrs x p.2&&V.noToks x p.2)) &&
  ((b.T.all fun t=>(dnV b.T e.r).noTok t&&((e.wr.all fun p=>V.noToks t (dnVs b.T p.2))&&e.nw.all fun p=>V.noToks t p.2)) &&
  ((b.T.all fun t=>match e.d with | some x=>b.tt.contains x||e.r.noTok t | none=>true)&&b.T.all fun t=>e.wr.all fun p=>b.tb.contains p.1||V.noToks t p.2))
theorem aSt {e b:Ev} (h:aE5 e b=true):nC e b:=by
  simp only [aE5,Bool.and_eq_true,List.all_eq_true] at h
  obtain ⟨h1,h2,h3,h4⟩:=h
  refine ⟨h1,h2,fun t ht x hx=>?_,fun t ht p hp=>by simpa using h4 t ht p hp⟩
  have:=h3 t ht
  rw [hx] at this
  simpa using this
theorem aXq:∀ (l:List (Nat×V)) (n:Nat),lk l n=.top∨(n,lk l n) ∈ l
  | [],n=>.inl rfl
  | (m,v)::l,n=>by
    simp only [lk]
    split
    · rename_i e; subst e; exact .inr (by simp)
    · rcases aXq l n with h | h
      · exact .inl h
      · exact .inr (by simp [h])
theorem aNj:∀ {l:List (Nat×List V)} {n:Nat} {c:List V},bget l n=some c→(n,c) ∈ l
  | [],n,c,h=>by simp [bget] at h
  | (m,v)::l,n,c,h=>by
    simp only [bget] at h
    split at h
    · rename_i e; subst e; simp at h; subst h; simp
    · simp [aNj h]
theorem aI9 {p:V→Bool}:∀ {l:List (Nat×V)},pM p l=true↔∀ e ∈ l,p e.2=true
  | []=>by simp [pM]
  | (m,v)::l=>by simp [pM,aI9 (l:=l)]
theorem aLh {p:V→Bool}:∀ {l:List (Nat×List V)},nE p l=true↔∀ e ∈ l,e.2.all p=true
  | []=>by simp [nE]
  | (m,v)::l=>by simp [nE,aLh (l:=l)]
theorem aT4 {n:Nat} {c:List V} {q:Nat×List V}:∀ {l:List (Nat×List V)},q ∈ dV l n c→q ∈ l∨q=(n,c)
  | [],h=>by simp [dV] at h
  | (m,v)::l,h=>by
    simp only [dV] at h
    split at h
    · rename_i e
      subst e
      rcases List.mem_cons.1 h with rfl | h
      · exact .inr rfl
      · exact .inl (by simp [h])
    · rcases List.mem_cons.1 h with rfl | h
      · exact .inl (by simp)
      · rcases aT4 h with h | h
        · exact .inl (by simp [h])
        · exact .inr h
theorem aVy {q:Nat×List V}:∀ {wr l:List (Nat×List V)},q ∈ eD l wr→q ∈ l∨q ∈ wr
  | [],l,h=>.inl h
  | p::wr,l,h=>by
    rw [lG] at h
    rcases aVy h with h | h
    · rcases aT4 h with h | h
      · exact .inl h
      · exact .inr (by simp [h])
    · exact .inr (by simp [h])
theorem aKs {e:Ev} {s:St} {p:Nat×V} (h:p ∈ (eff e s).env):(e.d=some p.1∧p.2=e.r)∨∃ q ∈ s.env,p=(q.1,dnV e.T q.2):=by
  have h':p ∈ dnE e.T s.env→∃ q ∈ s.env,p=(q.1,dnV e.T q.2):=vP e.T |>.1
  simp only [eff,qR] at h
  split at h
  · rename_i d hd
    rcases List.mem_cons.1 h with rfl | h
    · exact .inl ⟨hd,rfl⟩
    · exact .inr (h' h)
  · exact .inr (h' h)
theorem aM2 {e:Ev} {s:St} {p:Nat×List V} (h:p ∈ (eff e s).bx):p ∈ e.nw∨p ∈ e.wr∨∃ q ∈ s.bx,p=(q.1,dnVs e.T q.2):=by
  rcases List.mem_append.1 h with h | h
  · exact .inl h
  · rcases aVy h with h | h
    · exact .inr (.inr ((T9 e.T).1 h))
    · exact .inr (.inl h)
theorem aJf {T:List Nat} {n:Nat} {l:List V} (h:V.noToks n l=true):V.noToks n (dnVs T l)=true:=by
  rw [pW,List.all_eq_true] at h
  rw [H9,pW,List.all_eq_true]
  intro v hv
  obtain ⟨u,hu,rfl⟩:=List.mem_map.1 hv
  exact aBi (h u hu)
theorem aAb {T:List Nat} {n:Nat} {l:List V}:V.noPtrs n (dnVs T l)=V.noPtrs n l:=by
  rw [H9,aFg,aFg,List.all_map]
  congr 1
  funext v
  exact zY
theorem aMa {T U:List Nat} {t:Nat} {v:V} (h:(dnV T v).noTok t=true):(dnV T (dnV U v)).noTok t=true:=by rw [aMk]; exact aBi h
theorem aWc {T U:List Nat} {t:Nat} {l:List V} (h:V.noToks t (dnVs T l)=true):V.noToks t (dnVs T (dnVs U l))=true:=by
  rw [H9,pW,List.all_map,List.all_eq_true] at h
  rw [H9,H9,pW,List.all_map,List.all_map,List.all_eq_true]
  exact fun v hv=>aMa (h v hv)
theorem Gl.step {e b:Ev} {s:St} (h:Gl b s) (hp:nC e b):Gl b (eff e s):=by
  have fr1:∀ d (l:List (Nat×V)) ,pM (fun v=>v.noPtr d&&v.noTok d) l=true↔∀ p ∈ l,p.2.noPtr d=true∧p.2.noTok d=true:=fun d l=>by
    rw [aI9]; simp
  have fr2:∀ d (l:List (Nat×List V)) ,nE (fun v=>v.noPtr d&&v.noTok d) l=true↔∀ p ∈ l,V.noPtrs d p.2=true∧V.noToks d p.2=true:=fun d l=>by
    rw [aLh]
    refine forall_congr' fun p=>forall_congr' fun _=>?_
    rw [aFg,pW]
    simp only [List.all_eq_true,Bool.and_eq_true]
    exact ⟨fun h=>⟨fun v hv=>(h v hv).1,fun v hv=>(h v hv).2⟩,fun h v hv=>⟨h.1 v hv,h.2 v hv⟩⟩
  have cl2:∀ t (l:List (Nat×List V)) ,nE (V.noTok t) l=true↔∀ p ∈ l,V.noToks t p.2=true:=fun t l=>by
    rw [aLh]
    refine forall_congr' fun p=>forall_congr' fun _=>?_
    rw [pW]
  refine ⟨fun d hd=>?_,fun t ht=>?_,fun t ht p hp' hn=>?_,fun t ht p hp' hn=>?_⟩
  · have h0:=h.fr d hd
    obtain ⟨⟨k1,k2⟩,k3,k4⟩:=hp.fr d hd
    simp only [St.fresh,St.dnT,Bool.and_eq_true,fr1,fr2] at h0 ⊢
    refine ⟨fun p hp=>?_,fun p hp=>?_⟩
    · obtain ⟨q,hq,rfl⟩:=(vP b.T).1 hp
      rcases aKs hq with ⟨_,e2⟩ | ⟨q',hq',rfl⟩
      · rw [e2]; exact ⟨zY.trans k1,k2⟩
      · have:=h0.1 _ ((vP b.T).2 ⟨q',hq',rfl⟩)
        exact ⟨by rw [zY,zY]; simpa [zY] using this.1,aMa this.2⟩
    · obtain ⟨q,hq,rfl⟩:=(T9 b.T).1 hp
      rcases aM2 hq with hw | hw | ⟨q',hq',rfl⟩
      · exact ⟨aAb.trans (k4 q hw).1,aJf (k4 q hw).2⟩
      · exact ⟨aAb.trans (k3 q hw).1,(k3 q hw).2⟩
      · have:=h0.2 _ ((T9 b.T).2 ⟨q',hq',rfl⟩)
        exact ⟨by rw [aAb,aAb]; simpa [aAb] using this.1,aWc this.2⟩
  · have h0:=h.cl t ht
    obtain ⟨k1,k2,k3⟩:=hp.cl t ht
    simp only [St.clean,St.dnT,Bool.and_eq_true,aI9,cl2] at h0 ⊢
    refine ⟨fun p hp=>?_,fun p hp=>?_⟩
    · obtain ⟨q,hq,rfl⟩:=(vP b.T).1 hp
      rcases aKs hq with ⟨_,e2⟩ | ⟨q',hq',rfl⟩
      · rw [e2]; exact k1
      · exact aMa (h0.1 _ ((vP b.T).2 ⟨q',hq',rfl⟩))
    · obtain ⟨q,hq,rfl⟩:=(T9 b.T).1 hp
      rcases aM2 hq with hw | hw | ⟨q',hq',rfl⟩
      · exact aJf (k3 q hw)
      · exact k2 q hw
      · exact aWc (h0.2 _ ((T9 b.T).2 ⟨q',hq',rfl⟩))
  · rcases aKs hp' with ⟨e1,e2⟩ | ⟨q',hq',rfl⟩
    · rcases hp.tt t ht p.1 e1 with h1 | h1
      · rw [h1] at hn; simp at hn
      · rw [e2]; exact h1
    · exact aBi (h.tt t ht q' hq' hn)
  · rcases aM2 hp' with hw | hw | ⟨q',hq',rfl⟩
    · exact (hp.cl t ht).2.2 p hw
    · rcases hp.tb t ht p hw with h1 | h1
      · rw [h1] at hn; simp at hn
      · exact h1
    · exact aJf (h.tb t ht q' hq' hn)
theorem qY {e:Ev} {s:St} {n:Nat} (h:e.d≠some n):lk (eff e s).env n=dnV e.T (lk s.env n):=by
  simp only [eff,qR]
  split
  · rename_i d hd
    rw [hd] at h
    simp only [lk]
    rw [if_neg (fun e=>h (by rw [e]))]
    exact V5 _ _ _
  · exact V5 _ _ _
theorem aTj:∀ {l m:List (Nat×List V)} {n:Nat},named l n=false→bget (l++m) n=bget m n
  | [],_,_,_=>rfl
  | (k,c)::l,m,n,h=>by
    simp only [named,List.any_cons,Bool.or_eq_false_iff,beq_eq_false_iff_ne,ne_eq] at h
    simp only [List.cons_append,Go.Ab.bget,if_neg (fun e:n=k=>h.1 e.symm)]
    exact aTj h.2
theorem aXe {e:Ev} {s:St} {n:Nat} (h:named e.nw n=false) (hw:named e.wr n=false):bget (eff e s).bx n=(bget s.bx n).map (dnVs e.T):=by
  show bget (e.nw++eD (dnB e.T s.bx) e.wr) n=_
  rw [aTj h,aTm hw]; exact zG _ _ _
theorem Apart.lk {a b:Ev} {s:St} (h:Apart a b) (hg:Gl a s) {p:Nat×V} (hp:p ∈ b.rt):Go.Ab.lk (eff a s).env p.1=Go.Ab.lk s.env p.1:=by
  rw [qY (h.rt p hp)]
  refine aAg fun t ht=>?_
  rcases aXq s.env p.1 with e | e
  · rw [e]; rfl
  · exact hg.tt t ht _ e ((h.tt t ht).1 p hp)
theorem Apart.bget {a b:Ev} {s:St} (h:Apart a b) (hg:Gl a s) {p:Nat×List V} (hp:p ∈ b.rb):Go.Ab.bget (eff a s).bx p.1=Go.Ab.bget s.bx p.1:=by
  rw [aXe (h.rb p hp).2 (h.rb p hp).1]
  cases hb:Go.Ab.bget s.bx p.1 with
  | none=>rfl
  | some c =>
    rw [Option.map_some,aCw fun t ht=>hg.tb t ht _ (aNj hb) ((h.tt t ht).2 p hp)]
theorem Apart.rd {a b:Ev} {s:St} (h:Apart a b) (hg:Gl a s):Rd b (eff a s)↔Rd b s:=by
  have hw:∀ p ∈ b.wr,(Go.Ab.bget (eff a s).bx p.1).isSome=(Go.Ab.bget s.bx p.1).isSome:=fun p hp=>by
    rw [aXe (h.wr p hp).2 (h.wr p hp).1]; simp
  constructor
  · exact fun k=>⟨fun p hp=>(h.lk hg hp).symm.trans (k.rt p hp),fun p hp=>(h.bget hg hp).symm.trans (k.rb p hp),fun p hp=>(hw p hp).symm.trans (k.wr p hp)⟩
  · exact fun k=>⟨fun p hp=>(h.lk hg hp).trans (k.rt p hp),fun p hp=>(h.bget hg hp).trans (k.rb p hp),fun p hp=>(hw p hp).trans (k.wr p hp)⟩
theorem Rd.eqv {e:Ev} {s s':St} (h:Eqv s s') (k:Rd e s):Rd e s':=⟨fun p hp=>(h.lk p.1).symm.trans (k.rt p hp),fun p hp=>(h.bx p.1).symm.trans (k.rb p hp),fun p hp=>by rw [← h.bx]; exact k.wr p hp⟩
theorem yB : ∀ {l m : List (Nat × List V)} {n : Nat}, bget (l ++ m) n = match bget l n with
    | some c=>some c
    | none=>bget m n
  | [],_,_=>rfl
  | (a,c)::l,m,n=>by
    simp only [List.cons_append,bget]
    split
    · rfl
    · exact yB
theorem aR1:∀ {wr l l':List (Nat×List V)},(∀ n,bget l n=bget l' n)→∀ n,bget (eD l wr) n=bget (eD l' wr) n
  | [],_,_,h,n=>h n
  | p::wr,l,l',h,n=>by
    rw [lG,lG]
    exact aR1 (fun m=>by rw [V9,V9,h,h]) n
theorem aJa:∀ {l:List (Nat×List V)} {n:Nat} {c:List V},bget l n=some c→∃ p ∈ l,p.1=n
  | (a,d)::l,n,c,h=>by
    simp only [bget] at h
    split at h
    · rename_i e; exact ⟨(a,d),by simp,e.symm⟩
    · obtain ⟨p,hp,e⟩:=aJa h; exact ⟨p,by simp [hp],e⟩
theorem aTo {e:Ev} {s s':St} (h:Eqv s s'):Eqv (eff e s) (eff e s'):=by
  refine ⟨fun n=>?_,fun p=>?_,fun n=>by
    simp only [eff]
    rw [yB,yB,aR1 (l:=dnB e.T s.bx) (l':=dnB e.T s'.bx) (fun m=>by rw [zG,zG,h.bx]) n]⟩
  · by_cases hd:e.d=some n
    · simp [eff,qR,hd,Go.Ab.lk]
    · rw [qY hd,qY hd,h.lk]
  · have hm : p ∈ dnE e.T s.env ↔ p ∈ dnE e.T s'.env := by
      rw [vP,vP]
      exact ⟨fun ⟨q,hq,e⟩=>⟨q,(h.env q).1 hq,e⟩,fun ⟨q,hq,e⟩=>⟨q,(h.env q).2 hq,e⟩⟩
    cases hd:e.d <;> simp [eff,qR,hd,hm]
theorem aRh {n:Nat} {c:List V}:∀ {l m:List (Nat×List V)},named l n=false→dV (l++m) n c=l++dV m n c
  | [],_,_=>rfl
  | (k,d)::l,m,h=>by
    simp only [named,List.any_cons,Bool.or_eq_false_iff,beq_eq_false_iff_ne,ne_eq] at h
    simp only [List.cons_append,dV,if_neg (fun e:n=k=>h.1 e.symm)]
    rw [aRh h.2]
theorem aNq:∀ {wr l m:List (Nat×List V)},(∀ p ∈ wr,named l p.1=false)→eD (l++m) wr=l++eD m wr
  | [],_,_,_=>rfl
  | p::wr,l,m,h=>by rw [lG,lG,aRh (h p (by simp)),aNq fun q hq=>h q (by simp [hq])]
theorem aHw:∀ {T:List Nat},dnB T []=[]
  | []=>rfl
  | _::T=>aHw (T:=T)
theorem aOk {T:List Nat}:∀ {l m:List (Nat×List V)},dnB T (l++m)=dnB T l++dnB T m
  | [],m=>by rw [aHw]; rfl
  | (k,d)::l,m=>by rw [List.cons_append,aHu,aHu,aOk]; rfl
theorem aJz {T:List Nat}:∀ {l:List (Nat×List V)},(∀ p ∈ l,∀ t ∈ T,V.noToks t p.2=true)→dnB T l=l
  | [],_=>aHw
  | (k,d)::l,h=>by rw [aHu,aCw fun t ht=>h (k,d) (by simp) t ht,aJz fun p hp=>h p (by simp [hp])]
theorem cBo {a b:Ev} (h:Apart a b) (k:Apart b a) (hn:∀ p ∈ a.nw,named b.nw p.1=false) (s:St):Eqv (eff b (eff a s)) (eff a (eff b s)):=by
  have ra:dnV b.T a.r=a.r:=aAg fun t ht=>(k.tok t ht).1
  have rb:dnV a.T b.r=b.r:=aAg fun t ht=>(h.tok t ht).1
  have wa:∀ p ∈ a.wr,dnVs b.T p.2=p.2:=fun p hp=>aCw fun t ht=>(k.tok t ht).2.1 p hp
  have wb:∀ p ∈ b.wr,dnVs a.T p.2=p.2:=fun p hp=>aCw fun t ht=>(h.tok t ht).2.1 p hp
  refine ⟨fun n=>?_,fun p=>?_,?_⟩
  · by_cases ha:a.d=some n
    · have hb:b.d≠some n:=h.d n ha
      rw [qY hb]
      simp only [eff,qR,ha,Go.Ab.lk,if_true,ra]
    · by_cases hb:b.d=some n
      · rw [qY ha]
        simp only [eff,qR,hb,Go.Ab.lk,if_true,rb]
      · rw [qY hb,qY ha,qY ha,qY hb,aMk]
  · cases ha:a.d <;> cases hb:b.d <;> simp only [eff,qR,ha,hb,bYc,ra,rb,List.mem_cons,aZe (T:=a.T) (U:=b.T)]
    exact ⟨fun h=>by rcases h with h | h | h <;> simp [h],fun h=>by rcases h with h | h | h <;> simp [h]⟩
  · have hwa:∀ p ∈ a.wr,named b.wr p.1=false:=fun p hp=>(k.wr p hp).1
    have core:eD (dnB b.T (eD (dnB a.T s.bx) a.wr)) b.wr=eD (dnB a.T (eD (dnB b.T s.bx) b.wr)) a.wr:=by
      rw [aIy wa,aIy wb,aPk,aVj hwa]
    have e1:(eff b (eff a s)).bx=b.nw++(a.nw++eD (dnB a.T (eD (dnB b.T s.bx) b.wr)) a.wr):=by
      show b.nw++eD (dnB b.T (a.nw++eD (dnB a.T s.bx) a.wr)) b.wr=_
      rw [aOk,aJz (T:=b.T) fun p hp t ht=>(k.tok t ht).2.2 p hp,aNq fun p hp=>(h.wr p hp).2,core]
    have e2:(eff a (eff b s)).bx=a.nw++(b.nw++eD (dnB a.T (eD (dnB b.T s.bx) b.wr)) a.wr):=by
      show a.nw++eD (dnB a.T (b.nw++eD (dnB b.T s.bx) b.wr)) a.wr=_
      rw [aOk,aJz (T:=a.T) fun p hp t ht=>(h.tok t ht).2.2 p hp,aNq fun p hp=>(k.wr p hp).2]
    intro n
    rw [e1,e2,yB,yB,yB (l:=a.nw),yB (l:=b.nw)]
    cases ha:bget a.nw n with
    | none=>rfl
    | some c =>
      cases hb:bget b.nw n with
      | none=>rfl
      | some d =>
        exfalso
        obtain ⟨p,hp,e⟩:=aJa ha
        obtain ⟨q,hq,e'⟩:=aJa hb
        have:=hn p hp
        simp only [named,List.any_eq_false,beq_iff_eq] at this
        exact this q hq (by rw [e,e'])
def Seq:List Ev→St→Prop
  | [],_=>True
  | e::l,s=>Rd e s∧Seq l (eff e s)
def fin:List Ev→St→St
  | [],s=>s
  | e::l,s=>fin l (eff e s)
theorem Seq.eqv:∀ {l:List Ev} {s s':St},Eqv s s'→Seq l s→Seq l s'
  | [],_,_,_,_=>trivial
  | _::_,_,_,h,k=>⟨k.1.eqv h,k.2.eqv (aTo h)⟩
theorem aP5:∀ {l:List Ev} {s s':St},Eqv s s'→Eqv (fin l s) (fin l s')
  | [],_,_,h=>h
  | _::l,_,_,h=>aP5 (l:=l) (aTo h)
def Comm (a b:Ev):Prop:=Apart a b∧Apart b a∧∀ p ∈ a.nw,named b.nw p.1=false
theorem Seq.front : ∀ {l1 l2 : List Ev} {e : Ev} {s : St}, Seq (l1 ++ e :: l2) s → (∀ f ∈ l1, Comm f e) → Gl e s → (∀ f ∈ l1, Gl f s) → (∀ f ∈ l1, nC f e) → l1.Pairwise nC →
    Rd e s∧Seq (l1++l2) (eff e s)∧Eqv (fin (l1++e::l2) s) (fin (l1++l2) (eff e s)):=by
  intro l1
  induction l1 with
  | nil=>exact fun h _ _ _ _ _=>⟨h.1,h.2,Eqv.refl _⟩
  | cons f l1 ih =>
    intro l2 e s h hc hg hgs hp hpw
    obtain ⟨c1,c2,c3⟩:=hc f (by simp)
    rw [List.pairwise_cons] at hpw
    obtain ⟨r1,r2,r3⟩:=ih (l2:=l2) (e:=e) h.2 (fun g hg=>hc g (by simp [hg])) (hg.step (hp f (by simp))) (fun g hg'=>(hgs g (by simp [hg'])).step (hpw.1 g hg')) (fun g hg'=>hp g (by simp [hg'])) hpw.2
    have hf:=hgs f (by simp)
    have e1:Rd e s:=(c1.rd hf).1 r1
    have sw:=cBo c1 c2 c3 s
    exact ⟨e1,⟨(c2.rd hg).2 h.1,r2.eqv sw⟩,r3.trans (aP5 sw)⟩
end Go.Ab
