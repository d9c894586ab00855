/- Operations in an open order: what an operation reads and changes; when two may be exchanged. -/
import Derived.Test.YteephiaimgcliabGreatDoorAb5
namespace Go.Ab
open Go Go.RowKit
structure Ev where
  o:AOp
  d:Option Nat:=none
  r:V:=.und
  rt:List (Nat×V):=[]
  rb:List (Nat×List V):=[]
  T:List Nat:=[]
  tt:List Nat:=[]
  tb:List Nat:=[]
  wr:List (Nat×List V):=[]
  nw:List (Nat×List V):=[]
  fr:List Nat:=[]
def dnE (T:List Nat) (l:List (Nat×V)):List (Nat×V):=T.foldl (fun l t=>jV t l) l
def dnB (T:List Nat) (l:List (Nat×List V)):List (Nat×List V):=T.foldl (fun l t=>iU t l) l
def gD (l:List (Nat×List V)) (wr:List (Nat×List V)):List (Nat×List V):=wr.foldl (fun l p=>fJ l p.1 p.2) l
def St.dnT (s:St) (T:List Nat):St:=⟨dnE T s.env,dnB T s.bx⟩
def uU (d:Option Nat) (r:V) (l:List (Nat×V)):List (Nat×V) :=
  match d with
  | some d=>(d,r)::l
  | none=>l
def eff (e:Ev) (s:St):St:=⟨uU e.d e.r (dnE e.T s.env),e.nw++gD (dnB e.T s.bx) e.wr⟩
structure Rd (e:Ev) (s:St):Prop where
  rt:∀ p ∈ e.rt,lk s.env p.1=p.2
  rb:∀ p ∈ e.rb,bget s.bx p.1=some p.2
  wr:∀ p ∈ e.wr,(bget s.bx p.1).isSome=true
structure Gl (e:Ev) (s:St):Prop where
  fr:∀ d ∈ e.fr,(s.dnT e.T).fresh d=true
  cl:∀ t ∈ e.T,(s.dnT e.T).clean t=true
  tt:∀ t ∈ e.T,∀ p ∈ s.env,e.tt.contains p.1=false→p.2.noTok t=true
  tb:∀ t ∈ e.T,∀ p ∈ s.bx,e.tb.contains p.1=false→V.noToks t p.2=true
structure Eqv (s s':St):Prop where
  lk:∀ n,lk s.env n=lk s'.env n
  env:∀ p,p ∈ s.env↔p ∈ s'.env
  bx:∀ n,bget s.bx n=bget s'.bx n
theorem Eqv.refl (s:St):Eqv s s:=⟨fun _=>rfl,fun _=>.rfl,fun _=>rfl⟩
theorem Eqv.symm {s s':St} (h:Eqv s s'):Eqv s' s:=⟨fun n=>(h.lk n).symm,fun p=>(h.env p).symm,fun n=>(h.bx n).symm⟩
theorem Eqv.trans {a b c:St} (h:Eqv a b) (k:Eqv b c):Eqv a c:=⟨fun n=>(h.lk n).trans (k.lk n),fun p=>(h.env p).trans (k.env p),fun n=>(h.bx n).trans (k.bx n)⟩
theorem aV1 {t:Nat} {l:List (Nat×V)} {p:Nat×V}:p ∈ jV t l↔∃ q ∈ l,p=(q.1,q.2.dn t):=by
  induction l with
  | nil=>simp [jV]
  | cons q l ih=>obtain ⟨m,v⟩:=q; simp [jV,ih]
theorem aU1 {t:Nat} {l:List (Nat×List V)} {p:Nat×List V}:p ∈ iU t l↔∃ q ∈ l,p=(q.1,nV t q.2):=by
  induction l with
  | nil=>simp [iU]
  | cons q l ih=>obtain ⟨m,v⟩:=q; simp [iU,ih]
def dnV (T:List Nat) (v:V):V:=T.foldl (fun v t=>v.dn t) v
def dnVs (T:List Nat) (l:List V):List V:=T.foldl (fun l t=>nV t l) l
theorem Z4 (T:List Nat):∀ (l:List (Nat×V)) (n:Nat),lk (dnE T l) n=dnV T (lk l n):=by
  induction T with
  | nil=>intro l n; rfl
  | cons t T ih=>intro l n; simp only [dnE,List.foldl_cons] at ih ⊢; rw [ih,aEr]; rfl
theorem E8 (T:List Nat):∀ {l:List (Nat×V)} {p:Nat×V},p ∈ dnE T l↔∃ q ∈ l,p=(q.1,dnV T q.2):=by
  induction T with
  | nil=>intro l p; simp [dnE,dnV]
  | cons t T ih =>
    intro l p
    simp only [dnE,List.foldl_cons,dnV] at ih ⊢
    rw [ih]
    constructor
    · rintro ⟨q,hq,rfl⟩
      obtain ⟨q',hq',rfl⟩:=aV1.1 hq
      exact ⟨q',hq',rfl⟩
    · rintro ⟨q,hq,rfl⟩
      exact ⟨_,aV1.2 ⟨q,hq,rfl⟩,rfl⟩
theorem zO (T:List Nat):∀ (l:List (Nat×List V)) (n:Nat),bget (dnB T l) n=(bget l n).map (dnVs T):=by
  induction T with
  | nil=>intro l n; cases h:bget l n <;> simp [dnB,dnVs,h]
  | cons t T ih=>intro l n; simp only [dnB,List.foldl_cons] at ih ⊢; rw [ih,aFx]; cases bget l n <;> rfl
theorem aCg (T:List Nat):∀ {l:List (Nat×List V)} {p:Nat×List V},p ∈ dnB T l↔∃ q ∈ l,p=(q.1,dnVs T q.2):=by
  induction T with
  | nil=>intro l p; simp [dnB,dnVs]
  | cons t T ih =>
    intro l p
    simp only [dnB,List.foldl_cons,dnVs] at ih ⊢
    rw [ih]
    constructor
    · rintro ⟨q,hq,rfl⟩
      obtain ⟨q',hq',rfl⟩:=aU1.1 hq
      exact ⟨q',hq',rfl⟩
    · rintro ⟨q,hq,rfl⟩
      exact ⟨_,aU1.2 ⟨q,hq,rfl⟩,rfl⟩
theorem aT0 {t:Nat} {v:V} (h:v.noTok t=true):v.dn1 t=v:=by
  cases v <;> first | rfl | skip
  case osl t' e sz l =>
    simp only [V.noTok,bne_iff_ne,ne_eq] at h
    simp [V.dn1,h]
theorem aJo {t:Nat}:∀ {l:List V},V.noToks t l=true→l.map (V.dn1 t)=l
  | [],_=>rfl
  | v::l,h=>by
    simp only [V.noToks,Bool.and_eq_true] at h
    rw [List.map_cons,aT0 h.1,aJo h.2]
theorem aP6 {t:Nat} {v:V} (h:v.noTok t=true):v.dn0 t=v:=by
  cases v with
  | tup l=>exact congrArg V.tup (aJo (by simpa [V.noTok] using h))
  | agv l=>exact congrArg V.agv (aJo (by simpa [V.noTok] using h))
  | osl w e sz l=>exact aT0 (v:=.osl w e sz l) h
  | _=>rfl
theorem bO1 {t:Nat} {v:V} (h:v.noTok t=true):v.dn t=v:=by
  cases v <;> first | exact aP6 h | exact congrArg _ (aP6 (by simpa [V.noTok] using h))
theorem aD2:∀ {T:List Nat} {v:V},(∀ t ∈ T,v.noTok t=true)→dnV T v=v
  | [],v,_=>rfl
  | t::T,v,h=>by
    simp only [dnV,List.foldl_cons,bO1 (h t (by simp))]
    exact aD2 fun u hu=>h u (by simp [hu])
theorem aB3 (t:Nat) (l:List V):nV t l=l.map (V.dn t):=by
  induction l with
  | nil=>rfl
  | cons v l ih=>simp [nV,ih]
theorem M9 (T:List Nat):∀ l:List V,dnVs T l=l.map (dnV T):=by
  induction T with
  | nil=>intro l; exact (List.map_id l).symm
  | cons t T ih=>intro l; simp only [dnVs,List.foldl_cons] at ih ⊢; rw [ih,aB3,List.map_map]; rfl
theorem aHu {T:List Nat} {l:List V} (h:∀ t ∈ T,V.noToks t l=true):dnVs T l=l:=by
  rw [M9]
  have:∀ v ∈ l,dnV T v=v:=fun v hv=>aD2 fun t ht=>by
    have:=h t ht
    rw [uT,List.all_eq_true] at this
    exact this v hv
  exact (List.map_congr_left this).trans (by simp)
theorem aP8 {t n:Nat} {v:V}:(v.dn1 t).noPtr n=v.noPtr n:=by
  cases v <;> first | rfl | skip
  simp only [V.dn1]; split <;> rfl
theorem aNq {t n:Nat}:∀ {l:List V},V.noPtrs n (l.map (V.dn1 t))=V.noPtrs n l
  | []=>rfl
  | v::l=>by simp only [List.map_cons,V.noPtrs,aP8,aNq (l:=l)]
theorem aTw {t n:Nat} {v:V}:(v.dn0 t).noPtr n=v.noPtr n:=by
  cases v with
  | tup l=>simp only [V.dn0,V.noPtr]; exact aNq
  | agv l=>simp only [V.dn0,V.noPtr]; exact aNq
  | osl w e sz l=>exact aP8 (v:=.osl w e sz l)
  | _=>rfl
theorem bSn {t n:Nat} {v:V}:(v.dn t).noPtr n=v.noPtr n:=by
  cases v <;> first | exact aTw | (simp only [V.dn,V.noPtr]; exact aTw)
theorem aRe {t n:Nat} {v:V} (h:v.noTok n=true):(v.dn1 t).noTok n=true:=by
  cases v <;> first | exact h | skip
  simp only [V.dn1]; split
  · rfl
  · exact h
theorem aKp {t n:Nat}:∀ {l:List V},V.noToks n l=true→V.noToks n (l.map (V.dn1 t))=true
  | [],_=>rfl
  | v::l,h=>by
    simp only [V.noToks,Bool.and_eq_true] at h
    simp only [List.map_cons,V.noToks,Bool.and_eq_true]
    exact ⟨aRe h.1,aKp h.2⟩
theorem aS8 {t n:Nat} {v:V} (h:v.noTok n=true):(v.dn0 t).noTok n=true:=by
  cases v with
  | tup l=>simp only [V.dn0,V.noTok] at h ⊢; exact aKp h
  | agv l=>simp only [V.dn0,V.noTok] at h ⊢; exact aKp h
  | osl w e sz l=>exact aRe (v:=.osl w e sz l) h
  | _=>exact h
theorem bMh {t n:Nat} {v:V} (h:v.noTok n=true):(v.dn t).noTok n=true:=by
  cases v <;> first | exact aS8 (t:=t) h | (rename_i c v; exact aS8 (t:=t) (v:=v) h)
theorem L9 {n:Nat}:∀ {T:List Nat} {v:V},(dnV T v).noPtr n=v.noPtr n
  | [],v=>rfl
  | t::T,v=>by simp only [dnV,List.foldl_cons]; exact (L9 (T:=T)).trans bSn
theorem aHa {n:Nat}:∀ {T:List Nat} {v:V},v.noTok n=true→(dnV T v).noTok n=true
  | [],v,h=>h
  | t::T,v,h=>by simp only [dnV,List.foldl_cons]; exact aHa (T:=T) (bMh h)
theorem aOl {t u:Nat} {v:V}:(v.dn1 t).dn1 u=(v.dn1 u).dn1 t:=by
  cases v <;> first | rfl | skip
  case osl w e sz l =>
    simp only [V.dn1]
    by_cases h1:w=t <;> by_cases h2:w=u <;> simp [h1,h2]
    all_goals first | (subst h1; simp_all) | (subst h2; simp_all) | skip
theorem aOs {t u:Nat} {l:List V}:(l.map (V.dn1 t)).map (V.dn1 u)=(l.map (V.dn1 u)).map (V.dn1 t):=by
  rw [List.map_map,List.map_map]
  exact List.map_congr_left fun v _=>aOl
theorem bLs {t w:Nat} {e:TypeId} {sz:Nat} {l:List (List D)}:(V.osl w e sz l).dn1 t=.d (.sl sz l)∨(V.osl w e sz l).dn1 t=.osl w e sz l:=by
  simp only [V.dn1]; split
  · exact .inl rfl
  · exact .inr rfl
theorem aR7 {t u:Nat} {v:V}:(v.dn0 t).dn0 u=(v.dn0 u).dn0 t:=by
  cases v with
  | tup l=>exact congrArg V.tup aOs
  | agv l=>exact congrArg V.agv aOs
  | osl w e sz l =>
    have h:=aOl (t:=t) (u:=u) (v:=.osl w e sz l)
    show ((V.osl w e sz l).dn1 t).dn0 u=((V.osl w e sz l).dn1 u).dn0 t
    have k:∀ (t u:Nat),((V.osl w e sz l).dn1 t).dn0 u=((V.osl w e sz l).dn1 t).dn1 u:=by
      intro t u
      rcases bLs (t:=t) (w:=w) (e:=e) (sz:=sz) (l:=l) with h | h <;> rw [h] <;> rfl
    rw [k,k,h]
  | _=>rfl
theorem aLl {t u:Nat} {v:V}:(v.dn t).dn u=(v.dn u).dn t:=by
  have plain:∀ v:V,(∀ c x,v≠.ite c x)→∀ t,v.dn t=v.dn0 t∧∀ c x,v.dn0 t≠.ite c x:=by
    intro v hv t
    cases v
    case osl=>exact ⟨rfl,fun c x h=>by simp only [V.dn0,V.dn1] at h; split at h <;> simp at h⟩
    case ite c x=>exact absurd rfl (hv c x)
    all_goals exact ⟨rfl,fun c x h=>by simp [V.dn0,V.dn1] at h⟩
  by_cases hv:∃ c x,v=.ite c x
  · obtain ⟨c,x,rfl⟩:=hv
    simp only [V.dn,aR7 (t:=t) (u:=u)]
  · have hv':∀ c x,v≠.ite c x:=fun c x e=>hv ⟨c,x,e⟩
    rw [(plain v hv' t).1,(plain v hv' u).1,(plain _ (plain v hv' t).2 u).1,(plain _ (plain v hv' u).2 t).1,aR7]
theorem aRa {u:Nat}:∀ {T:List Nat} {v:V},dnV T (v.dn u)=(dnV T v).dn u
  | [],v=>rfl
  | t::T,v=>by simp only [dnV,List.foldl_cons]; rw [aLl]; exact aRa (T:=T)
theorem aJs {T:List Nat}:∀ {U:List Nat} {v:V},dnV T (dnV U v)=dnV U (dnV T v)
  | [],v=>rfl
  | u::U,v=>by
    have h1:dnV (u::U) v=dnV U (v.dn u):=rfl
    have h2:dnV (u::U) (dnV T v)=dnV U ((dnV T v).dn u):=rfl
    rw [h1,h2,aJs (U:=U),aRa]
def named (l:List (Nat×List V)) (n:Nat):Bool:=l.any fun p=>p.1==n
theorem aAj (l:List (Nat×List V)) (n:Nat) (c:List V) (k:Nat):bget (fJ l n c) k=if k=n then (bget l n).map (fun _=>c) else bget l k:=qH l n c k
theorem aXe:∀ {wr l:List (Nat×List V)} {k:Nat},named wr k=false→bget (gD l wr) k=bget l k
  | [],l,k,_=>rfl
  | p::wr,l,k,h=>by
    simp only [named,List.any_cons,Bool.or_eq_false_iff,beq_eq_false_iff_ne] at h
    simp only [gD,List.foldl_cons]
    have:=aXe (wr:=wr) (l:=fJ l p.1 p.2) (k:=k) h.2
    simp only [gD] at this
    rw [this,aAj,if_neg (fun e=>h.1 e.symm)]
theorem aUt {n m:Nat} {c c':List V} (h:n≠m):∀ l:List (Nat×List V),fJ (fJ l n c) m c'=fJ (fJ l m c') n c
  | []=>rfl
  | (k,v)::l=>by
    by_cases h1:n=k <;> by_cases h2:m=k <;> simp [fJ,h1,h2]
    · omega
    · exact aUt h l
theorem qA (p:Nat×List V) (wr l:List (Nat×List V)):gD l (p::wr)=gD (fJ l p.1 p.2) wr:=rfl
theorem aRn {n:Nat} {c:List V}:∀ {wr l:List (Nat×List V)},named wr n=false→gD (fJ l n c) wr=fJ (gD l wr) n c
  | [],l,_=>rfl
  | p::wr,l,h=>by
    simp only [named,List.any_cons,Bool.or_eq_false_iff,beq_eq_false_iff_ne] at h
    rw [qA,qA,aUt (fun e=>h.1 e.symm),aRn h.2]
theorem aV3:∀ {wr wr' l:List (Nat×List V)},(∀ p ∈ wr,named wr' p.1=false)→gD (gD l wr) wr'=gD (gD l wr') wr
  | [],wr',l,_=>rfl
  | p::wr,wr',l,h=>by
    rw [qA,qA,aV3 (fun q hq=>h q (by simp [hq])),aRn (h p (by simp))]
theorem aPr {t n:Nat} {c:List V}:∀ {l:List (Nat×List V)},iU t (fJ l n c)=fJ (iU t l) n (nV t c)
  | []=>rfl
  | (k,v)::l=>by
    by_cases h1:n=k <;> simp [fJ,iU,h1]
    exact aPr
theorem aQq {n:Nat}:∀ {T:List Nat} {c:List V} {l:List (Nat×List V)},dnB T (fJ l n c)=fJ (dnB T l) n (dnVs T c)
  | [],c,l=>rfl
  | t::T,c,l=>by
    show dnB T (iU t (fJ l n c))=_
    rw [aPr,aQq]; rfl
theorem aNj {T:List Nat}:∀ {wr l:List (Nat×List V)},(∀ p ∈ wr,dnVs T p.2=p.2)→dnB T (gD l wr)=gD (dnB T l) wr
  | [],l,_=>rfl
  | p::wr,l,h=>by rw [qA,qA,aNj (fun q hq=>h q (by simp [hq])),aQq,h p (by simp)]
theorem aLr {T:List Nat} {d:Nat} {c:List V} {l:List (Nat×List V)}:dnB T ((d,c)::l)=(d,dnVs T c)::dnB T l:=by
  induction T generalizing c l with
  | nil=>rfl
  | cons t T ih=>exact ih
theorem bSx {T:List Nat} {d:Nat} {v:V} {l:List (Nat×V)}:dnE T ((d,v)::l)=(d,dnV T v)::dnE T l:=by
  induction T generalizing v l with
  | nil=>rfl
  | cons t T ih=>exact ih
theorem aU3 {t u:Nat}:∀ {l:List (Nat×V)},jV t (jV u l)=jV u (jV t l)
  | []=>rfl
  | (n,v)::l=>by simp only [jV,aU3 (l:=l),aLl (v:=v)]
theorem aSe {u:Nat}:∀ {T:List Nat} {l:List (Nat×V)},dnE T (jV u l)=jV u (dnE T l)
  | [],l=>rfl
  | t::T,l=>by
    show dnE T (jV t (jV u l))=jV u (dnE T (jV t l))
    rw [aU3,aSe]
theorem aU8 {T:List Nat}:∀ {U:List Nat} {l:List (Nat×V)},dnE T (dnE U l)=dnE U (dnE T l)
  | [],l=>rfl
  | u::U,l=>by
    show dnE T (dnE U (jV u l))=dnE U (jV u (dnE T l))
    rw [aU8 (U:=U),aSe]
theorem bB0 {t u:Nat} (l:List V):nV t (nV u l)=nV u (nV t l):=by
  rw [aB3,aB3,aB3,aB3,List.map_map,List.map_map]
  exact List.map_congr_left fun v _=>aLl
theorem aSk {t u:Nat}:∀ {l:List (Nat×List V)},iU t (iU u l)=iU u (iU t l)
  | []=>rfl
  | (n,v)::l=>by simp only [iU,aSk (l:=l),bB0 v]
theorem aWf {u:Nat}:∀ {T:List Nat} {l:List (Nat×List V)},dnB T (iU u l)=iU u (dnB T l)
  | [],l=>rfl
  | t::T,l=>by
    show dnB T (iU t (iU u l))=iU u (dnB T (iU t l))
    rw [aSk,aWf]
theorem aR8 {T:List Nat}:∀ {U:List Nat} {l:List (Nat×List V)},dnB T (dnB U l)=dnB U (dnB T l)
  | [],l=>rfl
  | u::U,l=>by
    show dnB T (dnB U (iU u l))=dnB U (iU u (dnB T l))
    rw [aR8 (U:=U),aWf]
structure Apart (a b:Ev):Prop where
  d:∀ x,a.d=some x→b.d≠some x
  rt:∀ p ∈ b.rt,a.d≠some p.1
  rb:∀ p ∈ b.rb,named a.wr p.1=false∧named a.nw p.1=false
  wr:∀ p ∈ b.wr,named a.wr p.1=false∧named a.nw p.1=false
  tt:∀ t ∈ a.T,(∀ p ∈ b.rt,a.tt.contains p.1=false)∧(∀ p ∈ b.rb,a.tb.contains p.1=false)
  tok:∀ t ∈ a.T,b.r.noTok t=true∧(∀ p ∈ b.wr,V.noToks t p.2=true)∧∀ p ∈ b.nw,V.noToks t p.2=true
def apart (a b:Ev):Bool :=
  (match a.d with | some x=>b.d != some x | none=>true)&&((b.rt.all fun p=>a.d != some p.1)&&((b.rb.all fun p=>!named a.wr p.1&&!named a.nw p.1)&&((b.wr.all fun p=>!named a.wr p.1&&!named a.nw p.1) &&
  ((a.T.all fun _=>(b.rt.all fun p=>!a.tt.contains p.1)&&b.rb.all fun p=>!a.tb.contains p.1) &&
  (a.T.all fun t=>b.r.noTok t&&((b.wr.all fun p=>V.noToks t p.2)&&b.nw.all fun p=>V.noToks t p.2))))))
theorem aSz {a b:Ev} (h:apart a b=true):Apart a b:=by
  simp only [apart,Bool.and_eq_true,List.all_eq_true,Bool.not_eq_true',bne_iff_ne,ne_eq] at h
  obtain ⟨h1,h2,h3,h4,h5,h7⟩:=h
  refine ⟨fun x hx=>?_,h2,h3,h4,h5,h7⟩
  rw [hx] at h1; simpa using h1
structure tF (e b:Ev):Prop where
  fr:∀ x ∈ b.fr,(e.r.noPtr x=true∧(dnV b.T e.r).noTok x=true)∧(∀ p ∈ e.wr,V.noPtrs x p.2=true∧V.noToks x (dnVs b.T p.2)=true)∧∀ p ∈ e.nw,V.noPtrs x p.2=true∧V.noToks x p.2=true
  cl:∀ t ∈ b.T,(dnV b.T e.r).noTok t=true∧(∀ p ∈ e.wr,V.noToks t (dnVs b.T p.2)=true)∧∀ p ∈ e.nw,V.noToks t p.2=true
  tt:∀ t ∈ b.T,∀ x,e.d=some x→b.tt.contains x=true∨e.r.noTok t=true
  tb:∀ t ∈ b.T,∀ p ∈ e.wr,b.tb.contains p.1=true∨V.noToks t p.2=true
def aEa (e b:Ev):Bool :=
  (b.fr.all fun x=>(e.r.noPtr x&&(dnV b.T e.r).noTok x)&&((e.wr.all fun p=>V.noPtrs x p.2&&V.noToks x (dnVs b.T p.2))&&e.nw.all fun p=>V.noPtrs x p.2&&V.noToks x p.2)) &&
  ((b.T.all fun t=>(dnV b.T e.r).noTok t&&((e.wr.all fun p=>V.noToks t (dnVs b.T p.2))&&e.nw.all fun p=>V.noToks t p.2)) &&
  ((b.T.all fun t=>match e.d with | some x=>b.tt.contains x||e.r.noTok t | none=>true)&&b.T.all fun t=>e.wr.all fun p=>b.tb.contains p.1||V.noToks t p.2))
theorem aQ3 {e b:Ev} (h:aEa e b=true):tF e b:=by
  simp only [aEa,Bool.and_eq_true,List.all_eq_true] at h
  obtain ⟨h1,h2,h3,h4⟩:=h
  refine ⟨h1,h2,fun t ht x hx=>?_,fun t ht p hp=>by simpa using h4 t ht p hp⟩
  have:=h3 t ht
  rw [hx] at this
  simpa using this
theorem aTo:∀ (l:List (Nat×V)) (n:Nat),lk l n=.top∨(n,lk l n) ∈ l
  | [],n=>.inl rfl
  | (m,v)::l,n=>by
    simp only [lk]
    split
    · rename_i e; subst e; exact .inr (by simp)
    · rcases aTo l n with h | h
      · exact .inl h
      · exact .inr (by simp [h])
theorem aJj:∀ {l:List (Nat×List V)} {n:Nat} {c:List V},bget l n=some c→(n,c) ∈ l
  | [],n,c,h=>by simp [bget] at h
  | (m,v)::l,n,c,h=>by
    simp only [bget] at h
    split at h
    · rename_i e; subst e; simp at h; subst h; simp
    · simp [aJj h]
theorem aI9 {p:V→Bool}:∀ {l:List (Nat×V)},uW p l=true↔∀ e ∈ l,p e.2=true
  | []=>by simp [uW]
  | (m,v)::l=>by simp [uW,aI9 (l:=l)]
theorem aNl {p:V→Bool}:∀ {l:List (Nat×List V)},rV p l=true↔∀ e ∈ l,e.2.all p=true
  | []=>by simp [rV]
  | (m,v)::l=>by simp [rV,aNl (l:=l)]
theorem aPy {n:Nat} {c:List V} {q:Nat×List V}:∀ {l:List (Nat×List V)},q ∈ fJ l n c→q ∈ l∨q=(n,c)
  | [],h=>by simp [fJ] at h
  | (m,v)::l,h=>by
    simp only [fJ] at h
    split at h
    · rename_i e
      subst e
      rcases List.mem_cons.1 h with rfl | h
      · exact .inr rfl
      · exact .inl (by simp [h])
    · rcases List.mem_cons.1 h with rfl | h
      · exact .inl (by simp)
      · rcases aPy h with h | h
        · exact .inl (by simp [h])
        · exact .inr h
theorem aS4 {q:Nat×List V}:∀ {wr l:List (Nat×List V)},q ∈ gD l wr→q ∈ l∨q ∈ wr
  | [],l,h=>.inl h
  | p::wr,l,h=>by
    rw [qA] at h
    rcases aS4 h with h | h
    · rcases aPy h with h | h
      · exact .inl h
      · exact .inr (by simp [h])
    · exact .inr (by simp [h])
theorem aO2 {e:Ev} {s:St} {p:Nat×V} (h:p ∈ (eff e s).env):(e.d=some p.1∧p.2=e.r)∨∃ q ∈ s.env,p=(q.1,dnV e.T q.2):=by
  have h':p ∈ dnE e.T s.env→∃ q ∈ s.env,p=(q.1,dnV e.T q.2):=E8 e.T |>.1
  simp only [eff,uU] at h
  split at h
  · rename_i d hd
    rcases List.mem_cons.1 h with rfl | h
    · exact .inl ⟨hd,rfl⟩
    · exact .inr (h' h)
  · exact .inr (h' h)
theorem aMk {e:Ev} {s:St} {p:Nat×List V} (h:p ∈ (eff e s).bx):p ∈ e.nw∨p ∈ e.wr∨∃ q ∈ s.bx,p=(q.1,dnVs e.T q.2):=by
  rcases List.mem_append.1 h with h | h
  · exact .inl h
  · rcases aS4 h with h | h
    · exact .inr (.inr ((aCg e.T).1 h))
    · exact .inr (.inl h)
theorem aKs {T:List Nat} {n:Nat} {l:List V} (h:V.noToks n l=true):V.noToks n (dnVs T l)=true:=by
  rw [uT,List.all_eq_true] at h
  rw [M9,uT,List.all_eq_true]
  intro v hv
  obtain ⟨u,hu,rfl⟩:=List.mem_map.1 hv
  exact aHa (h u hu)
theorem aBr {T:List Nat} {n:Nat} {l:List V}:V.noPtrs n (dnVs T l)=V.noPtrs n l:=by
  rw [M9,aGa,aGa,List.all_map]
  congr 1
  funext v
  exact L9
theorem aIs {T U:List Nat} {t:Nat} {v:V} (h:(dnV T v).noTok t=true):(dnV T (dnV U v)).noTok t=true:=by rw [aJs]; exact aHa h
theorem aR0 {T U:List Nat} {t:Nat} {l:List V} (h:V.noToks t (dnVs T l)=true):V.noToks t (dnVs T (dnVs U l))=true:=by
  rw [M9,uT,List.all_map,List.all_eq_true] at h
  rw [M9,M9,uT,List.all_map,List.all_map,List.all_eq_true]
  exact fun v hv=>aIs (h v hv)
theorem Gl.step {e b:Ev} {s:St} (h:Gl b s) (hp:tF e b):Gl b (eff e s):=by
  have fr1:∀ d (l:List (Nat×V)) ,uW (fun v=>v.noPtr d&&v.noTok d) l=true↔∀ p ∈ l,p.2.noPtr d=true∧p.2.noTok d=true:=fun d l=>by
    rw [aI9]; simp
  have fr2:∀ d (l:List (Nat×List V)) ,rV (fun v=>v.noPtr d&&v.noTok d) l=true↔∀ p ∈ l,V.noPtrs d p.2=true∧V.noToks d p.2=true:=fun d l=>by
    rw [aNl]
    refine forall_congr' fun p=>forall_congr' fun _=>?_
    rw [aGa,uT]
    simp only [List.all_eq_true,Bool.and_eq_true]
    exact ⟨fun h=>⟨fun v hv=>(h v hv).1,fun v hv=>(h v hv).2⟩,fun h v hv=>⟨h.1 v hv,h.2 v hv⟩⟩
  have cl2:∀ t (l:List (Nat×List V)) ,rV (V.noTok t) l=true↔∀ p ∈ l,V.noToks t p.2=true:=fun t l=>by
    rw [aNl]
    refine forall_congr' fun p=>forall_congr' fun _=>?_
    rw [uT]
  refine ⟨fun d hd=>?_,fun t ht=>?_,fun t ht p hp' hn=>?_,fun t ht p hp' hn=>?_⟩
  · have h0:=h.fr d hd
    obtain ⟨⟨k1,k2⟩,k3,k4⟩:=hp.fr d hd
    simp only [St.fresh,St.dnT,Bool.and_eq_true,fr1,fr2] at h0 ⊢
    refine ⟨fun p hp=>?_,fun p hp=>?_⟩
    · obtain ⟨q,hq,rfl⟩:=(E8 b.T).1 hp
      rcases aO2 hq with ⟨_,e2⟩ | ⟨q',hq',rfl⟩
      · rw [e2]; exact ⟨L9.trans k1,k2⟩
      · have:=h0.1 _ ((E8 b.T).2 ⟨q',hq',rfl⟩)
        exact ⟨by rw [L9,L9]; simpa [L9] using this.1,aIs this.2⟩
    · obtain ⟨q,hq,rfl⟩:=(aCg b.T).1 hp
      rcases aMk hq with hw | hw | ⟨q',hq',rfl⟩
      · exact ⟨aBr.trans (k4 q hw).1,aKs (k4 q hw).2⟩
      · exact ⟨aBr.trans (k3 q hw).1,(k3 q hw).2⟩
      · have:=h0.2 _ ((aCg b.T).2 ⟨q',hq',rfl⟩)
        exact ⟨by rw [aBr,aBr]; simpa [aBr] using this.1,aR0 this.2⟩
  · have h0:=h.cl t ht
    obtain ⟨k1,k2,k3⟩:=hp.cl t ht
    simp only [St.clean,St.dnT,Bool.and_eq_true,aI9,cl2] at h0 ⊢
    refine ⟨fun p hp=>?_,fun p hp=>?_⟩
    · obtain ⟨q,hq,rfl⟩:=(E8 b.T).1 hp
      rcases aO2 hq with ⟨_,e2⟩ | ⟨q',hq',rfl⟩
      · rw [e2]; exact k1
      · exact aIs (h0.1 _ ((E8 b.T).2 ⟨q',hq',rfl⟩))
    · obtain ⟨q,hq,rfl⟩:=(aCg b.T).1 hp
      rcases aMk hq with hw | hw | ⟨q',hq',rfl⟩
      · exact aKs (k3 q hw)
      · exact k2 q hw
      · exact aR0 (h0.2 _ ((aCg b.T).2 ⟨q',hq',rfl⟩))
  · rcases aO2 hp' with ⟨e1,e2⟩ | ⟨q',hq',rfl⟩
    · rcases hp.tt t ht p.1 e1 with h1 | h1
      · rw [h1] at hn; simp at hn
      · rw [e2]; exact h1
    · exact aHa (h.tt t ht q' hq' hn)
  · rcases aMk hp' with hw | hw | ⟨q',hq',rfl⟩
    · exact (hp.cl t ht).2.2 p hw
    · rcases hp.tb t ht p hw with h1 | h1
      · rw [h1] at hn; simp at hn
      · exact h1
    · exact aKs (h.tb t ht q' hq' hn)
theorem uM {e:Ev} {s:St} {n:Nat} (h:e.d≠some n):lk (eff e s).env n=dnV e.T (lk s.env n):=by
  simp only [eff,uU]
  split
  · rename_i d hd
    rw [hd] at h
    simp only [lk]
    rw [if_neg (fun e=>h (by rw [e]))]
    exact Z4 _ _ _
  · exact Z4 _ _ _
theorem aSo:∀ {l m:List (Nat×List V)} {n:Nat},named l n=false→bget (l++m) n=bget m n
  | [],_,_,_=>rfl
  | (k,c)::l,m,n,h=>by
    simp only [named,List.any_cons,Bool.or_eq_false_iff,beq_eq_false_iff_ne,ne_eq] at h
    simp only [List.cons_append,Go.Ab.bget,if_neg (fun e:n=k=>h.1 e.symm)]
    exact aSo h.2
theorem aTp {e:Ev} {s:St} {n:Nat} (h:named e.nw n=false) (hw:named e.wr n=false):bget (eff e s).bx n=(bget s.bx n).map (dnVs e.T):=by
  show bget (e.nw++gD (dnB e.T s.bx) e.wr) n=_
  rw [aSo h,aXe hw]; exact zO _ _ _
theorem Apart.lk {a b:Ev} {s:St} (h:Apart a b) (hg:Gl a s) {p:Nat×V} (hp:p ∈ b.rt):Go.Ab.lk (eff a s).env p.1=Go.Ab.lk s.env p.1:=by
  rw [uM (h.rt p hp)]
  refine aD2 fun t ht=>?_
  rcases aTo s.env p.1 with e | e
  · rw [e]; rfl
  · exact hg.tt t ht _ e ((h.tt t ht).1 p hp)
theorem Apart.bget {a b:Ev} {s:St} (h:Apart a b) (hg:Gl a s) {p:Nat×List V} (hp:p ∈ b.rb):Go.Ab.bget (eff a s).bx p.1=Go.Ab.bget s.bx p.1:=by
  rw [aTp (h.rb p hp).2 (h.rb p hp).1]
  cases hb:Go.Ab.bget s.bx p.1 with
  | none=>rfl
  | some c =>
    rw [Option.map_some,aHu fun t ht=>hg.tb t ht _ (aJj hb) ((h.tt t ht).2 p hp)]
theorem Apart.rd {a b:Ev} {s:St} (h:Apart a b) (hg:Gl a s):Rd b (eff a s)↔Rd b s:=by
  have hw:∀ p ∈ b.wr,(Go.Ab.bget (eff a s).bx p.1).isSome=(Go.Ab.bget s.bx p.1).isSome:=fun p hp=>by
    rw [aTp (h.wr p hp).2 (h.wr p hp).1]; simp
  constructor
  · exact fun k=>⟨fun p hp=>(h.lk hg hp).symm.trans (k.rt p hp),fun p hp=>(h.bget hg hp).symm.trans (k.rb p hp),fun p hp=>(hw p hp).symm.trans (k.wr p hp)⟩
  · exact fun k=>⟨fun p hp=>(h.lk hg hp).trans (k.rt p hp),fun p hp=>(h.bget hg hp).trans (k.rb p hp),fun p hp=>(hw p hp).trans (k.wr p hp)⟩
theorem Rd.eqv {e:Ev} {s s':St} (h:Eqv s s') (k:Rd e s):Rd e s':=⟨fun p hp=>(h.lk p.1).symm.trans (k.rt p hp),fun p hp=>(h.bx p.1).symm.trans (k.rb p hp),fun p hp=>by rw [← h.bx]; exact k.wr p hp⟩
theorem zK : ∀ {l m : List (Nat × List V)} {n : Nat}, bget (l ++ m) n = match bget l n with
    | some c=>some c
    | none=>bget m n
  | [],_,_=>rfl
  | (a,c)::l,m,n=>by
    simp only [List.cons_append,bget]
    split
    · rfl
    · exact zK
theorem aS6:∀ {wr l l':List (Nat×List V)},(∀ n,bget l n=bget l' n)→∀ n,bget (gD l wr) n=bget (gD l' wr) n
  | [],_,_,h,n=>h n
  | p::wr,l,l',h,n=>by
    rw [qA,qA]
    exact aS6 (fun m=>by rw [aAj,aAj,h,h]) n
theorem aNy:∀ {l:List (Nat×List V)} {n:Nat} {c:List V},bget l n=some c→∃ p ∈ l,p.1=n
  | (a,d)::l,n,c,h=>by
    simp only [bget] at h
    split at h
    · rename_i e; exact ⟨(a,d),by simp,e.symm⟩
    · obtain ⟨p,hp,e⟩:=aNy h; exact ⟨p,by simp [hp],e⟩
theorem aQr {e:Ev} {s s':St} (h:Eqv s s'):Eqv (eff e s) (eff e s'):=by
  refine ⟨fun n=>?_,fun p=>?_,fun n=>by
    simp only [eff]
    rw [zK,zK,aS6 (l:=dnB e.T s.bx) (l':=dnB e.T s'.bx) (fun m=>by rw [zO,zO,h.bx]) n]⟩
  · by_cases hd:e.d=some n
    · simp [eff,uU,hd,Go.Ab.lk]
    · rw [uM hd,uM hd,h.lk]
  · have hm : p ∈ dnE e.T s.env ↔ p ∈ dnE e.T s'.env := by
      rw [E8,E8]
      exact ⟨fun ⟨q,hq,e⟩=>⟨q,(h.env q).1 hq,e⟩,fun ⟨q,hq,e⟩=>⟨q,(h.env q).2 hq,e⟩⟩
    cases hd:e.d <;> simp [eff,uU,hd,hm]
theorem aSv {n:Nat} {c:List V}:∀ {l m:List (Nat×List V)},named l n=false→fJ (l++m) n c=l++fJ m n c
  | [],_,_=>rfl
  | (k,d)::l,m,h=>by
    simp only [named,List.any_cons,Bool.or_eq_false_iff,beq_eq_false_iff_ne,ne_eq] at h
    simp only [List.cons_append,fJ,if_neg (fun e:n=k=>h.1 e.symm)]
    rw [aSv h.2]
theorem aN7:∀ {wr l m:List (Nat×List V)},(∀ p ∈ wr,named l p.1=false)→gD (l++m) wr=l++gD m wr
  | [],_,_,_=>rfl
  | p::wr,l,m,h=>by rw [qA,qA,aSv (h p (by simp)),aN7 fun q hq=>h q (by simp [hq])]
theorem aM7:∀ {T:List Nat},dnB T []=[]
  | []=>rfl
  | _::T=>aM7 (T:=T)
theorem aMu {T:List Nat}:∀ {l m:List (Nat×List V)},dnB T (l++m)=dnB T l++dnB T m
  | [],m=>by rw [aM7]; rfl
  | (k,d)::l,m=>by rw [List.cons_append,aLr,aLr,aMu]; rfl
theorem aMv {T:List Nat}:∀ {l:List (Nat×List V)},(∀ p ∈ l,∀ t ∈ T,V.noToks t p.2=true)→dnB T l=l
  | [],_=>aM7
  | (k,d)::l,h=>by rw [aLr,aHu fun t ht=>h (k,d) (by simp) t ht,aMv fun p hp=>h p (by simp [hp])]
theorem bM8 {a b:Ev} (h:Apart a b) (k:Apart b a) (hn:∀ p ∈ a.nw,named b.nw p.1=false) (s:St):Eqv (eff b (eff a s)) (eff a (eff b s)):=by
  have ra:dnV b.T a.r=a.r:=aD2 fun t ht=>(k.tok t ht).1
  have rb:dnV a.T b.r=b.r:=aD2 fun t ht=>(h.tok t ht).1
  have wa:∀ p ∈ a.wr,dnVs b.T p.2=p.2:=fun p hp=>aHu fun t ht=>(k.tok t ht).2.1 p hp
  have wb:∀ p ∈ b.wr,dnVs a.T p.2=p.2:=fun p hp=>aHu fun t ht=>(h.tok t ht).2.1 p hp
  refine ⟨fun n=>?_,fun p=>?_,?_⟩
  · by_cases ha:a.d=some n
    · have hb:b.d≠some n:=h.d n ha
      rw [uM hb]
      simp only [eff,uU,ha,Go.Ab.lk,if_true,ra]
    · by_cases hb:b.d=some n
      · rw [uM ha]
        simp only [eff,uU,hb,Go.Ab.lk,if_true,rb]
      · rw [uM hb,uM ha,uM ha,uM hb,aJs]
  · cases ha:a.d <;> cases hb:b.d <;> simp only [eff,uU,ha,hb,bSx,ra,rb,List.mem_cons,aU8 (T:=a.T) (U:=b.T)]
    exact ⟨fun h=>by rcases h with h | h | h <;> simp [h],fun h=>by rcases h with h | h | h <;> simp [h]⟩
  · have hwa:∀ p ∈ a.wr,named b.wr p.1=false:=fun p hp=>(k.wr p hp).1
    have core:gD (dnB b.T (gD (dnB a.T s.bx) a.wr)) b.wr=gD (dnB a.T (gD (dnB b.T s.bx) b.wr)) a.wr:=by
      rw [aNj wa,aNj wb,aR8,aV3 hwa]
    have e1:(eff b (eff a s)).bx=b.nw++(a.nw++gD (dnB a.T (gD (dnB b.T s.bx) b.wr)) a.wr):=by
      show b.nw++gD (dnB b.T (a.nw++gD (dnB a.T s.bx) a.wr)) b.wr=_
      rw [aMu,aMv (T:=b.T) fun p hp t ht=>(k.tok t ht).2.2 p hp,aN7 fun p hp=>(h.wr p hp).2,core]
    have e2:(eff a (eff b s)).bx=a.nw++(b.nw++gD (dnB a.T (gD (dnB b.T s.bx) b.wr)) a.wr):=by
      show a.nw++gD (dnB a.T (b.nw++gD (dnB b.T s.bx) b.wr)) a.wr=_
      rw [aMu,aMv (T:=a.T) fun p hp t ht=>(h.tok t ht).2.2 p hp,aN7 fun p hp=>(k.wr p hp).2]
    intro n
    rw [e1,e2,zK,zK,zK (l:=a.nw),zK (l:=b.nw)]
    cases ha:bget a.nw n with
    | none=>rfl
    | some c =>
      cases hb:bget b.nw n with
      | none=>rfl
      | some d =>
        exfalso
        obtain ⟨p,hp,e⟩:=aNy ha
        obtain ⟨q,hq,e'⟩:=aNy hb
        have:=hn p hp
        simp only [named,List.any_eq_false,beq_iff_eq] at this
        exact this q hq (by rw [e,e'])
def Seq:List Ev→St→Prop
  | [],_=>True
  | e::l,s=>Rd e s∧Seq l (eff e s)
def fin:List Ev→St→St
  | [],s=>s
  | e::l,s=>fin l (eff e s)
theorem Seq.eqv:∀ {l:List Ev} {s s':St},Eqv s s'→Seq l s→Seq l s'
  | [],_,_,_,_=>trivial
  | _::_,_,_,h,k=>⟨k.1.eqv h,k.2.eqv (aQr h)⟩
theorem aPk:∀ {l:List Ev} {s s':St},Eqv s s'→Eqv (fin l s) (fin l s')
  | [],_,_,h=>h
  | _::l,_,_,h=>aPk (l:=l) (aQr h)
def Comm (a b:Ev):Prop:=Apart a b∧Apart b a∧∀ p ∈ a.nw,named b.nw p.1=false
theorem Seq.front : ∀ {l1 l2 : List Ev} {e : Ev} {s : St}, Seq (l1 ++ e :: l2) s → (∀ f ∈ l1, Comm f e) → Gl e s → (∀ f ∈ l1, Gl f s) → (∀ f ∈ l1, tF f e) → l1.Pairwise tF →
    Rd e s∧Seq (l1++l2) (eff e s)∧Eqv (fin (l1++e::l2) s) (fin (l1++l2) (eff e s)):=by
  intro l1
  induction l1 with
  | nil=>exact fun h _ _ _ _ _=>⟨h.1,h.2,Eqv.refl _⟩
  | cons f l1 ih =>
    intro l2 e s h hc hg hgs hp hpw
    obtain ⟨c1,c2,c3⟩:=hc f (by simp)
    rw [List.pairwise_cons] at hpw
    obtain ⟨r1,r2,r3⟩:=ih (l2:=l2) (e:=e) h.2 (fun g hg=>hc g (by simp [hg])) (hg.step (hp f (by simp))) (fun g hg'=>(hgs g (by simp [hg'])).step (hpw.1 g hg')) (fun g hg'=>hp g (by simp [hg'])) hpw.2
    have hf:=hgs f (by simp)
    have e1:Rd e s:=(c1.rd hf).1 r1
    have sw:=bM8 c1 c2 c3 s
    exact ⟨e1,⟨(c2.rd hg).2 h.1,r2.eqv sw⟩,r3.trans (aPk sw)⟩
end Go.Ab
