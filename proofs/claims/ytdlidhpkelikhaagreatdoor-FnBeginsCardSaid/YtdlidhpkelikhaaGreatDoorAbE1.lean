/- Operations in an open order: what an operation reads and changes; when two may be exchanged. -/
import Derived.Test.YtdlidhpkelikhaaGreatDoorAb5
namespace Go.Ab
open Go Go.RowKit
structure Ev where
  o:AOp
  d:Option Nat:=none
  r:V:=.und
  rt:List (Nat×V):=[]
  rb:List (Nat×List V):=[]
  T:List Nat:=[]
  tt:List Nat:=[]
  tb:List Nat:=[]
  wr:List (Nat×List V):=[]
  nw:List (Nat×List V):=[]
  fr:List Nat:=[]
def dnE (T:List Nat) (l:List (Nat×V)):List (Nat×V):=T.foldl (fun l t=>jW t l) l
def dnB (T:List Nat) (l:List (Nat×List V)):List (Nat×List V):=T.foldl (fun l t=>iW t l) l
def fV (l:List (Nat×List V)) (wr:List (Nat×List V)):List (Nat×List V):=wr.foldl (fun l p=>fM l p.1 p.2) l
def St.dnT (s:St) (T:List Nat):St:=⟨dnE T s.env,dnB T s.bx⟩
def uV (d:Option Nat) (r:V) (l:List (Nat×V)):List (Nat×V) :=
  match d with
  | some d=>(d,r)::l
  | none=>l
def eff (e:Ev) (s:St):St:=⟨uV e.d e.r (dnE e.T s.env),e.nw++fV (dnB e.T s.bx) e.wr⟩
structure Rd (e:Ev) (s:St):Prop where
  rt:∀ p ∈ e.rt,lk s.env p.1=p.2
  rb:∀ p ∈ e.rb,bget s.bx p.1=some p.2
  wr:∀ p ∈ e.wr,(bget s.bx p.1).isSome=true
structure Gl (e:Ev) (s:St):Prop where
  fr:∀ d ∈ e.fr,(s.dnT e.T).fresh d=true
  cl:∀ t ∈ e.T,(s.dnT e.T).clean t=true
  tt:∀ t ∈ e.T,∀ p ∈ s.env,e.tt.contains p.1=false→p.2.noTok t=true
  tb:∀ t ∈ e.T,∀ p ∈ s.bx,e.tb.contains p.1=false→V.noToks t p.2=true
structure Eqv (s s':St):Prop where
  lk:∀ n,lk s.env n=lk s'.env n
  env:∀ p,p ∈ s.env↔p ∈ s'.env
  bx:∀ n,bget s.bx n=bget s'.bx n
theorem Eqv.refl (s:St):Eqv s s:=⟨fun _=>rfl,fun _=>.rfl,fun _=>rfl⟩
theorem Eqv.symm {s s':St} (h:Eqv s s'):Eqv s' s:=⟨fun n=>(h.lk n).symm,fun p=>(h.env p).symm,fun n=>(h.bx n).symm⟩
theorem Eqv.trans {a b c:St} (h:Eqv a b) (k:Eqv b c):Eqv a c:=⟨fun n=>(h.lk n).trans (k.lk n),fun p=>(h.env p).trans (k.env p),fun n=>(h.bx n).trans (k.bx n)⟩
theorem aT6 {t:Nat} {l:List (Nat×V)} {p:Nat×V}:p ∈ jW t l↔∃ q ∈ l,p=(q.1,q.2.dn t):=by
  induction l with
  | nil=>simp [jW]
  | cons q l ih=>obtain ⟨m,v⟩:=q; simp [jW,ih]
theorem aXs {t:Nat} {l:List (Nat×List V)} {p:Nat×List V}:p ∈ iW t l↔∃ q ∈ l,p=(q.1,nN t q.2):=by
  induction l with
  | nil=>simp [iW]
  | cons q l ih=>obtain ⟨m,v⟩:=q; simp [iW,ih]
def dnV (T:List Nat) (v:V):V:=T.foldl (fun v t=>v.dn t) v
def dnVs (T:List Nat) (l:List V):List V:=T.foldl (fun l t=>nN t l) l
theorem O8 (T:List Nat):∀ (l:List (Nat×V)) (n:Nat),lk (dnE T l) n=dnV T (lk l n):=by
  induction T with
  | nil=>intro l n; rfl
  | cons t T ih=>intro l n; simp only [dnE,List.foldl_cons] at ih ⊢; rw [ih,aD1]; rfl
theorem zA (T:List Nat):∀ {l:List (Nat×V)} {p:Nat×V},p ∈ dnE T l↔∃ q ∈ l,p=(q.1,dnV T q.2):=by
  induction T with
  | nil=>intro l p; simp [dnE,dnV]
  | cons t T ih =>
    intro l p
    simp only [dnE,List.foldl_cons,dnV] at ih ⊢
    rw [ih]
    constructor
    · rintro ⟨q,hq,rfl⟩
      obtain ⟨q',hq',rfl⟩:=aT6.1 hq
      exact ⟨q',hq',rfl⟩
    · rintro ⟨q,hq,rfl⟩
      exact ⟨_,aT6.2 ⟨q,hq,rfl⟩,rfl⟩
theorem E9 (T:List Nat):∀ (l:List (Nat×List V)) (n:Nat),bget (dnB T l) n=(bget l n).map (dnVs T):=by
  induction T with
  | nil=>intro l n; cases h:bget l n <;> simp [dnB,dnVs,h]
  | cons t T ih=>intro l n; simp only [dnB,List.foldl_cons] at ih ⊢; rw [ih,aGt]; cases bget l n <;> rfl
theorem aB3 (T:List Nat):∀ {l:List (Nat×List V)} {p:Nat×List V},p ∈ dnB T l↔∃ q ∈ l,p=(q.1,dnVs T q.2):=by
  induction T with
  | nil=>intro l p; simp [dnB,dnVs]
  | cons t T ih =>
    intro l p
    simp only [dnB,List.foldl_cons,dnVs] at ih ⊢
    rw [ih]
    constructor
    · rintro ⟨q,hq,rfl⟩
      obtain ⟨q',hq',rfl⟩:=aXs.1 hq
      exact ⟨q',hq',rfl⟩
    · rintro ⟨q,hq,rfl⟩
      exact ⟨_,aXs.2 ⟨q,hq,rfl⟩,rfl⟩
theorem aVc {t:Nat} {v:V} (h:v.noTok t=true):v.dn1 t=v:=by
  cases v <;> first | rfl | skip
  case osl t' e sz l =>
    simp only [V.noTok,bne_iff_ne,ne_eq] at h
    simp [V.dn1,h]
theorem aNk {t:Nat}:∀ {l:List V},V.noToks t l=true→l.map (V.dn1 t)=l
  | [],_=>rfl
  | v::l,h=>by
    simp only [V.noToks,Bool.and_eq_true] at h
    rw [List.map_cons,aVc h.1,aNk h.2]
theorem aXr {t:Nat} {v:V} (h:v.noTok t=true):v.dn0 t=v:=by
  cases v with
  | tup l=>exact congrArg V.tup (aNk (by simpa [V.noTok] using h))
  | agv l=>exact congrArg V.agv (aNk (by simpa [V.noTok] using h))
  | osl w e sz l=>exact aVc (v:=.osl w e sz l) h
  | _=>rfl
theorem bNf {t:Nat} {v:V} (h:v.noTok t=true):v.dn t=v:=by
  cases v <;> first | exact aXr h | exact congrArg _ (aXr (by simpa [V.noTok] using h))
theorem aCz:∀ {T:List Nat} {v:V},(∀ t ∈ T,v.noTok t=true)→dnV T v=v
  | [],v,_=>rfl
  | t::T,v,h=>by
    simp only [dnV,List.foldl_cons,bNf (h t (by simp))]
    exact aCz fun u hu=>h u (by simp [hu])
theorem aBg (t:Nat) (l:List V):nN t l=l.map (V.dn t):=by
  induction l with
  | nil=>rfl
  | cons v l ih=>simp [nN,ih]
theorem U6 (T:List Nat):∀ l:List V,dnVs T l=l.map (dnV T):=by
  induction T with
  | nil=>intro l; exact (List.map_id l).symm
  | cons t T ih=>intro l; simp only [dnVs,List.foldl_cons] at ih ⊢; rw [ih,aBg,List.map_map]; rfl
theorem aEt {T:List Nat} {l:List V} (h:∀ t ∈ T,V.noToks t l=true):dnVs T l=l:=by
  rw [U6]
  have:∀ v ∈ l,dnV T v=v:=fun v hv=>aCz fun t ht=>by
    have:=h t ht
    rw [uK,List.all_eq_true] at this
    exact this v hv
  exact (List.map_congr_left this).trans (by simp)
theorem aP8 {t n:Nat} {v:V}:(v.dn1 t).noPtr n=v.noPtr n:=by
  cases v <;> first | rfl | skip
  simp only [V.dn1]; split <;> rfl
theorem aMv {t n:Nat}:∀ {l:List V},V.noPtrs n (l.map (V.dn1 t))=V.noPtrs n l
  | []=>rfl
  | v::l=>by simp only [List.map_cons,V.noPtrs,aP8,aMv (l:=l)]
theorem aWn {t n:Nat} {v:V}:(v.dn0 t).noPtr n=v.noPtr n:=by
  cases v with
  | tup l=>simp only [V.dn0,V.noPtr]; exact aMv
  | agv l=>simp only [V.dn0,V.noPtr]; exact aMv
  | osl w e sz l=>exact aP8 (v:=.osl w e sz l)
  | _=>rfl
theorem bOs {t n:Nat} {v:V}:(v.dn t).noPtr n=v.noPtr n:=by
  cases v <;> first | exact aWn | (simp only [V.dn,V.noPtr]; exact aWn)
theorem aRj {t n:Nat} {v:V} (h:v.noTok n=true):(v.dn1 t).noTok n=true:=by
  cases v <;> first | exact h | skip
  simp only [V.dn1]; split
  · rfl
  · exact h
theorem aI7 {t n:Nat}:∀ {l:List V},V.noToks n l=true→V.noToks n (l.map (V.dn1 t))=true
  | [],_=>rfl
  | v::l,h=>by
    simp only [V.noToks,Bool.and_eq_true] at h
    simp only [List.map_cons,V.noToks,Bool.and_eq_true]
    exact ⟨aRj h.1,aI7 h.2⟩
theorem aQi {t n:Nat} {v:V} (h:v.noTok n=true):(v.dn0 t).noTok n=true:=by
  cases v with
  | tup l=>simp only [V.dn0,V.noTok] at h ⊢; exact aI7 h
  | agv l=>simp only [V.dn0,V.noTok] at h ⊢; exact aI7 h
  | osl w e sz l=>exact aRj (v:=.osl w e sz l) h
  | _=>exact h
theorem bMr {t n:Nat} {v:V} (h:v.noTok n=true):(v.dn t).noTok n=true:=by
  cases v <;> first | exact aQi (t:=t) h | (rename_i c v; exact aQi (t:=t) (v:=v) h)
theorem R3 {n:Nat}:∀ {T:List Nat} {v:V},(dnV T v).noPtr n=v.noPtr n
  | [],v=>rfl
  | t::T,v=>by simp only [dnV,List.foldl_cons]; exact (R3 (T:=T)).trans bOs
theorem aH1 {n:Nat}:∀ {T:List Nat} {v:V},v.noTok n=true→(dnV T v).noTok n=true
  | [],v,h=>h
  | t::T,v,h=>by simp only [dnV,List.foldl_cons]; exact aH1 (T:=T) (bMr h)
theorem aQ7 {t u:Nat} {v:V}:(v.dn1 t).dn1 u=(v.dn1 u).dn1 t:=by
  cases v <;> first | rfl | skip
  case osl w e sz l =>
    simp only [V.dn1]
    by_cases h1:w=t <;> by_cases h2:w=u <;> simp [h1,h2]
    all_goals first | (subst h1; simp_all) | (subst h2; simp_all) | skip
theorem aOr {t u:Nat} {l:List V}:(l.map (V.dn1 t)).map (V.dn1 u)=(l.map (V.dn1 u)).map (V.dn1 t):=by
  rw [List.map_map,List.map_map]
  exact List.map_congr_left fun v _=>aQ7
theorem bDr {t w:Nat} {e:TypeId} {sz:Nat} {l:List (List D)}:(V.osl w e sz l).dn1 t=.d (.sl sz l)∨(V.osl w e sz l).dn1 t=.osl w e sz l:=by
  simp only [V.dn1]; split
  · exact .inl rfl
  · exact .inr rfl
theorem aTv {t u:Nat} {v:V}:(v.dn0 t).dn0 u=(v.dn0 u).dn0 t:=by
  cases v with
  | tup l=>exact congrArg V.tup aOr
  | agv l=>exact congrArg V.agv aOr
  | osl w e sz l =>
    have h:=aQ7 (t:=t) (u:=u) (v:=.osl w e sz l)
    show ((V.osl w e sz l).dn1 t).dn0 u=((V.osl w e sz l).dn1 u).dn0 t
    have k:∀ (t u:Nat),((V.osl w e sz l).dn1 t).dn0 u=((V.osl w e sz l).dn1 t).dn1 u:=by
      intro t u
      rcases bDr (t:=t) (w:=w) (e:=e) (sz:=sz) (l:=l) with h | h <;> rw [h] <;> rfl
    rw [k,k,h]
  | _=>rfl
theorem aJ5 {t u:Nat} {v:V}:(v.dn t).dn u=(v.dn u).dn t:=by
  have plain:∀ v:V,(∀ c x,v≠.ite c x)→∀ t,v.dn t=v.dn0 t∧∀ c x,v.dn0 t≠.ite c x:=by
    intro v hv t
    cases v
    case osl=>exact ⟨rfl,fun c x h=>by simp only [V.dn0,V.dn1] at h; split at h <;> simp at h⟩
    case ite c x=>exact absurd rfl (hv c x)
    all_goals exact ⟨rfl,fun c x h=>by simp [V.dn0,V.dn1] at h⟩
  by_cases hv:∃ c x,v=.ite c x
  · obtain ⟨c,x,rfl⟩:=hv
    simp only [V.dn,aTv (t:=t) (u:=u)]
  · have hv':∀ c x,v≠.ite c x:=fun c x e=>hv ⟨c,x,e⟩
    rw [(plain v hv' t).1,(plain v hv' u).1,(plain _ (plain v hv' t).2 u).1,(plain _ (plain v hv' u).2 t).1,aTv]
theorem aW8 {u:Nat}:∀ {T:List Nat} {v:V},dnV T (v.dn u)=(dnV T v).dn u
  | [],v=>rfl
  | t::T,v=>by simp only [dnV,List.foldl_cons]; rw [aJ5]; exact aW8 (T:=T)
theorem aK9 {T:List Nat}:∀ {U:List Nat} {v:V},dnV T (dnV U v)=dnV U (dnV T v)
  | [],v=>rfl
  | u::U,v=>by
    have h1:dnV (u::U) v=dnV U (v.dn u):=rfl
    have h2:dnV (u::U) (dnV T v)=dnV U ((dnV T v).dn u):=rfl
    rw [h1,h2,aK9 (U:=U),aW8]
def named (l:List (Nat×List V)) (n:Nat):Bool:=l.any fun p=>p.1==n
theorem aB9 (l:List (Nat×List V)) (n:Nat) (c:List V) (k:Nat):bget (fM l n c) k=if k=n then (bget l n).map (fun _=>c) else bget l k:=qE l n c k
theorem aVj:∀ {wr l:List (Nat×List V)} {k:Nat},named wr k=false→bget (fV l wr) k=bget l k
  | [],l,k,_=>rfl
  | p::wr,l,k,h=>by
    simp only [named,List.any_cons,Bool.or_eq_false_iff,beq_eq_false_iff_ne] at h
    simp only [fV,List.foldl_cons]
    have:=aVj (wr:=wr) (l:=fM l p.1 p.2) (k:=k) h.2
    simp only [fV] at this
    rw [this,aB9,if_neg (fun e=>h.1 e.symm)]
theorem aXg {n m:Nat} {c c':List V} (h:n≠m):∀ l:List (Nat×List V),fM (fM l n c) m c'=fM (fM l m c') n c
  | []=>rfl
  | (k,v)::l=>by
    by_cases h1:n=k <;> by_cases h2:m=k <;> simp [fM,h1,h2]
    · omega
    · exact aXg h l
theorem pY (p:Nat×List V) (wr l:List (Nat×List V)):fV l (p::wr)=fV (fM l p.1 p.2) wr:=rfl
theorem aUa {n:Nat} {c:List V}:∀ {wr l:List (Nat×List V)},named wr n=false→fV (fM l n c) wr=fM (fV l wr) n c
  | [],l,_=>rfl
  | p::wr,l,h=>by
    simp only [named,List.any_cons,Bool.or_eq_false_iff,beq_eq_false_iff_ne] at h
    rw [pY,pY,aXg (fun e=>h.1 e.symm),aUa h.2]
theorem aQr:∀ {wr wr' l:List (Nat×List V)},(∀ p ∈ wr,named wr' p.1=false)→fV (fV l wr) wr'=fV (fV l wr') wr
  | [],wr',l,_=>rfl
  | p::wr,wr',l,h=>by
    rw [pY,pY,aQr (fun q hq=>h q (by simp [hq])),aUa (h p (by simp))]
theorem aS5 {t n:Nat} {c:List V}:∀ {l:List (Nat×List V)},iW t (fM l n c)=fM (iW t l) n (nN t c)
  | []=>rfl
  | (k,v)::l=>by
    by_cases h1:n=k <;> simp [fM,iW,h1]
    exact aS5
theorem aRv {n:Nat}:∀ {T:List Nat} {c:List V} {l:List (Nat×List V)},dnB T (fM l n c)=fM (dnB T l) n (dnVs T c)
  | [],c,l=>rfl
  | t::T,c,l=>by
    show dnB T (iW t (fM l n c))=_
    rw [aS5,aRv]; rfl
theorem aOj {T:List Nat}:∀ {wr l:List (Nat×List V)},(∀ p ∈ wr,dnVs T p.2=p.2)→dnB T (fV l wr)=fV (dnB T l) wr
  | [],l,_=>rfl
  | p::wr,l,h=>by rw [pY,pY,aOj (fun q hq=>h q (by simp [hq])),aRv,h p (by simp)]
theorem aLd {T:List Nat} {d:Nat} {c:List V} {l:List (Nat×List V)}:dnB T ((d,c)::l)=(d,dnVs T c)::dnB T l:=by
  induction T generalizing c l with
  | nil=>rfl
  | cons t T ih=>exact ih
theorem bQs {T:List Nat} {d:Nat} {v:V} {l:List (Nat×V)}:dnE T ((d,v)::l)=(d,dnV T v)::dnE T l:=by
  induction T generalizing v l with
  | nil=>rfl
  | cons t T ih=>exact ih
theorem aWr {t u:Nat}:∀ {l:List (Nat×V)},jW t (jW u l)=jW u (jW t l)
  | []=>rfl
  | (n,v)::l=>by simp only [jW,aWr (l:=l),aJ5 (v:=v)]
theorem aWg {u:Nat}:∀ {T:List Nat} {l:List (Nat×V)},dnE T (jW u l)=jW u (dnE T l)
  | [],l=>rfl
  | t::T,l=>by
    show dnE T (jW t (jW u l))=jW u (dnE T (jW t l))
    rw [aWr,aWg]
theorem aPe {T:List Nat}:∀ {U:List Nat} {l:List (Nat×V)},dnE T (dnE U l)=dnE U (dnE T l)
  | [],l=>rfl
  | u::U,l=>by
    show dnE T (dnE U (jW u l))=dnE U (jW u (dnE T l))
    rw [aPe (U:=U),aWg]
theorem bIl {t u:Nat} (l:List V):nN t (nN u l)=nN u (nN t l):=by
  rw [aBg,aBg,aBg,aBg,List.map_map,List.map_map]
  exact List.map_congr_left fun v _=>aJ5
theorem aUn {t u:Nat}:∀ {l:List (Nat×List V)},iW t (iW u l)=iW u (iW t l)
  | []=>rfl
  | (n,v)::l=>by simp only [iW,aUn (l:=l),bIl v]
theorem aSp {u:Nat}:∀ {T:List Nat} {l:List (Nat×List V)},dnB T (iW u l)=iW u (dnB T l)
  | [],l=>rfl
  | t::T,l=>by
    show dnB T (iW t (iW u l))=iW u (dnB T (iW t l))
    rw [aUn,aSp]
theorem aQw {T:List Nat}:∀ {U:List Nat} {l:List (Nat×List V)},dnB T (dnB U l)=dnB U (dnB T l)
  | [],l=>rfl
  | u::U,l=>by
    show dnB T (dnB U (iW u l))=dnB U (iW u (dnB T l))
    rw [aQw (U:=U),aSp]
structure Apart (a b:Ev):Prop where
  d:∀ x,a.d=some x→b.d≠some x
  rt:∀ p ∈ b.rt,a.d≠some p.1
  rb:∀ p ∈ b.rb,named a.wr p.1=false∧named a.nw p.1=false
  wr:∀ p ∈ b.wr,named a.wr p.1=false∧named a.nw p.1=false
  tt:∀ t ∈ a.T,(∀ p ∈ b.rt,a.tt.contains p.1=false)∧(∀ p ∈ b.rb,a.tb.contains p.1=false)
  tok:∀ t ∈ a.T,b.r.noTok t=true∧(∀ p ∈ b.wr,V.noToks t p.2=true)∧∀ p ∈ b.nw,V.noToks t p.2=true
def apart (a b:Ev):Bool :=
  (match a.d with | some x=>b.d != some x | none=>true)&&((b.rt.all fun p=>a.d != some p.1)&&((b.rb.all fun p=>!named a.wr p.1&&!named a.nw p.1)&&((b.wr.all fun p=>!named a.wr p.1&&!named a.nw p.1) &&
  ((a.T.all fun _=>(b.rt.all fun p=>!a.tt.contains p.1)&&b.rb.all fun p=>!a.tb.contains p.1) &&
  (a.T.all fun t=>b.r.noTok t&&((b.wr.all fun p=>V.noToks t p.2)&&b.nw.all fun p=>V.noToks t p.2))))))
theorem aWd {a b:Ev} (h:apart a b=true):Apart a b:=by
  simp only [apart,Bool.and_eq_true,List.all_eq_true,Bool.not_eq_true',bne_iff_ne,ne_eq] at h
  obtain ⟨h1,h2,h3,h4,h5,h7⟩:=h
  refine ⟨fun x hx=>?_,h2,h3,h4,h5,h7⟩
  rw [hx] at h1; simpa using h1
structure tV (e b:Ev):Prop where
  fr:∀ x ∈ b.fr,(e.r.noPtr x=true∧(dnV b.T e.r).noTok x=true)∧(∀ p ∈ e.wr,V.noPtrs x p.2=true∧V.noToks x (dnVs b.T p.2)=true)∧∀ p ∈ e.nw,V.noPtrs x p.2=true∧V.noToks x p.2=true
  cl:∀ t ∈ b.T,(dnV b.T e.r).noTok t=true∧(∀ p ∈ e.wr,V.noToks t (dnVs b.T p.2)=true)∧∀ p ∈ e.nw,V.noToks t p.2=true
  tt:∀ t ∈ b.T,∀ x,e.d=some x→b.tt.contains x=true∨e.r.noTok t=true
  tb:∀ t ∈ b.T,∀ p ∈ e.wr,b.tb.contains p.1=true∨V.noToks t p.2=true
def aHp (e b:Ev):Bool :=
  (b.fr.all fun x=>(e.r.noPtr x&&(dnV b.T e.r).noTok x)&&((e.wr.all fun p=>V.noPtrs x p.2&&V.noToks x (dnVs b.T p.2))&&e.nw.all fun p=>V.noPtrs x p.2&&V.noToks x p.2)) &&
  ((b.T.all fun t=>(dnV b.T e.r).noTok t&&((e.wr.all fun p=>V.noToks t (dnVs b.T p.2))&&e.nw.all fun p=>V.noToks t p.2)) &&
  ((b.T.all fun t=>match e.d with | some x=>b.tt.contains x||e.r.noTok t | none=>true)&&b.T.all fun t=>e.wr.all fun p=>b.tb.contains p.1||V.noToks t p.2))
theorem aQn {e b:Ev} (h:aHp e b=true):tV e b:=by
  simp only [aHp,Bool.and_eq_true,List.all_eq_true] at h
  obtain ⟨h1,h2,h3,h4⟩:=h
  refine ⟨h1,h2,fun t ht x hx=>?_,fun t ht p hp=>by simpa using h4 t ht p hp⟩
  have:=h3 t ht
  rw [hx] at this
  simpa using this
theorem aQx:∀ (l:List (Nat×V)) (n:Nat),lk l n=.top∨(n,lk l n) ∈ l
  | [],n=>.inl rfl
  | (m,v)::l,n=>by
    simp only [lk]
    split
    · rename_i e; subst e; exact .inr (by simp)
    · rcases aQx l n with h | h
      · exact .inl h
      · exact .inr (by simp [h])
theorem aL6:∀ {l:List (Nat×List V)} {n:Nat} {c:List V},bget l n=some c→(n,c) ∈ l
  | [],n,c,h=>by simp [bget] at h
  | (m,v)::l,n,c,h=>by
    simp only [bget] at h
    split at h
    · rename_i e; subst e; simp at h; subst h; simp
    · simp [aL6 h]
theorem aOe {p:V→Bool}:∀ {l:List (Nat×V)},uZ p l=true↔∀ e ∈ l,p e.2=true
  | []=>by simp [uZ]
  | (m,v)::l=>by simp [uZ,aOe (l:=l)]
theorem aKa {p:V→Bool}:∀ {l:List (Nat×List V)},tJ p l=true↔∀ e ∈ l,e.2.all p=true
  | []=>by simp [tJ]
  | (m,v)::l=>by simp [tJ,aKa (l:=l)]
theorem aQg {n:Nat} {c:List V} {q:Nat×List V}:∀ {l:List (Nat×List V)},q ∈ fM l n c→q ∈ l∨q=(n,c)
  | [],h=>by simp [fM] at h
  | (m,v)::l,h=>by
    simp only [fM] at h
    split at h
    · rename_i e
      subst e
      rcases List.mem_cons.1 h with rfl | h
      · exact .inr rfl
      · exact .inl (by simp [h])
    · rcases List.mem_cons.1 h with rfl | h
      · exact .inl (by simp)
      · rcases aQg h with h | h
        · exact .inl (by simp [h])
        · exact .inr h
theorem aTd {q:Nat×List V}:∀ {wr l:List (Nat×List V)},q ∈ fV l wr→q ∈ l∨q ∈ wr
  | [],l,h=>.inl h
  | p::wr,l,h=>by
    rw [pY] at h
    rcases aTd h with h | h
    · rcases aQg h with h | h
      · exact .inl h
      · exact .inr (by simp [h])
    · exact .inr (by simp [h])
theorem aLq {e:Ev} {s:St} {p:Nat×V} (h:p ∈ (eff e s).env):(e.d=some p.1∧p.2=e.r)∨∃ q ∈ s.env,p=(q.1,dnV e.T q.2):=by
  have h':p ∈ dnE e.T s.env→∃ q ∈ s.env,p=(q.1,dnV e.T q.2):=zA e.T |>.1
  simp only [eff,uV] at h
  split at h
  · rename_i d hd
    rcases List.mem_cons.1 h with rfl | h
    · exact .inl ⟨hd,rfl⟩
    · exact .inr (h' h)
  · exact .inr (h' h)
theorem aKp {e:Ev} {s:St} {p:Nat×List V} (h:p ∈ (eff e s).bx):p ∈ e.nw∨p ∈ e.wr∨∃ q ∈ s.bx,p=(q.1,dnVs e.T q.2):=by
  rcases List.mem_append.1 h with h | h
  · exact .inl h
  · rcases aTd h with h | h
    · exact .inr (.inr ((aB3 e.T).1 h))
    · exact .inr (.inl h)
theorem aM5 {T:List Nat} {n:Nat} {l:List V} (h:V.noToks n l=true):V.noToks n (dnVs T l)=true:=by
  rw [uK,List.all_eq_true] at h
  rw [U6,uK,List.all_eq_true]
  intro v hv
  obtain ⟨u,hu,rfl⟩:=List.mem_map.1 hv
  exact aH1 (h u hu)
theorem aB1 {T:List Nat} {n:Nat} {l:List V}:V.noPtrs n (dnVs T l)=V.noPtrs n l:=by
  rw [U6,aHu,aHu,List.all_map]
  congr 1
  funext v
  exact R3
theorem aId {T U:List Nat} {t:Nat} {v:V} (h:(dnV T v).noTok t=true):(dnV T (dnV U v)).noTok t=true:=by rw [aK9]; exact aH1 h
theorem aUh {T U:List Nat} {t:Nat} {l:List V} (h:V.noToks t (dnVs T l)=true):V.noToks t (dnVs T (dnVs U l))=true:=by
  rw [U6,uK,List.all_map,List.all_eq_true] at h
  rw [U6,U6,uK,List.all_map,List.all_map,List.all_eq_true]
  exact fun v hv=>aId (h v hv)
theorem Gl.step {e b:Ev} {s:St} (h:Gl b s) (hp:tV e b):Gl b (eff e s):=by
  have fr1:∀ d (l:List (Nat×V)) ,uZ (fun v=>v.noPtr d&&v.noTok d) l=true↔∀ p ∈ l,p.2.noPtr d=true∧p.2.noTok d=true:=fun d l=>by
    rw [aOe]; simp
  have fr2:∀ d (l:List (Nat×List V)) ,tJ (fun v=>v.noPtr d&&v.noTok d) l=true↔∀ p ∈ l,V.noPtrs d p.2=true∧V.noToks d p.2=true:=fun d l=>by
    rw [aKa]
    refine forall_congr' fun p=>forall_congr' fun _=>?_
    rw [aHu,uK]
    simp only [List.all_eq_true,Bool.and_eq_true]
    exact ⟨fun h=>⟨fun v hv=>(h v hv).1,fun v hv=>(h v hv).2⟩,fun h v hv=>⟨h.1 v hv,h.2 v hv⟩⟩
  have cl2:∀ t (l:List (Nat×List V)) ,tJ (V.noTok t) l=true↔∀ p ∈ l,V.noToks t p.2=true:=fun t l=>by
    rw [aKa]
    refine forall_congr' fun p=>forall_congr' fun _=>?_
    rw [uK]
  refine ⟨fun d hd=>?_,fun t ht=>?_,fun t ht p hp' hn=>?_,fun t ht p hp' hn=>?_⟩
  · have h0:=h.fr d hd
    obtain ⟨⟨k1,k2⟩,k3,k4⟩:=hp.fr d hd
    simp only [St.fresh,St.dnT,Bool.and_eq_true,fr1,fr2] at h0 ⊢
    refine ⟨fun p hp=>?_,fun p hp=>?_⟩
    · obtain ⟨q,hq,rfl⟩:=(zA b.T).1 hp
      rcases aLq hq with ⟨_,e2⟩ | ⟨q',hq',rfl⟩
      · rw [e2]; exact ⟨R3.trans k1,k2⟩
      · have:=h0.1 _ ((zA b.T).2 ⟨q',hq',rfl⟩)
        exact ⟨by rw [R3,R3]; simpa [R3] using this.1,aId this.2⟩
    · obtain ⟨q,hq,rfl⟩:=(aB3 b.T).1 hp
      rcases aKp hq with hw | hw | ⟨q',hq',rfl⟩
      · exact ⟨aB1.trans (k4 q hw).1,aM5 (k4 q hw).2⟩
      · exact ⟨aB1.trans (k3 q hw).1,(k3 q hw).2⟩
      · have:=h0.2 _ ((aB3 b.T).2 ⟨q',hq',rfl⟩)
        exact ⟨by rw [aB1,aB1]; simpa [aB1] using this.1,aUh this.2⟩
  · have h0:=h.cl t ht
    obtain ⟨k1,k2,k3⟩:=hp.cl t ht
    simp only [St.clean,St.dnT,Bool.and_eq_true,aOe,cl2] at h0 ⊢
    refine ⟨fun p hp=>?_,fun p hp=>?_⟩
    · obtain ⟨q,hq,rfl⟩:=(zA b.T).1 hp
      rcases aLq hq with ⟨_,e2⟩ | ⟨q',hq',rfl⟩
      · rw [e2]; exact k1
      · exact aId (h0.1 _ ((zA b.T).2 ⟨q',hq',rfl⟩))
    · obtain ⟨q,hq,rfl⟩:=(aB3 b.T).1 hp
      rcases aKp hq with hw | hw | ⟨q',hq',rfl⟩
      · exact aM5 (k3 q hw)
      · exact k2 q hw
      · exact aUh (h0.2 _ ((aB3 b.T).2 ⟨q',hq',rfl⟩))
  · rcases aLq hp' with ⟨e1,e2⟩ | ⟨q',hq',rfl⟩
    · rcases hp.tt t ht p.1 e1 with h1 | h1
      · rw [h1] at hn; simp at hn
      · rw [e2]; exact h1
    · exact aH1 (h.tt t ht q' hq' hn)
  · rcases aKp hp' with hw | hw | ⟨q',hq',rfl⟩
    · exact (hp.cl t ht).2.2 p hw
    · rcases hp.tb t ht p hw with h1 | h1
      · rw [h1] at hn; simp at hn
      · exact h1
    · exact aM5 (h.tb t ht q' hq' hn)
theorem uH {e:Ev} {s:St} {n:Nat} (h:e.d≠some n):lk (eff e s).env n=dnV e.T (lk s.env n):=by
  simp only [eff,uV]
  split
  · rename_i d hd
    rw [hd] at h
    simp only [lk]
    rw [if_neg (fun e=>h (by rw [e]))]
    exact O8 _ _ _
  · exact O8 _ _ _
theorem aQp:∀ {l m:List (Nat×List V)} {n:Nat},named l n=false→bget (l++m) n=bget m n
  | [],_,_,_=>rfl
  | (k,c)::l,m,n,h=>by
    simp only [named,List.any_cons,Bool.or_eq_false_iff,beq_eq_false_iff_ne,ne_eq] at h
    simp only [List.cons_append,Go.Ab.bget,if_neg (fun e:n=k=>h.1 e.symm)]
    exact aQp h.2
theorem aOv {e:Ev} {s:St} {n:Nat} (h:named e.nw n=false) (hw:named e.wr n=false):bget (eff e s).bx n=(bget s.bx n).map (dnVs e.T):=by
  show bget (e.nw++fV (dnB e.T s.bx) e.wr) n=_
  rw [aQp h,aVj hw]; exact E9 _ _ _
theorem Apart.lk {a b:Ev} {s:St} (h:Apart a b) (hg:Gl a s) {p:Nat×V} (hp:p ∈ b.rt):Go.Ab.lk (eff a s).env p.1=Go.Ab.lk s.env p.1:=by
  rw [uH (h.rt p hp)]
  refine aCz fun t ht=>?_
  rcases aQx s.env p.1 with e | e
  · rw [e]; rfl
  · exact hg.tt t ht _ e ((h.tt t ht).1 p hp)
theorem Apart.bget {a b:Ev} {s:St} (h:Apart a b) (hg:Gl a s) {p:Nat×List V} (hp:p ∈ b.rb):Go.Ab.bget (eff a s).bx p.1=Go.Ab.bget s.bx p.1:=by
  rw [aOv (h.rb p hp).2 (h.rb p hp).1]
  cases hb:Go.Ab.bget s.bx p.1 with
  | none=>rfl
  | some c =>
    rw [Option.map_some,aEt fun t ht=>hg.tb t ht _ (aL6 hb) ((h.tt t ht).2 p hp)]
theorem Apart.rd {a b:Ev} {s:St} (h:Apart a b) (hg:Gl a s):Rd b (eff a s)↔Rd b s:=by
  have hw:∀ p ∈ b.wr,(Go.Ab.bget (eff a s).bx p.1).isSome=(Go.Ab.bget s.bx p.1).isSome:=fun p hp=>by
    rw [aOv (h.wr p hp).2 (h.wr p hp).1]; simp
  constructor
  · exact fun k=>⟨fun p hp=>(h.lk hg hp).symm.trans (k.rt p hp),fun p hp=>(h.bget hg hp).symm.trans (k.rb p hp),fun p hp=>(hw p hp).symm.trans (k.wr p hp)⟩
  · exact fun k=>⟨fun p hp=>(h.lk hg hp).trans (k.rt p hp),fun p hp=>(h.bget hg hp).trans (k.rb p hp),fun p hp=>(hw p hp).trans (k.wr p hp)⟩
theorem Rd.eqv {e:Ev} {s s':St} (h:Eqv s s') (k:Rd e s):Rd e s':=⟨fun p hp=>(h.lk p.1).symm.trans (k.rt p hp),fun p hp=>(h.bx p.1).symm.trans (k.rb p hp),fun p hp=>by rw [← h.bx]; exact k.wr p hp⟩
theorem zK : ∀ {l m : List (Nat × List V)} {n : Nat}, bget (l ++ m) n = match bget l n with
    | some c=>some c
    | none=>bget m n
  | [],_,_=>rfl
  | (a,c)::l,m,n=>by
    simp only [List.cons_append,bget]
    split
    · rfl
    · exact zK
theorem aWo:∀ {wr l l':List (Nat×List V)},(∀ n,bget l n=bget l' n)→∀ n,bget (fV l wr) n=bget (fV l' wr) n
  | [],_,_,h,n=>h n
  | p::wr,l,l',h,n=>by
    rw [pY,pY]
    exact aWo (fun m=>by rw [aB9,aB9,h,h]) n
theorem aJu:∀ {l:List (Nat×List V)} {n:Nat} {c:List V},bget l n=some c→∃ p ∈ l,p.1=n
  | (a,d)::l,n,c,h=>by
    simp only [bget] at h
    split at h
    · rename_i e; exact ⟨(a,d),by simp,e.symm⟩
    · obtain ⟨p,hp,e⟩:=aJu h; exact ⟨p,by simp [hp],e⟩
theorem aPi {e:Ev} {s s':St} (h:Eqv s s'):Eqv (eff e s) (eff e s'):=by
  refine ⟨fun n=>?_,fun p=>?_,fun n=>by
    simp only [eff]
    rw [zK,zK,aWo (l:=dnB e.T s.bx) (l':=dnB e.T s'.bx) (fun m=>by rw [E9,E9,h.bx]) n]⟩
  · by_cases hd:e.d=some n
    · simp [eff,uV,hd,Go.Ab.lk]
    · rw [uH hd,uH hd,h.lk]
  · have hm : p ∈ dnE e.T s.env ↔ p ∈ dnE e.T s'.env := by
      rw [zA,zA]
      exact ⟨fun ⟨q,hq,e⟩=>⟨q,(h.env q).1 hq,e⟩,fun ⟨q,hq,e⟩=>⟨q,(h.env q).2 hq,e⟩⟩
    cases hd:e.d <;> simp [eff,uV,hd,hm]
theorem aR5 {n:Nat} {c:List V}:∀ {l m:List (Nat×List V)},named l n=false→fM (l++m) n c=l++fM m n c
  | [],_,_=>rfl
  | (k,d)::l,m,h=>by
    simp only [named,List.any_cons,Bool.or_eq_false_iff,beq_eq_false_iff_ne,ne_eq] at h
    simp only [List.cons_append,fM,if_neg (fun e:n=k=>h.1 e.symm)]
    rw [aR5 h.2]
theorem aLp:∀ {wr l m:List (Nat×List V)},(∀ p ∈ wr,named l p.1=false)→fV (l++m) wr=l++fV m wr
  | [],_,_,_=>rfl
  | p::wr,l,m,h=>by rw [pY,pY,aR5 (h p (by simp)),aLp fun q hq=>h q (by simp [hq])]
theorem aM9:∀ {T:List Nat},dnB T []=[]
  | []=>rfl
  | _::T=>aM9 (T:=T)
theorem aNe {T:List Nat}:∀ {l m:List (Nat×List V)},dnB T (l++m)=dnB T l++dnB T m
  | [],m=>by rw [aM9]; rfl
  | (k,d)::l,m=>by rw [List.cons_append,aLd,aLd,aNe]; rfl
theorem aNf {T:List Nat}:∀ {l:List (Nat×List V)},(∀ p ∈ l,∀ t ∈ T,V.noToks t p.2=true)→dnB T l=l
  | [],_=>aM9
  | (k,d)::l,h=>by rw [aLd,aEt fun t ht=>h (k,d) (by simp) t ht,aNf fun p hp=>h p (by simp [hp])]
theorem bR3 {a b:Ev} (h:Apart a b) (k:Apart b a) (hn:∀ p ∈ a.nw,named b.nw p.1=false) (s:St):Eqv (eff b (eff a s)) (eff a (eff b s)):=by
  have ra:dnV b.T a.r=a.r:=aCz fun t ht=>(k.tok t ht).1
  have rb:dnV a.T b.r=b.r:=aCz fun t ht=>(h.tok t ht).1
  have wa:∀ p ∈ a.wr,dnVs b.T p.2=p.2:=fun p hp=>aEt fun t ht=>(k.tok t ht).2.1 p hp
  have wb:∀ p ∈ b.wr,dnVs a.T p.2=p.2:=fun p hp=>aEt fun t ht=>(h.tok t ht).2.1 p hp
  refine ⟨fun n=>?_,fun p=>?_,?_⟩
  · by_cases ha:a.d=some n
    · have hb:b.d≠some n:=h.d n ha
      rw [uH hb]
      simp only [eff,uV,ha,Go.Ab.lk,if_true,ra]
    · by_cases hb:b.d=some n
      · rw [uH ha]
        simp only [eff,uV,hb,Go.Ab.lk,if_true,rb]
      · rw [uH hb,uH ha,uH ha,uH hb,aK9]
  · cases ha:a.d <;> cases hb:b.d <;> simp only [eff,uV,ha,hb,bQs,ra,rb,List.mem_cons,aPe (T:=a.T) (U:=b.T)]
    exact ⟨fun h=>by rcases h with h | h | h <;> simp [h],fun h=>by rcases h with h | h | h <;> simp [h]⟩
  · have hwa:∀ p ∈ a.wr,named b.wr p.1=false:=fun p hp=>(k.wr p hp).1
    have core:fV (dnB b.T (fV (dnB a.T s.bx) a.wr)) b.wr=fV (dnB a.T (fV (dnB b.T s.bx) b.wr)) a.wr:=by
      rw [aOj wa,aOj wb,aQw,aQr hwa]
    have e1:(eff b (eff a s)).bx=b.nw++(a.nw++fV (dnB a.T (fV (dnB b.T s.bx) b.wr)) a.wr):=by
      show b.nw++fV (dnB b.T (a.nw++fV (dnB a.T s.bx) a.wr)) b.wr=_
      rw [aNe,aNf (T:=b.T) fun p hp t ht=>(k.tok t ht).2.2 p hp,aLp fun p hp=>(h.wr p hp).2,core]
    have e2:(eff a (eff b s)).bx=a.nw++(b.nw++fV (dnB a.T (fV (dnB b.T s.bx) b.wr)) a.wr):=by
      show a.nw++fV (dnB a.T (b.nw++fV (dnB b.T s.bx) b.wr)) a.wr=_
      rw [aNe,aNf (T:=a.T) fun p hp t ht=>(h.tok t ht).2.2 p hp,aLp fun p hp=>(k.wr p hp).2]
    intro n
    rw [e1,e2,zK,zK,zK (l:=a.nw),zK (l:=b.nw)]
    cases ha:bget a.nw n with
    | none=>rfl
    | some c =>
      cases hb:bget b.nw n with
      | none=>rfl
      | some d =>
        exfalso
        obtain ⟨p,hp,e⟩:=aJu ha
        obtain ⟨q,hq,e'⟩:=aJu hb
        have:=hn p hp
        simp only [named,List.any_eq_false,beq_iff_eq] at this
        exact this q hq (by rw [e,e'])
def Seq:List Ev→St→Prop
  | [],_=>True
  | e::l,s=>Rd e s∧Seq l (eff e s)
def fin:List Ev→St→St
  | [],s=>s
  | e::l,s=>fin l (eff e s)
theorem Seq.eqv:∀ {l:List Ev} {s s':St},Eqv s s'→Seq l s→Seq l s'
  | [],_,_,_,_=>trivial
  | _::_,_,_,h,k=>⟨k.1.eqv h,k.2.eqv (aPi h)⟩
theorem aV7:∀ {l:List Ev} {s s':St},Eqv s s'→Eqv (fin l s) (fin l s')
  | [],_,_,h=>h
  | _::l,_,_,h=>aV7 (l:=l) (aPi h)
def Comm (a b:Ev):Prop:=Apart a b∧Apart b a∧∀ p ∈ a.nw,named b.nw p.1=false
theorem Seq.front : ∀ {l1 l2 : List Ev} {e : Ev} {s : St}, Seq (l1 ++ e :: l2) s → (∀ f ∈ l1, Comm f e) → Gl e s → (∀ f ∈ l1, Gl f s) → (∀ f ∈ l1, tV f e) → l1.Pairwise tV →
    Rd e s∧Seq (l1++l2) (eff e s)∧Eqv (fin (l1++e::l2) s) (fin (l1++l2) (eff e s)):=by
  intro l1
  induction l1 with
  | nil=>exact fun h _ _ _ _ _=>⟨h.1,h.2,Eqv.refl _⟩
  | cons f l1 ih =>
    intro l2 e s h hc hg hgs hp hpw
    obtain ⟨c1,c2,c3⟩:=hc f (by simp)
    rw [List.pairwise_cons] at hpw
    obtain ⟨r1,r2,r3⟩:=ih (l2:=l2) (e:=e) h.2 (fun g hg=>hc g (by simp [hg])) (hg.step (hp f (by simp))) (fun g hg'=>(hgs g (by simp [hg'])).step (hpw.1 g hg')) (fun g hg'=>hp g (by simp [hg'])) hpw.2
    have hf:=hgs f (by simp)
    have e1:Rd e s:=(c1.rd hf).1 r1
    have sw:=bR3 c1 c2 c3 s
    exact ⟨e1,⟨(c2.rd hg).2 h.1,r2.eqv sw⟩,r3.trans (aV7 sw)⟩
end Go.Ab
