/- Operations in an open order: what an operation reads and changes; when two may be exchanged. -/
import Derived.Test.YtcfkipkafnlliaaAb5
namespace Go.Ab
open Go Go.RowKit
structure Ev where
  o:AOp
  d:Option Nat:=none
  r:V:=.und
  rt:List (Nat×V):=[]
  rb:List (Nat×List V):=[]
  T:List Nat:=[]
  tt:List Nat:=[]
  tb:List Nat:=[]
  wr:List (Nat×List V):=[]
  nw:List (Nat×List V):=[]
  fr:List Nat:=[]
def dnE (T:List Nat) (l:List (Nat×V)):List (Nat×V):=T.foldl (fun l t=>iX t l) l
def dnB (T:List Nat) (l:List (Nat×List V)):List (Nat×List V):=T.foldl (fun l t=>iB t l) l
def fI (l:List (Nat×List V)) (wr:List (Nat×List V)):List (Nat×List V):=wr.foldl (fun l p=>eH l p.1 p.2) l
def St.dnT (s:St) (T:List Nat):St:=⟨dnE T s.env,dnB T s.bx⟩
def pY (d:Option Nat) (r:V) (l:List (Nat×V)):List (Nat×V) :=
  match d with
  | some d=>(d,r)::l
  | none=>l
def eff (e:Ev) (s:St):St:=⟨pY e.d e.r (dnE e.T s.env),e.nw++fI (dnB e.T s.bx) e.wr⟩
structure Rd (e:Ev) (s:St):Prop where
  rt:∀ p ∈ e.rt,lk s.env p.1=p.2
  rb:∀ p ∈ e.rb,bget s.bx p.1=some p.2
  wr:∀ p ∈ e.wr,(bget s.bx p.1).isSome=true
structure Gl (e:Ev) (s:St):Prop where
  fr:∀ d ∈ e.fr,(s.dnT e.T).fresh d=true
  cl:∀ t ∈ e.T,(s.dnT e.T).clean t=true
  tt:∀ t ∈ e.T,∀ p ∈ s.env,e.tt.contains p.1=false→p.2.noTok t=true
  tb:∀ t ∈ e.T,∀ p ∈ s.bx,e.tb.contains p.1=false→V.noToks t p.2=true
structure Eqv (s s':St):Prop where
  lk:∀ n,lk s.env n=lk s'.env n
  env:∀ p,p ∈ s.env↔p ∈ s'.env
  bx:∀ n,bget s.bx n=bget s'.bx n
theorem Eqv.refl (s:St):Eqv s s:=⟨fun _=>rfl,fun _=>.rfl,fun _=>rfl⟩
theorem Eqv.symm {s s':St} (h:Eqv s s'):Eqv s' s:=⟨fun n=>(h.lk n).symm,fun p=>(h.env p).symm,fun n=>(h.bx n).symm⟩
theorem Eqv.trans {a b c:St} (h:Eqv a b) (k:Eqv b c):Eqv a c:=⟨fun n=>(h.lk n).trans (k.lk n),fun p=>(h.env p).trans (k.env p),fun n=>(h.bx n).trans (k.bx n)⟩
theorem aQp {t:Nat} {l:List (Nat×V)} {p:Nat×V}:p ∈ iX t l↔∃ q ∈ l,p=(q.1,q.2.dn t):=by
  induction l with
  | nil=>simp [iX]
  | cons q l ih=>obtain ⟨m,v⟩:=q; simp [iX,ih]
theorem aN0 {t:Nat} {l:List (Nat×List V)} {p:Nat×List V}:p ∈ iB t l↔∃ q ∈ l,p=(q.1,kW t q.2):=by
  induction l with
  | nil=>simp [iB]
  | cons q l ih=>obtain ⟨m,v⟩:=q; simp [iB,ih]
def dnV (T:List Nat) (v:V):V:=T.foldl (fun v t=>v.dn t) v
def dnVs (T:List Nat) (l:List V):List V:=T.foldl (fun l t=>kW t l) l
theorem zY (T:List Nat):∀ (l:List (Nat×V)) (n:Nat),lk (dnE T l) n=dnV T (lk l n):=by
  induction T with
  | nil=>intro l n; rfl
  | cons t T ih=>intro l n; simp only [dnE,List.foldl_cons] at ih ⊢; rw [ih,aDc]; rfl
theorem vY (T:List Nat):∀ {l:List (Nat×V)} {p:Nat×V},p ∈ dnE T l↔∃ q ∈ l,p=(q.1,dnV T q.2):=by
  induction T with
  | nil=>intro l p; simp [dnE,dnV]
  | cons t T ih =>
    intro l p
    simp only [dnE,List.foldl_cons,dnV] at ih ⊢
    rw [ih]
    constructor
    · rintro ⟨q,hq,rfl⟩
      obtain ⟨q',hq',rfl⟩:=aQp.1 hq
      exact ⟨q',hq',rfl⟩
    · rintro ⟨q,hq,rfl⟩
      exact ⟨_,aQp.2 ⟨q,hq,rfl⟩,rfl⟩
theorem vP (T:List Nat):∀ (l:List (Nat×List V)) (n:Nat),bget (dnB T l) n=(bget l n).map (dnVs T):=by
  induction T with
  | nil=>intro l n; cases h:bget l n <;> simp [dnB,dnVs,h]
  | cons t T ih=>intro l n; simp only [dnB,List.foldl_cons] at ih ⊢; rw [ih,aC1]; cases bget l n <;> rfl
theorem aAg (T:List Nat):∀ {l:List (Nat×List V)} {p:Nat×List V},p ∈ dnB T l↔∃ q ∈ l,p=(q.1,dnVs T q.2):=by
  induction T with
  | nil=>intro l p; simp [dnB,dnVs]
  | cons t T ih =>
    intro l p
    simp only [dnB,List.foldl_cons,dnVs] at ih ⊢
    rw [ih]
    constructor
    · rintro ⟨q,hq,rfl⟩
      obtain ⟨q',hq',rfl⟩:=aN0.1 hq
      exact ⟨q',hq',rfl⟩
    · rintro ⟨q,hq,rfl⟩
      exact ⟨_,aN0.2 ⟨q,hq,rfl⟩,rfl⟩
theorem aM3 {t:Nat} {v:V} (h:v.noTok t=true):v.dn1 t=v:=by
  cases v <;> first | rfl | skip
  case osl t' e sz l =>
    simp only [V.noTok,bne_iff_ne,ne_eq] at h
    simp [V.dn1,h]
theorem aH2 {t:Nat}:∀ {l:List V},V.noToks t l=true→l.map (V.dn1 t)=l
  | [],_=>rfl
  | v::l,h=>by
    simp only [V.noToks,Bool.and_eq_true] at h
    rw [List.map_cons,aM3 h.1,aH2 h.2]
theorem aRt {t:Nat} {v:V} (h:v.noTok t=true):v.dn0 t=v:=by
  cases v with
  | tup l=>exact congrArg V.tup (aH2 (by simpa [V.noTok] using h))
  | agv l=>exact congrArg V.agv (aH2 (by simpa [V.noTok] using h))
  | osl w e sz l=>exact aM3 (v:=.osl w e sz l) h
  | _=>rfl
theorem aXh {t:Nat} {v:V} (h:v.noTok t=true):v.dn t=v:=by
  cases v <;> first | exact aRt h | exact congrArg _ (aRt (by simpa [V.noTok] using h))
theorem aBe:∀ {T:List Nat} {v:V},(∀ t ∈ T,v.noTok t=true)→dnV T v=v
  | [],v,_=>rfl
  | t::T,v,h=>by
    simp only [dnV,List.foldl_cons,aXh (h t (by simp))]
    exact aBe fun u hu=>h u (by simp [hu])
theorem aBa (t:Nat) (l:List V):kW t l=l.map (V.dn t):=by
  induction l with
  | nil=>rfl
  | cons v l ih=>simp [kW,ih]
theorem I5 (T:List Nat):∀ l:List V,dnVs T l=l.map (dnV T):=by
  induction T with
  | nil=>intro l; exact (List.map_id l).symm
  | cons t T ih=>intro l; simp only [dnVs,List.foldl_cons] at ih ⊢; rw [ih,aBa,List.map_map]; rfl
theorem aC2 {T:List Nat} {l:List V} (h:∀ t ∈ T,V.noToks t l=true):dnVs T l=l:=by
  rw [I5]
  have:∀ v ∈ l,dnV T v=v:=fun v hv=>aBe fun t ht=>by
    have:=h t ht
    rw [qH,List.all_eq_true] at this
    exact this v hv
  exact (List.map_congr_left this).trans (by simp)
theorem aN7 {t n:Nat} {v:V}:(v.dn1 t).noPtr n=v.noPtr n:=by
  cases v <;> first | rfl | skip
  simp only [V.dn1]; split <;> rfl
theorem aFb {t n:Nat}:∀ {l:List V},V.noPtrs n (l.map (V.dn1 t))=V.noPtrs n l
  | []=>rfl
  | v::l=>by simp only [List.map_cons,V.noPtrs,aN7,aFb (l:=l)]
theorem aR1 {t n:Nat} {v:V}:(v.dn0 t).noPtr n=v.noPtr n:=by
  cases v with
  | tup l=>simp only [V.dn0,V.noPtr]; exact aFb
  | agv l=>simp only [V.dn0,V.noPtr]; exact aFb
  | osl w e sz l=>exact aN7 (v:=.osl w e sz l)
  | _=>rfl
theorem bE6 {t n:Nat} {v:V}:(v.dn t).noPtr n=v.noPtr n:=by
  cases v <;> first | exact aR1 | (simp only [V.dn,V.noPtr]; exact aR1)
theorem aNg {t n:Nat} {v:V} (h:v.noTok n=true):(v.dn1 t).noTok n=true:=by
  cases v <;> first | exact h | skip
  simp only [V.dn1]; split
  · rfl
  · exact h
theorem aHx {t n:Nat}:∀ {l:List V},V.noToks n l=true→V.noToks n (l.map (V.dn1 t))=true
  | [],_=>rfl
  | v::l,h=>by
    simp only [V.noToks,Bool.and_eq_true] at h
    simp only [List.map_cons,V.noToks,Bool.and_eq_true]
    exact ⟨aNg h.1,aHx h.2⟩
theorem aSe {t n:Nat} {v:V} (h:v.noTok n=true):(v.dn0 t).noTok n=true:=by
  cases v with
  | tup l=>simp only [V.dn0,V.noTok] at h ⊢; exact aHx h
  | agv l=>simp only [V.dn0,V.noTok] at h ⊢; exact aHx h
  | osl w e sz l=>exact aNg (v:=.osl w e sz l) h
  | _=>exact h
theorem aXo {t n:Nat} {v:V} (h:v.noTok n=true):(v.dn t).noTok n=true:=by
  cases v <;> first | exact aSe (t:=t) h | (rename_i c v; exact aSe (t:=t) (v:=v) h)
theorem xZ {n:Nat}:∀ {T:List Nat} {v:V},(dnV T v).noPtr n=v.noPtr n
  | [],v=>rfl
  | t::T,v=>by simp only [dnV,List.foldl_cons]; exact (xZ (T:=T)).trans bE6
theorem aDa {n:Nat}:∀ {T:List Nat} {v:V},v.noTok n=true→(dnV T v).noTok n=true
  | [],v,h=>h
  | t::T,v,h=>by simp only [dnV,List.foldl_cons]; exact aDa (T:=T) (aXo h)
theorem aPw {t u:Nat} {v:V}:(v.dn1 t).dn1 u=(v.dn1 u).dn1 t:=by
  cases v <;> first | rfl | skip
  case osl w e sz l =>
    simp only [V.dn1]
    by_cases h1:w=t <;> by_cases h2:w=u <;> simp [h1,h2]
    all_goals first | (subst h1; simp_all) | (subst h2; simp_all) | skip
theorem aOw {t u:Nat} {l:List V}:(l.map (V.dn1 t)).map (V.dn1 u)=(l.map (V.dn1 u)).map (V.dn1 t):=by
  rw [List.map_map,List.map_map]
  exact List.map_congr_left fun v _=>aPw
theorem aZm {t w:Nat} {e:TypeId} {sz:Nat} {l:List (List D)}:(V.osl w e sz l).dn1 t=.d (.sl sz l)∨(V.osl w e sz l).dn1 t=.osl w e sz l:=by
  simp only [V.dn1]; split
  · exact .inl rfl
  · exact .inr rfl
theorem aM6 {t u:Nat} {v:V}:(v.dn0 t).dn0 u=(v.dn0 u).dn0 t:=by
  cases v with
  | tup l=>exact congrArg V.tup aOw
  | agv l=>exact congrArg V.agv aOw
  | osl w e sz l =>
    have h:=aPw (t:=t) (u:=u) (v:=.osl w e sz l)
    show ((V.osl w e sz l).dn1 t).dn0 u=((V.osl w e sz l).dn1 u).dn0 t
    have k:∀ (t u:Nat),((V.osl w e sz l).dn1 t).dn0 u=((V.osl w e sz l).dn1 t).dn1 u:=by
      intro t u
      rcases aZm (t:=t) (w:=w) (e:=e) (sz:=sz) (l:=l) with h | h <;> rw [h] <;> rfl
    rw [k,k,h]
  | _=>rfl
theorem aLz {t u:Nat} {v:V}:(v.dn t).dn u=(v.dn u).dn t:=by
  have plain:∀ v:V,(∀ c x,v≠.ite c x)→∀ t,v.dn t=v.dn0 t∧∀ c x,v.dn0 t≠.ite c x:=by
    intro v hv t
    cases v
    case osl=>exact ⟨rfl,fun c x h=>by simp only [V.dn0,V.dn1] at h; split at h <;> simp at h⟩
    case ite c x=>exact absurd rfl (hv c x)
    all_goals exact ⟨rfl,fun c x h=>by simp [V.dn0,V.dn1] at h⟩
  by_cases hv:∃ c x,v=.ite c x
  · obtain ⟨c,x,rfl⟩:=hv
    simp only [V.dn,aM6 (t:=t) (u:=u)]
  · have hv':∀ c x,v≠.ite c x:=fun c x e=>hv ⟨c,x,e⟩
    rw [(plain v hv' t).1,(plain v hv' u).1,(plain _ (plain v hv' t).2 u).1,(plain _ (plain v hv' u).2 t).1,aM6]
theorem aS3 {u:Nat}:∀ {T:List Nat} {v:V},dnV T (v.dn u)=(dnV T v).dn u
  | [],v=>rfl
  | t::T,v=>by simp only [dnV,List.foldl_cons]; rw [aLz]; exact aS3 (T:=T)
theorem aK7 {T:List Nat}:∀ {U:List Nat} {v:V},dnV T (dnV U v)=dnV U (dnV T v)
  | [],v=>rfl
  | u::U,v=>by
    have h1:dnV (u::U) v=dnV U (v.dn u):=rfl
    have h2:dnV (u::U) (dnV T v)=dnV U ((dnV T v).dn u):=rfl
    rw [h1,h2,aK7 (U:=U),aS3]
def named (l:List (Nat×List V)) (n:Nat):Bool:=l.any fun p=>p.1==n
theorem P6 (l:List (Nat×List V)) (n:Nat) (c:List V) (k:Nat):bget (eH l n c) k=if k=n then (bget l n).map (fun _=>c) else bget l k:=mJ l n c k
theorem aNn:∀ {wr l:List (Nat×List V)} {k:Nat},named wr k=false→bget (fI l wr) k=bget l k
  | [],l,k,_=>rfl
  | p::wr,l,k,h=>by
    simp only [named,List.any_cons,Bool.or_eq_false_iff,beq_eq_false_iff_ne] at h
    simp only [fI,List.foldl_cons]
    have:=aNn (wr:=wr) (l:=eH l p.1 p.2) (k:=k) h.2
    simp only [fI] at this
    rw [this,P6,if_neg (fun e=>h.1 e.symm)]
theorem aNv {n m:Nat} {c c':List V} (h:n≠m):∀ l:List (Nat×List V),eH (eH l n c) m c'=eH (eH l m c') n c
  | []=>rfl
  | (k,v)::l=>by
    by_cases h1:n=k <;> by_cases h2:m=k <;> simp [eH,h1,h2]
    · omega
    · exact aNv h l
theorem mG (p:Nat×List V) (wr l:List (Nat×List V)):fI l (p::wr)=fI (eH l p.1 p.2) wr:=rfl
theorem aN4 {n:Nat} {c:List V}:∀ {wr l:List (Nat×List V)},named wr n=false→fI (eH l n c) wr=eH (fI l wr) n c
  | [],l,_=>rfl
  | p::wr,l,h=>by
    simp only [named,List.any_cons,Bool.or_eq_false_iff,beq_eq_false_iff_ne] at h
    rw [mG,mG,aNv (fun e=>h.1 e.symm),aN4 h.2]
theorem aRu:∀ {wr wr' l:List (Nat×List V)},(∀ p ∈ wr,named wr' p.1=false)→fI (fI l wr) wr'=fI (fI l wr') wr
  | [],wr',l,_=>rfl
  | p::wr,wr',l,h=>by
    rw [mG,mG,aRu (fun q hq=>h q (by simp [hq])),aN4 (h p (by simp))]
theorem aMu {t n:Nat} {c:List V}:∀ {l:List (Nat×List V)},iB t (eH l n c)=eH (iB t l) n (kW t c)
  | []=>rfl
  | (k,v)::l=>by
    by_cases h1:n=k <;> simp [eH,iB,h1]
    exact aMu
theorem aPy {n:Nat}:∀ {T:List Nat} {c:List V} {l:List (Nat×List V)},dnB T (eH l n c)=eH (dnB T l) n (dnVs T c)
  | [],c,l=>rfl
  | t::T,c,l=>by
    show dnB T (iB t (eH l n c))=_
    rw [aMu,aPy]; rfl
theorem aIw {T:List Nat}:∀ {wr l:List (Nat×List V)},(∀ p ∈ wr,dnVs T p.2=p.2)→dnB T (fI l wr)=fI (dnB T l) wr
  | [],l,_=>rfl
  | p::wr,l,h=>by rw [mG,mG,aIw (fun q hq=>h q (by simp [hq])),aPy,h p (by simp)]
theorem aGk {T:List Nat} {d:Nat} {c:List V} {l:List (Nat×List V)}:dnB T ((d,c)::l)=(d,dnVs T c)::dnB T l:=by
  induction T generalizing c l with
  | nil=>rfl
  | cons t T ih=>exact ih
theorem bDc {T:List Nat} {d:Nat} {v:V} {l:List (Nat×V)}:dnE T ((d,v)::l)=(d,dnV T v)::dnE T l:=by
  induction T generalizing v l with
  | nil=>rfl
  | cons t T ih=>exact ih
theorem aO7 {t u:Nat}:∀ {l:List (Nat×V)},iX t (iX u l)=iX u (iX t l)
  | []=>rfl
  | (n,v)::l=>by simp only [iX,aO7 (l:=l),aLz (v:=v)]
theorem aQf {u:Nat}:∀ {T:List Nat} {l:List (Nat×V)},dnE T (iX u l)=iX u (dnE T l)
  | [],l=>rfl
  | t::T,l=>by
    show dnE T (iX t (iX u l))=iX u (dnE T (iX t l))
    rw [aO7,aQf]
theorem aPr {T:List Nat}:∀ {U:List Nat} {l:List (Nat×V)},dnE T (dnE U l)=dnE U (dnE T l)
  | [],l=>rfl
  | u::U,l=>by
    show dnE T (dnE U (iX u l))=dnE U (iX u (dnE T l))
    rw [aPr (U:=U),aQf]
theorem bBn {t u:Nat} (l:List V):kW t (kW u l)=kW u (kW t l):=by
  rw [aBa,aBa,aBa,aBa,List.map_map,List.map_map]
  exact List.map_congr_left fun v _=>aLz
theorem aQl {t u:Nat}:∀ {l:List (Nat×List V)},iB t (iB u l)=iB u (iB t l)
  | []=>rfl
  | (n,v)::l=>by simp only [iB,aQl (l:=l),bBn v]
theorem aS8 {u:Nat}:∀ {T:List Nat} {l:List (Nat×List V)},dnB T (iB u l)=iB u (dnB T l)
  | [],l=>rfl
  | t::T,l=>by
    show dnB T (iB t (iB u l))=iB u (dnB T (iB t l))
    rw [aQl,aS8]
theorem aNk {T:List Nat}:∀ {U:List Nat} {l:List (Nat×List V)},dnB T (dnB U l)=dnB U (dnB T l)
  | [],l=>rfl
  | u::U,l=>by
    show dnB T (dnB U (iB u l))=dnB U (iB u (dnB T l))
    rw [aNk (U:=U),aS8]
structure Apart (a b:Ev):Prop where
  d:∀ x,a.d=some x→b.d≠some x
  rt:∀ p ∈ b.rt,a.d≠some p.1
  rb:∀ p ∈ b.rb,named a.wr p.1=false∧named a.nw p.1=false
  wr:∀ p ∈ b.wr,named a.wr p.1=false∧named a.nw p.1=false
  tt:∀ t ∈ a.T,(∀ p ∈ b.rt,a.tt.contains p.1=false)∧(∀ p ∈ b.rb,a.tb.contains p.1=false)
  tok:∀ t ∈ a.T,b.r.noTok t=true∧(∀ p ∈ b.wr,V.noToks t p.2=true)∧∀ p ∈ b.nw,V.noToks t p.2=true
def apart (a b:Ev):Bool :=
  (match a.d with | some x=>b.d != some x | none=>true)&&((b.rt.all fun p=>a.d != some p.1)&&((b.rb.all fun p=>!named a.wr p.1&&!named a.nw p.1)&&((b.wr.all fun p=>!named a.wr p.1&&!named a.nw p.1) &&
  ((a.T.all fun _=>(b.rt.all fun p=>!a.tt.contains p.1)&&b.rb.all fun p=>!a.tb.contains p.1) &&
  (a.T.all fun t=>b.r.noTok t&&((b.wr.all fun p=>V.noToks t p.2)&&b.nw.all fun p=>V.noToks t p.2))))))
theorem aQ1 {a b:Ev} (h:apart a b=true):Apart a b:=by
  simp only [apart,Bool.and_eq_true,List.all_eq_true,Bool.not_eq_true',bne_iff_ne,ne_eq] at h
  obtain ⟨h1,h2,h3,h4,h5,h7⟩:=h
  refine ⟨fun x hx=>?_,h2,h3,h4,h5,h7⟩
  rw [hx] at h1; simpa using h1
structure nW (e b:Ev):Prop where
  fr:∀ x ∈ b.fr,(e.r.noPtr x=true∧(dnV b.T e.r).noTok x=true)∧(∀ p ∈ e.wr,V.noPtrs x p.2=true∧V.noToks x (dnVs b.T p.2)=true)∧∀ p ∈ e.nw,V.noPtrs x p.2=true∧V.noToks x p.2=true
  cl:∀ t ∈ b.T,(dnV b.T e.r).noTok t=true∧(∀ p ∈ e.wr,V.noToks t (dnVs b.T p.2)=true)∧∀ p ∈ e.nw,V.noToks t p.2=true
  tt:∀ t ∈ b.T,∀ x,e.d=some x→b.tt.contains x=true∨e.r.noTok t=true
  tb:∀ t ∈ b.T,∀ p ∈ e.wr,b.tb.contains p.1=true∨V.noToks t p.2=true
def aBz (e b:Ev):Bool :=
  (b.fr.all fun x=>(e.r.noPtr x&&(dnV b.T e.r).noTok x)&&((e.wr.all fun p=>V.noPtrs x p.2&&V.noToks x (dnVs b.T p.2))&&e.nw.all fun p=>V.noPtrs x p.2&&V.noToks x p.2)) &&
  ((b.T.all fun t=>(dnV b.T e.r).noTok t&&((e.wr.all fun p=>V.noToks t (dnVs b.T p.2))&&e.nw.all fun p=>V.noToks t p.2)) &&
  ((b.T.all fun t=>match e.d with | some x=>b.tt.contains x||e.r.noTok t | none=>true)&&b.T.all fun t=>e.wr.all fun p=>b.tb.contains p.1||V.noToks t p.2))
theorem aRs {e b:Ev} (h:aBz e b=true):nW e b:=by
  simp only [aBz,Bool.and_eq_true,List.all_eq_true] at h
  obtain ⟨h1,h2,h3,h4⟩:=h
  refine ⟨h1,h2,fun t ht x hx=>?_,fun t ht p hp=>by simpa using h4 t ht p hp⟩
  have:=h3 t ht
  rw [hx] at this
  simpa using this
theorem aNh:∀ (l:List (Nat×V)) (n:Nat),lk l n=.top∨(n,lk l n) ∈ l
  | [],n=>.inl rfl
  | (m,v)::l,n=>by
    simp only [lk]
    split
    · rename_i e; subst e; exact .inr (by simp)
    · rcases aNh l n with h | h
      · exact .inl h
      · exact .inr (by simp [h])
theorem aDw:∀ {l:List (Nat×List V)} {n:Nat} {c:List V},bget l n=some c→(n,c) ∈ l
  | [],n,c,h=>by simp [bget] at h
  | (m,v)::l,n,c,h=>by
    simp only [bget] at h
    split at h
    · rename_i e; subst e; simp at h; subst h; simp
    · simp [aDw h]
theorem aHs {p:V→Bool}:∀ {l:List (Nat×V)},qC p l=true↔∀ e ∈ l,p e.2=true
  | []=>by simp [qC]
  | (m,v)::l=>by simp [qC,aHs (l:=l)]
theorem aEz {p:V→Bool}:∀ {l:List (Nat×List V)},oQ p l=true↔∀ e ∈ l,e.2.all p=true
  | []=>by simp [oQ]
  | (m,v)::l=>by simp [oQ,aEz (l:=l)]
theorem aRv {n:Nat} {c:List V} {q:Nat×List V}:∀ {l:List (Nat×List V)},q ∈ eH l n c→q ∈ l∨q=(n,c)
  | [],h=>by simp [eH] at h
  | (m,v)::l,h=>by
    simp only [eH] at h
    split at h
    · rename_i e
      subst e
      rcases List.mem_cons.1 h with rfl | h
      · exact .inr rfl
      · exact .inl (by simp [h])
    · rcases List.mem_cons.1 h with rfl | h
      · exact .inl (by simp)
      · rcases aRv h with h | h
        · exact .inl (by simp [h])
        · exact .inr h
theorem aOj {q:Nat×List V}:∀ {wr l:List (Nat×List V)},q ∈ fI l wr→q ∈ l∨q ∈ wr
  | [],l,h=>.inl h
  | p::wr,l,h=>by
    rw [mG] at h
    rcases aOj h with h | h
    · rcases aRv h with h | h
      · exact .inl h
      · exact .inr (by simp [h])
    · exact .inr (by simp [h])
theorem aKj {e:Ev} {s:St} {p:Nat×V} (h:p ∈ (eff e s).env):(e.d=some p.1∧p.2=e.r)∨∃ q ∈ s.env,p=(q.1,dnV e.T q.2):=by
  have h':p ∈ dnE e.T s.env→∃ q ∈ s.env,p=(q.1,dnV e.T q.2):=vY e.T |>.1
  simp only [eff,pY] at h
  split at h
  · rename_i d hd
    rcases List.mem_cons.1 h with rfl | h
    · exact .inl ⟨hd,rfl⟩
    · exact .inr (h' h)
  · exact .inr (h' h)
theorem aF2 {e:Ev} {s:St} {p:Nat×List V} (h:p ∈ (eff e s).bx):p ∈ e.nw∨p ∈ e.wr∨∃ q ∈ s.bx,p=(q.1,dnVs e.T q.2):=by
  rcases List.mem_append.1 h with h | h
  · exact .inl h
  · rcases aOj h with h | h
    · exact .inr (.inr ((aAg e.T).1 h))
    · exact .inr (.inl h)
theorem aL2 {T:List Nat} {n:Nat} {l:List V} (h:V.noToks n l=true):V.noToks n (dnVs T l)=true:=by
  rw [qH,List.all_eq_true] at h
  rw [I5,qH,List.all_eq_true]
  intro v hv
  obtain ⟨u,hu,rfl⟩:=List.mem_map.1 hv
  exact aDa (h u hu)
theorem Z7 {T:List Nat} {n:Nat} {l:List V}:V.noPtrs n (dnVs T l)=V.noPtrs n l:=by
  rw [I5,aBy,aBy,List.all_map]
  congr 1
  funext v
  exact xZ
theorem aIt {T U:List Nat} {t:Nat} {v:V} (h:(dnV T v).noTok t=true):(dnV T (dnV U v)).noTok t=true:=by rw [aK7]; exact aDa h
theorem aOz {T U:List Nat} {t:Nat} {l:List V} (h:V.noToks t (dnVs T l)=true):V.noToks t (dnVs T (dnVs U l))=true:=by
  rw [I5,qH,List.all_map,List.all_eq_true] at h
  rw [I5,I5,qH,List.all_map,List.all_map,List.all_eq_true]
  exact fun v hv=>aIt (h v hv)
theorem Gl.step {e b:Ev} {s:St} (h:Gl b s) (hp:nW e b):Gl b (eff e s):=by
  have fr1:∀ d (l:List (Nat×V)) ,qC (fun v=>v.noPtr d&&v.noTok d) l=true↔∀ p ∈ l,p.2.noPtr d=true∧p.2.noTok d=true:=fun d l=>by
    rw [aHs]; simp
  have fr2:∀ d (l:List (Nat×List V)) ,oQ (fun v=>v.noPtr d&&v.noTok d) l=true↔∀ p ∈ l,V.noPtrs d p.2=true∧V.noToks d p.2=true:=fun d l=>by
    rw [aEz]
    refine forall_congr' fun p=>forall_congr' fun _=>?_
    rw [aBy,qH]
    simp only [List.all_eq_true,Bool.and_eq_true]
    exact ⟨fun h=>⟨fun v hv=>(h v hv).1,fun v hv=>(h v hv).2⟩,fun h v hv=>⟨h.1 v hv,h.2 v hv⟩⟩
  have cl2:∀ t (l:List (Nat×List V)) ,oQ (V.noTok t) l=true↔∀ p ∈ l,V.noToks t p.2=true:=fun t l=>by
    rw [aEz]
    refine forall_congr' fun p=>forall_congr' fun _=>?_
    rw [qH]
  refine ⟨fun d hd=>?_,fun t ht=>?_,fun t ht p hp' hn=>?_,fun t ht p hp' hn=>?_⟩
  · have h0:=h.fr d hd
    obtain ⟨⟨k1,k2⟩,k3,k4⟩:=hp.fr d hd
    simp only [St.fresh,St.dnT,Bool.and_eq_true,fr1,fr2] at h0 ⊢
    refine ⟨fun p hp=>?_,fun p hp=>?_⟩
    · obtain ⟨q,hq,rfl⟩:=(vY b.T).1 hp
      rcases aKj hq with ⟨_,e2⟩ | ⟨q',hq',rfl⟩
      · rw [e2]; exact ⟨xZ.trans k1,k2⟩
      · have:=h0.1 _ ((vY b.T).2 ⟨q',hq',rfl⟩)
        exact ⟨by rw [xZ,xZ]; simpa [xZ] using this.1,aIt this.2⟩
    · obtain ⟨q,hq,rfl⟩:=(aAg b.T).1 hp
      rcases aF2 hq with hw | hw | ⟨q',hq',rfl⟩
      · exact ⟨Z7.trans (k4 q hw).1,aL2 (k4 q hw).2⟩
      · exact ⟨Z7.trans (k3 q hw).1,(k3 q hw).2⟩
      · have:=h0.2 _ ((aAg b.T).2 ⟨q',hq',rfl⟩)
        exact ⟨by rw [Z7,Z7]; simpa [Z7] using this.1,aOz this.2⟩
  · have h0:=h.cl t ht
    obtain ⟨k1,k2,k3⟩:=hp.cl t ht
    simp only [St.clean,St.dnT,Bool.and_eq_true,aHs,cl2] at h0 ⊢
    refine ⟨fun p hp=>?_,fun p hp=>?_⟩
    · obtain ⟨q,hq,rfl⟩:=(vY b.T).1 hp
      rcases aKj hq with ⟨_,e2⟩ | ⟨q',hq',rfl⟩
      · rw [e2]; exact k1
      · exact aIt (h0.1 _ ((vY b.T).2 ⟨q',hq',rfl⟩))
    · obtain ⟨q,hq,rfl⟩:=(aAg b.T).1 hp
      rcases aF2 hq with hw | hw | ⟨q',hq',rfl⟩
      · exact aL2 (k3 q hw)
      · exact k2 q hw
      · exact aOz (h0.2 _ ((aAg b.T).2 ⟨q',hq',rfl⟩))
  · rcases aKj hp' with ⟨e1,e2⟩ | ⟨q',hq',rfl⟩
    · rcases hp.tt t ht p.1 e1 with h1 | h1
      · rw [h1] at hn; simp at hn
      · rw [e2]; exact h1
    · exact aDa (h.tt t ht q' hq' hn)
  · rcases aF2 hp' with hw | hw | ⟨q',hq',rfl⟩
    · exact (hp.cl t ht).2.2 p hw
    · rcases hp.tb t ht p hw with h1 | h1
      · rw [h1] at hn; simp at hn
      · exact h1
    · exact aL2 (h.tb t ht q' hq' hn)
theorem qE {e:Ev} {s:St} {n:Nat} (h:e.d≠some n):lk (eff e s).env n=dnV e.T (lk s.env n):=by
  simp only [eff,pY]
  split
  · rename_i d hd
    rw [hd] at h
    simp only [lk]
    rw [if_neg (fun e=>h (by rw [e]))]
    exact zY _ _ _
  · exact zY _ _ _
theorem aP2:∀ {l m:List (Nat×List V)} {n:Nat},named l n=false→bget (l++m) n=bget m n
  | [],_,_,_=>rfl
  | (k,c)::l,m,n,h=>by
    simp only [named,List.any_cons,Bool.or_eq_false_iff,beq_eq_false_iff_ne,ne_eq] at h
    simp only [List.cons_append,Go.Ab.bget,if_neg (fun e:n=k=>h.1 e.symm)]
    exact aP2 h.2
theorem aRo {e:Ev} {s:St} {n:Nat} (h:named e.nw n=false) (hw:named e.wr n=false):bget (eff e s).bx n=(bget s.bx n).map (dnVs e.T):=by
  show bget (e.nw++fI (dnB e.T s.bx) e.wr) n=_
  rw [aP2 h,aNn hw]; exact vP _ _ _
theorem Apart.lk {a b:Ev} {s:St} (h:Apart a b) (hg:Gl a s) {p:Nat×V} (hp:p ∈ b.rt):Go.Ab.lk (eff a s).env p.1=Go.Ab.lk s.env p.1:=by
  rw [qE (h.rt p hp)]
  refine aBe fun t ht=>?_
  rcases aNh s.env p.1 with e | e
  · rw [e]; rfl
  · exact hg.tt t ht _ e ((h.tt t ht).1 p hp)
theorem Apart.bget {a b:Ev} {s:St} (h:Apart a b) (hg:Gl a s) {p:Nat×List V} (hp:p ∈ b.rb):Go.Ab.bget (eff a s).bx p.1=Go.Ab.bget s.bx p.1:=by
  rw [aRo (h.rb p hp).2 (h.rb p hp).1]
  cases hb:Go.Ab.bget s.bx p.1 with
  | none=>rfl
  | some c =>
    rw [Option.map_some,aC2 fun t ht=>hg.tb t ht _ (aDw hb) ((h.tt t ht).2 p hp)]
theorem Apart.rd {a b:Ev} {s:St} (h:Apart a b) (hg:Gl a s):Rd b (eff a s)↔Rd b s:=by
  have hw:∀ p ∈ b.wr,(Go.Ab.bget (eff a s).bx p.1).isSome=(Go.Ab.bget s.bx p.1).isSome:=fun p hp=>by
    rw [aRo (h.wr p hp).2 (h.wr p hp).1]; simp
  constructor
  · exact fun k=>⟨fun p hp=>(h.lk hg hp).symm.trans (k.rt p hp),fun p hp=>(h.bget hg hp).symm.trans (k.rb p hp),fun p hp=>(hw p hp).symm.trans (k.wr p hp)⟩
  · exact fun k=>⟨fun p hp=>(h.lk hg hp).trans (k.rt p hp),fun p hp=>(h.bget hg hp).trans (k.rb p hp),fun p hp=>(hw p hp).trans (k.wr p hp)⟩
theorem Rd.eqv {e:Ev} {s s':St} (h:Eqv s s') (k:Rd e s):Rd e s':=⟨fun p hp=>(h.lk p.1).symm.trans (k.rt p hp),fun p hp=>(h.bx p.1).symm.trans (k.rb p hp),fun p hp=>by rw [← h.bx]; exact k.wr p hp⟩
theorem vO : ∀ {l m : List (Nat × List V)} {n : Nat}, bget (l ++ m) n = match bget l n with
    | some c=>some c
    | none=>bget m n
  | [],_,_=>rfl
  | (a,c)::l,m,n=>by
    simp only [List.cons_append,bget]
    split
    · rfl
    · exact vO
theorem aS2:∀ {wr l l':List (Nat×List V)},(∀ n,bget l n=bget l' n)→∀ n,bget (fI l wr) n=bget (fI l' wr) n
  | [],_,_,h,n=>h n
  | p::wr,l,l',h,n=>by
    rw [mG,mG]
    exact aS2 (fun m=>by rw [P6,P6,h,h]) n
theorem aIo:∀ {l:List (Nat×List V)} {n:Nat} {c:List V},bget l n=some c→∃ p ∈ l,p.1=n
  | (a,d)::l,n,c,h=>by
    simp only [bget] at h
    split at h
    · rename_i e; exact ⟨(a,d),by simp,e.symm⟩
    · obtain ⟨p,hp,e⟩:=aIo h; exact ⟨p,by simp [hp],e⟩
theorem aMh {e:Ev} {s s':St} (h:Eqv s s'):Eqv (eff e s) (eff e s'):=by
  refine ⟨fun n=>?_,fun p=>?_,fun n=>by
    simp only [eff]
    rw [vO,vO,aS2 (l:=dnB e.T s.bx) (l':=dnB e.T s'.bx) (fun m=>by rw [vP,vP,h.bx]) n]⟩
  · by_cases hd:e.d=some n
    · simp [eff,pY,hd,Go.Ab.lk]
    · rw [qE hd,qE hd,h.lk]
  · have hm : p ∈ dnE e.T s.env ↔ p ∈ dnE e.T s'.env := by
      rw [vY,vY]
      exact ⟨fun ⟨q,hq,e⟩=>⟨q,(h.env q).1 hq,e⟩,fun ⟨q,hq,e⟩=>⟨q,(h.env q).2 hq,e⟩⟩
    cases hd:e.d <;> simp [eff,pY,hd,hm]
theorem aPu {n:Nat} {c:List V}:∀ {l m:List (Nat×List V)},named l n=false→eH (l++m) n c=l++eH m n c
  | [],_,_=>rfl
  | (k,d)::l,m,h=>by
    simp only [named,List.any_cons,Bool.or_eq_false_iff,beq_eq_false_iff_ne,ne_eq] at h
    simp only [List.cons_append,eH,if_neg (fun e:n=k=>h.1 e.symm)]
    rw [aPu h.2]
theorem aJ1:∀ {wr l m:List (Nat×List V)},(∀ p ∈ wr,named l p.1=false)→fI (l++m) wr=l++fI m wr
  | [],_,_,_=>rfl
  | p::wr,l,m,h=>by rw [mG,mG,aPu (h p (by simp)),aJ1 fun q hq=>h q (by simp [hq])]
theorem aIy:∀ {T:List Nat},dnB T []=[]
  | []=>rfl
  | _::T=>aIy (T:=T)
theorem aEw {T:List Nat}:∀ {l m:List (Nat×List V)},dnB T (l++m)=dnB T l++dnB T m
  | [],m=>by rw [aIy]; rfl
  | (k,d)::l,m=>by rw [List.cons_append,aGk,aGk,aEw]; rfl
theorem aK1 {T:List Nat}:∀ {l:List (Nat×List V)},(∀ p ∈ l,∀ t ∈ T,V.noToks t p.2=true)→dnB T l=l
  | [],_=>aIy
  | (k,d)::l,h=>by rw [aGk,aC2 fun t ht=>h (k,d) (by simp) t ht,aK1 fun p hp=>h p (by simp [hp])]
theorem aYk {a b:Ev} (h:Apart a b) (k:Apart b a) (hn:∀ p ∈ a.nw,named b.nw p.1=false) (s:St):Eqv (eff b (eff a s)) (eff a (eff b s)):=by
  have ra:dnV b.T a.r=a.r:=aBe fun t ht=>(k.tok t ht).1
  have rb:dnV a.T b.r=b.r:=aBe fun t ht=>(h.tok t ht).1
  have wa:∀ p ∈ a.wr,dnVs b.T p.2=p.2:=fun p hp=>aC2 fun t ht=>(k.tok t ht).2.1 p hp
  have wb:∀ p ∈ b.wr,dnVs a.T p.2=p.2:=fun p hp=>aC2 fun t ht=>(h.tok t ht).2.1 p hp
  refine ⟨fun n=>?_,fun p=>?_,?_⟩
  · by_cases ha:a.d=some n
    · have hb:b.d≠some n:=h.d n ha
      rw [qE hb]
      simp only [eff,pY,ha,Go.Ab.lk,if_true,ra]
    · by_cases hb:b.d=some n
      · rw [qE ha]
        simp only [eff,pY,hb,Go.Ab.lk,if_true,rb]
      · rw [qE hb,qE ha,qE ha,qE hb,aK7]
  · cases ha:a.d <;> cases hb:b.d <;> simp only [eff,pY,ha,hb,bDc,ra,rb,List.mem_cons,aPr (T:=a.T) (U:=b.T)]
    exact ⟨fun h=>by rcases h with h | h | h <;> simp [h],fun h=>by rcases h with h | h | h <;> simp [h]⟩
  · have hwa:∀ p ∈ a.wr,named b.wr p.1=false:=fun p hp=>(k.wr p hp).1
    have core:fI (dnB b.T (fI (dnB a.T s.bx) a.wr)) b.wr=fI (dnB a.T (fI (dnB b.T s.bx) b.wr)) a.wr:=by
      rw [aIw wa,aIw wb,aNk,aRu hwa]
    have e1:(eff b (eff a s)).bx=b.nw++(a.nw++fI (dnB a.T (fI (dnB b.T s.bx) b.wr)) a.wr):=by
      show b.nw++fI (dnB b.T (a.nw++fI (dnB a.T s.bx) a.wr)) b.wr=_
      rw [aEw,aK1 (T:=b.T) fun p hp t ht=>(k.tok t ht).2.2 p hp,aJ1 fun p hp=>(h.wr p hp).2,core]
    have e2:(eff a (eff b s)).bx=a.nw++(b.nw++fI (dnB a.T (fI (dnB b.T s.bx) b.wr)) a.wr):=by
      show a.nw++fI (dnB a.T (b.nw++fI (dnB b.T s.bx) b.wr)) a.wr=_
      rw [aEw,aK1 (T:=a.T) fun p hp t ht=>(h.tok t ht).2.2 p hp,aJ1 fun p hp=>(k.wr p hp).2]
    intro n
    rw [e1,e2,vO,vO,vO (l:=a.nw),vO (l:=b.nw)]
    cases ha:bget a.nw n with
    | none=>rfl
    | some c =>
      cases hb:bget b.nw n with
      | none=>rfl
      | some d =>
        exfalso
        obtain ⟨p,hp,e⟩:=aIo ha
        obtain ⟨q,hq,e'⟩:=aIo hb
        have:=hn p hp
        simp only [named,List.any_eq_false,beq_iff_eq] at this
        exact this q hq (by rw [e,e'])
def Seq:List Ev→St→Prop
  | [],_=>True
  | e::l,s=>Rd e s∧Seq l (eff e s)
def fin:List Ev→St→St
  | [],s=>s
  | e::l,s=>fin l (eff e s)
theorem Seq.eqv:∀ {l:List Ev} {s s':St},Eqv s s'→Seq l s→Seq l s'
  | [],_,_,_,_=>trivial
  | _::_,_,_,h,k=>⟨k.1.eqv h,k.2.eqv (aMh h)⟩
theorem aSg:∀ {l:List Ev} {s s':St},Eqv s s'→Eqv (fin l s) (fin l s')
  | [],_,_,h=>h
  | _::l,_,_,h=>aSg (l:=l) (aMh h)
def Comm (a b:Ev):Prop:=Apart a b∧Apart b a∧∀ p ∈ a.nw,named b.nw p.1=false
theorem Seq.front : ∀ {l1 l2 : List Ev} {e : Ev} {s : St}, Seq (l1 ++ e :: l2) s → (∀ f ∈ l1, Comm f e) → Gl e s → (∀ f ∈ l1, Gl f s) → (∀ f ∈ l1, nW f e) → l1.Pairwise nW →
    Rd e s∧Seq (l1++l2) (eff e s)∧Eqv (fin (l1++e::l2) s) (fin (l1++l2) (eff e s)):=by
  intro l1
  induction l1 with
  | nil=>exact fun h _ _ _ _ _=>⟨h.1,h.2,Eqv.refl _⟩
  | cons f l1 ih =>
    intro l2 e s h hc hg hgs hp hpw
    obtain ⟨c1,c2,c3⟩:=hc f (by simp)
    rw [List.pairwise_cons] at hpw
    obtain ⟨r1,r2,r3⟩:=ih (l2:=l2) (e:=e) h.2 (fun g hg=>hc g (by simp [hg])) (hg.step (hp f (by simp))) (fun g hg'=>(hgs g (by simp [hg'])).step (hpw.1 g hg')) (fun g hg'=>hp g (by simp [hg'])) hpw.2
    have hf:=hgs f (by simp)
    have e1:Rd e s:=(c1.rd hf).1 r1
    have sw:=aYk c1 c2 c3 s
    exact ⟨e1,⟨(c2.rd hg).2 h.1,r2.eqv sw⟩,r3.trans (aSg sw)⟩
end Go.Ab
