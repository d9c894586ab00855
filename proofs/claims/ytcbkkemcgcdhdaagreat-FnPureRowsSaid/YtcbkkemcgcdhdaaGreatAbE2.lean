/- Regions whose order is drawn: events that are right,in whatever order. -/
import Derived.Test.YtcbkkemcgcdhdaaGreatAbE1
import Derived.Test.YtcbkkemcgcdhdaaGreatAbD1
import Derived.Orders
namespace Go.Ab
open Go Go.RowKit
open _root_.Bool renaming and_eq_true→QA,or_eq_true→QG
open _root_.List renaming all_eq_true→QB,mem_map→QC,pairwise_append→QE,mem_append→QF,getElem?_map→QH,mem_of_getElem?→QI,pairwise_cons→QK,mem_cons→QL,mem_filter→QM
open _root_.Array renaming getD_eq_getD_getElem?→QD,getElem?_toList→QJ,any_eq_true'→QN,getElem?_eq_some_iff→QO
def nG (P:Program) (e:Ev):Prop:=∀ s,Rd e s→Gl e s→aop P s (fun s'=>s'=eff e s) e.o
def waits (ops:Array Oper) (i j:Nat):Bool :=
  match ops[i]? with
  | some o=>o.after.any fun e=>Region.binds .any e&&e.on==j
  | none=>false
theorem cC9 {ops:Array Oper} {i j:Nat} {o:Oper} (ho:ops[i]?=some o) (h:waits ops i j=true):∃ e∈o.after,Region.binds .any e=true∧e.on=j:=by
  unfold waits at h
  rw [ho] at h
  obtain ⟨e,he,hb⟩:=QN.1 h
  simp only [QA,beq_iff_eq] at hb
  exact ⟨e,he,hb.1,hb.2⟩
inductive Wt (ops:Array Oper):Nat→Nat→Prop where
  | dir {i j:Nat}:waits ops i j=true→Wt ops i j
  | tr {i k j:Nat}:waits ops i k=true→Wt ops k j→Wt ops i j
theorem Wt.listed {ops:Array Oper} {listed:Array Bool} (hcl:∀ i j,listed.getD i false=true→waits ops i j=true→listed.getD j false=true) {i j:Nat} (h:Wt ops i j):listed.getD i false=true→listed.getD j false=true:=by
  induction h with
  | dir h=>exact fun hi=>hcl _ _ hi h
  | tr h _ ih=>exact fun hi=>ih (hcl _ _ hi h)
theorem bCg {listed:Array Bool} {j:Nat} (hj:j<listed.size):listed.getD j true=listed.getD j false:=by
  simp [QD,hj]
theorem ready_nil {ops:Array Oper} {listed:Array Bool} (hsz:listed.size=ops.size) (hback:∀ i o e,ops[i]?=some o→e∈o.after→Region.binds .any e=true→e.on<i)
    (h:Region.ready .any ops listed=[]):∀ j<ops.size,listed.getD j false=true:=by
  intro j
  induction j using Nat.strongRecOn with
  | _ j ih =>
    intro hj
    cases hl:listed.getD j false with
    | true=>rfl
    | false =>
      exfalso
      have ho:ops[j]?=some ops[j]:=by simp [hj]
      have:j∈Region.ready .any ops listed:=mem_ready.2 ⟨by rw [bCg (by omega)]; exact hl,ops[j],ho,fun e he hb=>by
        have:=hback j _ e ho he hb
        exact ih e.on this (by omega)⟩
      rw [h] at this; simp at this
theorem Ok.same {E:Entry} {N:Nat} {κ:Ctx} {w:World} {a:Act} {s s':St} (h:Ok E N κ w a s) (h1:∀ t,lk s'.env t=lk s.env t) (h2:∀ n,bget s'.bx n=bget s.bx n):Ok E N κ w a s':=by
  have g:=h.good
  exact ⟨h.size,h.defers,fun n=>by rw [h1]; exact h.env n,g.frm,g.mem,fun n c hc=>g.box n c ((h2 n).symm.trans hc),fun n hn=>g.blk n (by rw [← h2]; exact hn),fun n n' b hn hn'=>g.inj n n' b (by rw [← h2]; exact hn) (by rw [← h2]; exact hn'),
    fun t o ho=>⟨(g.own t o ho).1,fun b hb=>⟨((g.own t o ho).2 b hb).1,fun n hn=>((g.own t o ho).2 b hb).2 n (by rw [← h2]; exact hn)⟩⟩,g.ownInj,g.tab,g.tabx⟩
theorem bHn {P:Program} {ops:Array Oper} {Q:Exit→Act→World→Prop} {E:Entry} {N:Nat} (hfb:∀ n∈E.fb,N≤n∧n<NX) (hback:∀ i o e,ops[i]?=some o→e∈o.after→Region.binds .any e=true→e.on<i) :
    ∀ (n:Nat) (rem:List (Nat×Ev)) (listed:Array Bool) (κ:Ctx) (a:Act) (w:World) (s:St),rem.length=n→listed.size=ops.size→(∀ j<ops.size,listed.getD j false=false↔∃ p∈rem,p.1=j) →
    (∀ p∈rem,p.1<ops.size) →
    (∀ p∈rem,∀ o,ops[p.1]?=some o→aG7 P (fun j=>(ops[j]?).bind (·.dst)) o=some p.2.o∧p.2.o.fits N=true)→(∀ p∈rem,nG P p.2)→rem.Pairwise (fun p q=>p.1≠q.1) →
    rem.Pairwise (fun p q=>(Wt ops q.1 p.1∨Comm p.2 q.2)∧yF p.2 q.2∧(Wt ops q.1 p.1∨yF q.2 p.2))→(∀ i j,listed.getD i false=true→waits ops i j=true→listed.getD j false=true)→(∀ p∈rem,Gl p.2 s)→Seq (rem.map (·.2)) s→Ok E N κ w a s →
    (∀ κ a w,Ok E N κ w a (fin (rem.map (·.2)) s)→Q .normal a w)→wpAny P .any ops Q n listed a w
  | 0,rem,listed,κ,a,w,s,hn,hsz,hl,_,_,_,_,_,_,_,_,hok,hQ=>by
    have:rem=[]:=List.eq_nil_of_length_eq_zero hn
    subst this
    refine ⟨List.eq_nil_iff_forall_not_mem.2 fun j hj=>?_,hQ κ a w hok⟩
    obtain ⟨hu,o,ho,_⟩:=mem_ready.1 hj
    have hlt:j<ops.size:=(QO.1 ho).1
    rw [bCg (by omega)] at hu
    obtain ⟨p,hp,_⟩:=(hl j hlt).1 hu
    simp at hp
  | n+1,rem,listed,κ,a,w,s,hn,hsz,hl,hlt,hops,hev,hne,hpw,hcl,hgl,hseq,hok,hQ=>by
    refine ⟨fun h=>?_,fun i hi=>?_⟩
    · exfalso
      cases rem with
      | nil=>simp at hn
      | cons p rem =>
        have h1:=ready_nil hsz hback h p.1 (hlt p (by simp))
        have h2:=(hl p.1 (hlt p (by simp))).2 ⟨p,by simp,rfl⟩
        rw [h1] at h2; simp at h2
    · obtain ⟨hu,oi,hoi,hall⟩:=mem_ready.1 hi
      have hilt:i<ops.size:=(QO.1 hoi).1
      rw [bCg (by omega)] at hu
      obtain ⟨p,hp,rfl⟩:=(hl i hilt).1 hu
      obtain ⟨l1,l2,rfl⟩:=List.append_of_mem hp
      have hrd:∀ j,waits ops p.1 j=true→listed.getD j false=true:=fun j hw=>by
        obtain ⟨e,he,hb,hon⟩:=cC9 hoi hw
        have h1:=hall e he hb
        rw [hon] at h1
        exact h1
      have hnw:∀ q∈l1,¬ Wt ops p.1 q.1:=fun q hq hw=>by
        have h1:listed.getD q.1 false=true:=by
          cases hw with
          | dir h=>exact hrd _ h
          | tr h h'=>exact h'.listed hcl (hrd _ h)
        have h2:=(hl q.1 (hlt q (by simp [hq]))).2 ⟨q,by simp [hq],rfl⟩
        rw [h1] at h2; simp at h2
      rw [QE] at hpw
      obtain ⟨pw1,pw2,pw12⟩:=hpw
      rw [QK] at pw2
      have hcm:∀ q∈l1,Comm q.2 p.2∧yF q.2 p.2∧yF p.2 q.2:=fun q hq=>by
        have:=pw12 q hq p (by simp)
        have hf:=hnw q hq
        exact ⟨this.1.resolve_left hf,this.2.1,this.2.2.resolve_left hf⟩
      have hfr:=Seq.front (l1:=l1.map (·.2)) (l2:=l2.map (·.2)) (e:=p.2) (s:=s) (by simpa using hseq)
        (fun f hf=>by obtain ⟨q,hq,rfl⟩:=QC.1 hf; exact (hcm q hq).1) (hgl p hp) (fun f hf=>by obtain ⟨q,hq,rfl⟩:=QC.1 hf; exact hgl q (by simp [hq]))
        (fun f hf=>by obtain ⟨q,hq,rfl⟩:=QC.1 hf; exact (hcm q hq).2.1) (by rw [List.pairwise_map]; exact pw1.imp fun h=>h.2.1)
      obtain ⟨r1,r2,r3⟩:=hfr
      have haop:=hev p hp s r1 (hgl p hp)
      obtain ⟨htr,hfit⟩:=hops p hp oi hoi
      have hgN:∀ t b x,p.2.o=.g t b x→t<N:=fun t b y hy=>by rw [hy] at hfit; simp only [AOp.fits,QA,decide_eq_true_eq] at hfit; exact hfit.1
      have:=bFe (ops:=ops) (Q:=Q) (K':=wpAny P .any ops Q n (listed.setIfInBounds p.1 true)) htr (AOp.fits_dst hfit) hgN hfb hok haop ?_
      · unfold wpOp
        simp only [hoi]
        exact this
      · rintro a' w' ⟨κ',s',rfl,hok'⟩
        rw [QE] at hne
        have hne2:=hne.2.1
        rw [QK] at hne2
        refine bHn hfb hback n (l1++l2) _ κ' a' w' _ (by simp at hn ⊢; omega) (by simp [hsz]) (fun j hj=>?_) (fun q hq=>hlt q (by simp at hq ⊢; rcases hq with h | h <;> simp [h])) (fun q hq=>hops q (by simp at hq ⊢; rcases hq with h | h <;> simp [h])) (fun q hq=>hev q (by simp at hq ⊢; rcases hq with h | h <;> simp [h]))
          (QE.2 ⟨hne.1,hne2.2,fun q hq q' hq'=>hne.2.2 q hq q' (by simp [hq'])⟩) (QE.2 ⟨pw1,pw2.2,fun q hq q' hq'=>pw12 q hq q' (by simp [hq'])⟩) (fun i j hi hw=>?_) (fun q hq=>?_) (by simpa using r2) hok' (fun κ a w hok=>?_)
        · by_cases hji:j=p.1
          · subst hji
            have:(listed.setIfInBounds p.1 true).getD p.1 false=true:=by simp [QD,hsz,hilt]
            rw [this]
            constructor
            · intro h; simp at h
            · rintro ⟨q,hq,e⟩
              exfalso
              rcases QF.1 hq with h | h
              · exact hne.2.2 q h p (by simp) e
              · exact hne2.1 q h e.symm
          · rw [getD_set_ne false (Ne.symm hji),hl j hj]
            constructor
            · rintro ⟨q,hq,rfl⟩
              rcases QF.1 hq with h | h
              · exact ⟨q,by simp [h],rfl⟩
              · rcases QL.1 h with rfl | h
                · exact absurd rfl hji
                · exact ⟨q,by simp [h],rfl⟩
            · rintro ⟨q,hq,rfl⟩
              rcases QF.1 hq with h | h
              · exact ⟨q,by simp [h],rfl⟩
              · exact ⟨q,by simp [h],rfl⟩
        · by_cases hji:j=p.1
          · subst hji; simp [QD,hsz,hilt]
          · rw [getD_set_ne false (Ne.symm hji)]
            by_cases hii:i=p.1
            · subst hii; exact hrd _ hw
            · rw [getD_set_ne false (Ne.symm hii)] at hi
              exact hcl _ _ hi hw
        · rcases QF.1 hq with h | h
          · exact (hgl q (by simp [h])).step (hcm q h).2.2
          · exact (hgl q (by simp [h])).step (pw2.1 q h).2.1
        · refine hQ κ a w (hok.same (fun t=>?_) ?_)
          · have:=r3.lk t
            simpa using this
          · intro m
            have:=r3.bx m
            simpa using this
def aBz (w:List (List Nat)) (j i:Nat):Bool:=((w[j]?).getD []).contains i
def xG (w:List (List Nat)):Nat→Nat→Nat→Bool
  | 0,_,_=>false
  | f+1,j,i=>((w[j]?).getD []).contains i||((w[j]?).getD []).any fun k=>xG w f k i
def bBq (a b:Ev):Bool:=apart a b&&(apart b a&&a.nw.all fun p=>!named b.nw p.1)
theorem cJd {a b:Ev} (h:bBq a b=true):Comm a b:=by
  simp only [bBq,QA,QB,Bool.not_eq_true'] at h
  exact ⟨bJ2 h.1,bJ2 h.2.1,h.2.2⟩
def aGk (w:List (List Nat)):List (Nat×Ev)→Bool
  | []=>true
  | p::l=>(l.all fun q=>(aBz w q.1 p.1||(bBq p.2 q.2||xG w 6 q.1 p.1))&&(aN6 p.2 q.2&&(aBz w q.1 p.1||(aN6 q.2 p.2||xG w 6 q.1 p.1))))&&aGk w l
def glB (s:St) (e:Ev):Bool :=
  (e.fr.all fun d=>(s.dnT e.T).fresh d) &&
  ((e.T.all fun t=>(s.dnT e.T).clean t)&&((e.T.all fun t=>s.env.all fun p=>e.tt.contains p.1||p.2.noTok t)&&(e.T.all fun t=>s.bx.all fun p=>e.tb.contains p.1||V.noToks t p.2)))
theorem bRj {s:St} {e:Ev} (h:glB s e=true):Gl e s:=by
  simp only [glB,QA,QB,QG] at h
  obtain ⟨h1,h2,h3,h4⟩:=h
  refine ⟨h1,h2,fun t ht p hp hn=>?_,fun t ht p hp hn=>?_⟩
  · rcases h3 t ht p hp with h | h
    · rw [h] at hn; simp at hn
    · exact h
  · rcases h4 t ht p hp with h | h
    · rw [h] at hn; simp at hn
    · exact h
def dgo (P:Program) (K:List Ev→St→Prop):List AOp→List Ev→St→Prop
  | [],acc,s=>K acc.reverse s
  | o::l,acc,s=>∃ e,e.o=o∧nG P e∧Rd e s∧dgo P K l (e::acc) (eff e s)
def qG:Nat→List Ev→List (Nat×Ev)
  | _,[]=>[]
  | n,e::l=>(n,e)::qG (n+1) l
def K5 (w:List (List Nat)) (s:St) (Q:St→Prop) (es:List Ev) (s':St):Prop:=es.all (glB s)=true∧aGk w (qG 0 es)=true∧Q s'
theorem aUn:∀ (n:Nat) (l:List Ev),(qG n l).map (·.2)=l
  | _,[]=>rfl
  | n,e::l=>by simp [qG,aUn (n+1) l]
theorem bIu:∀ (n:Nat) (l:List Ev),(qG n l).length=l.length
  | _,[]=>rfl
  | n,e::l=>by simp [qG,bIu (n+1) l]
theorem aEp:∀ {n:Nat} {l:List Ev} {p:Nat×Ev},p∈qG n l→n≤p.1∧l[p.1 - n]?=some p.2
  | _,[],_,h=>by simp [qG] at h
  | n,e::l,p,h=>by
    rcases QL.1 h with rfl | h
    · simp
    · obtain ⟨h1,h2⟩:=aEp h
      refine ⟨by omega,?_⟩
      rw [show p.1 - n=(p.1 - (n+1))+1 by omega]
      exact h2
theorem bEr:∀ {n:Nat} {l:List Ev} {i:Nat} {e:Ev},l[i]?=some e→(n+i,e)∈qG n l
  | _,[],_,_,h=>by simp at h
  | n,e::l,i,e',h=>by
    cases i with
    | zero=>simp at h; subst h; simp [qG]
    | succ i =>
      have:=bEr (n:=n+1) (l:=l) (i:=i) (by simpa using h)
      rw [show n+(i+1)=n+1+i by omega]
      simp [qG,this]
theorem bFc:∀ (n:Nat) (l:List Ev),(qG n l).Pairwise (fun p q=>p.1≠q.1)
  | _,[]=>.nil
  | n,e::l=>.cons (fun q hq=>by have:=(aEp hq).1; dsimp only; omega) (bFc (n+1) l)
theorem bIf {w:List (List Nat)} {j i:Nat} (h:aBz w j i=true):xG w 6 j i=true:=by
  unfold aBz at h
  rw [xG,h]; rfl
theorem bEh {w:List (List Nat)}:∀ {l:List (Nat×Ev)},aGk w l=true→l.Pairwise fun p q=>(xG w 6 q.1 p.1=true∨Comm p.2 q.2)∧yF p.2 q.2∧(xG w 6 q.1 p.1=true∨yF q.2 p.2)
  | [],_=>.nil
  | p::l,h=>by
    simp only [aGk,QA,QB,QG] at h
    refine .cons (fun q hq=>?_) (bEh h.2)
    obtain ⟨h1,h2,h3⟩:=h.1 q hq
    exact ⟨h1.elim (fun h=>.inl (bIf h)) fun h=>h.elim (fun h=>.inr (cJd h)) .inl,bMu h2,h3.elim (fun h=>.inl (bIf h)) fun h=>h.elim (fun h=>.inr (bMu h)) .inl⟩
theorem bEz {P:Program} {K:List Ev→St→Prop}:∀ {l:List AOp} {acc:List Ev} {s:St},dgo P K l acc s→∃ es,es.map (·.o)=l∧(∀ e∈es,nG P e)∧Seq es s∧K (acc.reverse++es) (fin es s)
  | [],acc,s,h=>⟨[],rfl,by simp,trivial,by rw [List.append_nil]; exact h⟩
  | o::l,acc,s,⟨e,he,h1,h2,h3⟩=>by
    obtain ⟨es,k1,k2,k3,k4⟩:=bEz h3
    exact ⟨e::es,by simp [he,k1],by simpa using ⟨h1,k2⟩,⟨h2,k3⟩,by rw [List.reverse_cons,List.append_assoc] at k4; exact k4⟩
def D5 (ops:Array Oper):List (List Nat):=ops.toList.map fun o=>(o.after.toList.filter fun e=>Region.binds .any e).map (·.on)
def aK4 (w:List (List Nat)):Nat→List (List Nat)→Bool
  | _,[]=>true
  | n,l::r=>(l.all fun j=>decide (j<n))&&aK4 w (n+1) r
theorem bMy {w0:List (List Nat)}:∀ {n:Nat} {w:List (List Nat)} {i:Nat} {l:List Nat},aK4 w0 n w=true→w[i]?=some l→∀ j∈l,j<n+i
  | _,[],_,_,_,h=>by simp at h
  | n,l'::r,i,l,hb,h=>by
    simp only [aK4,QA,QB,decide_eq_true_eq] at hb
    cases i with
    | zero=>simp at h; subst h; exact hb.1
    | succ i =>
      intro j hj
      have:=bMy hb.2 (by simpa using h) j hj
      omega
theorem bE6 {ops:Array Oper} {i j:Nat} (h:aBz (D5 ops) i j=true):waits ops i j=true:=by
  simp only [aBz,D5,QH,List.contains_eq_mem,decide_eq_true_eq] at h
  unfold waits
  rw [← QJ]
  cases ho:ops.toList[i]? with
  | none=>rw [ho] at h; simp at h
  | some o =>
    rw [ho] at h
    simp only [Option.map_some,Option.getD_some,QC,QM] at h
    obtain ⟨e,⟨he,hb⟩,rfl⟩:=h
    exact QN.2 ⟨e,by simpa using he,by simp [hb]⟩
theorem aUd {ops:Array Oper}:∀ {f i j:Nat},xG (D5 ops) f i j=true→Wt ops i j
  | 0,_,_,h=>by simp [xG] at h
  | f+1,i,j,h=>by
    rw [xG,QG,List.any_eq_true] at h
    rcases h with h | ⟨k,hk,h⟩
    · exact .dir (bE6 h)
    · exact .tr (bE6 (by unfold aBz; simpa using hk)) (aUd h)
theorem cKu {P:Program} {ops:Array Oper} {Q:Exit→Act→World→Prop} {Qa:St→Prop} {E:Entry} {N:Nat} {id:Nat} {l:List AOp} {κ:Ctx} {a:Act} {w:World} {s:St} (hfb:∀ n∈E.fb,N≤n∧n<NX) (hm:P.follows .mixedOrders=true)
    (hb:aK4 [] 0 (D5 ops)=true) (htr:yA P (fun j=>(ops[j]?).bind (·.dst)) ops.toList=some l) (hfit:l.all (·.fits N)=true) (hok:Ok E N κ w a s) (hv:dgo P (K5 (D5 ops) s Qa) l [] s)
    (hQ:∀ κ a w s,Qa s→Ok E N κ w a s→Q .normal a w):(Code.region id ops true).wp P Q a w:=by
  obtain ⟨es,h1,h2,h3,h4,h5,h6⟩:=bEz hv
  simp only [List.reverse_nil,List.nil_append] at h4 h5
  have htrL:∀ {l:List Oper} {al:List AOp},yA P (fun j=>(ops[j]?).bind (·.dst)) l=some al→al.length=l.length∧∀ (i:Nat) (o:Oper),l[i]?=some o→∃ x,al[i]?=some x∧aG7 P (fun j=>(ops[j]?).bind (·.dst)) o=some x:=by
    intro l
    induction l with
    | nil=>intro al h; simp [yA] at h; subst h; exact ⟨rfl,fun i o h=>by simp at h⟩
    | cons o l ih =>
      intro al h
      simp only [yA] at h
      split at h <;> simp at h
      rename_i x xs hx hxs
      subst h
      obtain ⟨h1,h2⟩:=ih hxs
      refine ⟨by simp [h1],fun i o' ho'=>?_⟩
      cases i with
      | zero=>simp at ho'; subst ho'; exact ⟨x,rfl,hx⟩
      | succ i=>simpa using h2 i o' (by simpa using ho')
  obtain ⟨hlen,hat⟩:=htrL htr
  have hel:es.length=ops.size:=by rw [← List.length_map (f:=fun e:Ev=>e.o),h1,hlen]; simp
  refine wp_region_any hm ?_
  have hrem:(qG 0 es).length=ops.size:=by rw [bIu,hel]
  have:=bHn (P:=P) (ops:=ops) (Q:=Q) (E:=E) (N:=N) hfb (fun i o e ho he hbn=>?_) ops.size (qG 0 es) (Array.replicate ops.size false) κ a { w with drawn:=w.drawn+1 } s hrem (by simp) (fun j hj=>?_) (fun p hp=>?_) (fun p hp o ho=>?_) (fun p hp=>?_) (bFc 0 es) ((bEh h5).imp fun h=>⟨h.1.imp aUd (fun h=>h),h.2.1,h.2.2.imp aUd (fun h=>h)⟩) (fun i j hi _=>by simp [QD,Array.getElem?_replicate] at hi; split at hi <;> simp at hi) (fun p hp=>?_) (by rw [aUn]; exact h3) (hok.ofHeap rfl rfl rfl rfl) (fun κ a w hok=>by rw [aUn] at hok; exact hQ κ a w _ h6 hok)
  · exact this
  · have hl:(D5 ops)[i]?=some ((o.after.toList.filter fun e=>Region.binds .any e).map (·.on)):=by
      unfold D5
      rw [QH,QJ,ho]; rfl
    have:=bMy hb hl e.on (QC.2 ⟨e,QM.2 ⟨by simpa using he,hbn⟩,rfl⟩)
    omega
  · constructor
    · intro _
      have hj':j<es.length:=by omega
      exact ⟨(j,es[j]),by have:=bEr (n:=0) (l:=es) (i:=j) (e:=es[j]) (by simp [hj']); simpa using this,rfl⟩
    · intro _; simp [QD,hj]
  · have:=(aEp hp).2
    have:=(List.getElem?_eq_some_iff.1 this).1
    omega
  · have h7:=(aEp hp).2
    simp only [Nat.sub_zero] at h7
    obtain ⟨x,hx,hxt⟩:=hat p.1 o (by rw [QJ]; exact ho)
    have:l[p.1]?=some p.2.o:=by rw [← h1,QH,h7]; rfl
    rw [this] at hx
    simp at hx
    subst hx
    exact ⟨hxt,QB.1 hfit _ (QI this)⟩
  · have h7:=(aEp hp).2
    exact h2 _ (QI h7)
  · have h7:=(aEp hp).2
    exact bRj (QB.1 h4 _ (QI h7))
end Go.Ab
