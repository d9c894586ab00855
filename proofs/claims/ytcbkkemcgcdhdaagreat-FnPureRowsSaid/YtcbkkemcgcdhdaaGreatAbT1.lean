/- Trees that one name owns: a row opened,a row closed; new trees. -/
import Derived.Test.YtcbkkemcgcdhdaaGreatAb10
namespace Go.Ab
open Go Go.RowKit
open _root_.List renaming mem_cons→QA,mem_map→QB,nodup_append→QC,nodup_cons→QD,map_cons→QE,mem_append→QG,getElem?_eq_some_iff→QH,sublist_append_right→QI,flatMap_cons→QJ,cons_append→QK,mem_cons_of_mem→QL,mem_flatMap→QM,take_take→QN,drop_take→QO
open _root_.Bool renaming and_eq_true→QF
open _root_.Nat renaming add_mul→QP
theorem dZ.length {h:Nat→Option Obj}:∀ {vs:List Value} {xs:List D} {B:List Nat},dZ h vs xs B→vs.length=xs.length
  | _,_,_,.nil=>rfl
  | _,_,_,.cons _ t=>by simp [t.length]
theorem dZ.append {h:Nat→Option Obj}:∀ {vs us:List Value} {xs ys:List D} {B C:List Nat},dZ h vs xs B→dZ h us ys C→dZ h (vs++us) (xs++ys) (B++C)
  | _,_,_,_,_,_,.nil,k=>k
  | _,_,_,_,_,_,.cons a t,k=>by rw [List.append_assoc]; exact .cons a (t.append k)
theorem dZ.split {h:Nat→Option Obj}:∀ {xs ys:List D} {vs:List Value} {B:List Nat},dZ h vs (xs++ys) B→∃ B1 B2,B=B1++B2∧dZ h (vs.take xs.length) xs B1∧dZ h (vs.drop xs.length) ys B2
  | [],ys,vs,B,k=>⟨[],B,rfl,.nil,k⟩
  | x::xs,ys,vs,B,k=>by
    cases k with
    | cons a t =>
      rename_i B1 B2
      obtain ⟨C1,C2,rfl,h1,h2⟩:=dZ.split (xs:=xs) t
      exact ⟨B1++C1,C2,by simp,.cons a h1,h2⟩
theorem bA9 {sz:Nat} {l:List (List D)} (h:∀ e∈l,e.length=sz):l.flatten.length=l.length * sz:=by
  induction l with
  | nil=>simp
  | cons x l ih=>simp [QP,h x (by simp),ih (fun e he=>h e (by simp [he]))]; omega
theorem bYy {sz i:Nat} {l:List (List D)} {e:List D} (he:l[i]?=some e):l.flatten=(l.take i).flatten++(e++(l.drop (i+1)).flatten):=by
  have h1:l=l.take i++e::l.drop (i+1):=by
    have hi:=(QH.1 he).1
    have:=(QH.1 he).2
    rw [← this,← List.drop_eq_getElem_cons hi,List.take_append_drop]
  rw [congrArg List.flatten h1]; simp
theorem bYs {i:Nat} {l:List (List D)} {e:List D} (hi:i<l.length):(l.set i e).flatten=(l.take i).flatten++(e++(l.drop (i+1)).flatten):=by
  rw [List.set_eq_take_append_cons_drop,if_pos hi]; simp
def jO:List Nat→List D→List V×List (Nat×List V)
  | _,[]=>([],[])
  | nm::ns,.sl sz l::ds=>(.tre nm::(jO ns ds).1,(nm,[.trc sz l])::(jO ns ds).2)
  | [],.sl _ _::ds=>(.top::(jO [] ds).1,(jO [] ds).2)
  | ns,x::ds=>(.d x::(jO ns ds).1,(jO ns ds).2)
def aBl {α:Type}:List (Nat×α)→Nat→Option α
  | [],_=>none
  | (m,x)::l,n=>if n=m then some x else aBl l n
theorem aZp {α:Type}:∀ {l:List (Nat×α)} {n:Nat},n∉l.map (·.1)→aBl l n=none
  | [],_,_=>rfl
  | (m,y)::l,n,h=>by
    simp only [QE,QA,not_or] at h
    simp only [aBl,if_neg h.1]
    exact aZp h.2
theorem bIg {α:Type}:∀ {l:List (Nat×α)} {p:Nat×α},(l.map (·.1)).Nodup→p∈l→aBl l p.1=some p.2
  | [],_,_,h=>by simp at h
  | (m,y)::l,p,hd,h=>by
    simp only [QE,QD] at hd
    simp only [aBl]
    rcases QA.1 h with rfl | h
    · simp
    · rw [if_neg fun e:p.1=m=>hd.1 (QB.2 ⟨p,h,e⟩)]
      exact bIg hd.2 h
theorem aY8:∀ {l m:List (Nat×List V)} {n:Nat},n∉l.map (·.1)→bget (l++m) n=bget m n
  | [],_,_,_=>rfl
  | (k,c)::l,m,n,h=>by
    simp only [QE,QA,not_or] at h
    simp only [QK,bget,if_neg h.1]
    exact aY8 h.2
theorem bHr:∀ {l m:List (Nat×List V)} {n:Nat},n∈l.map (·.1)→bget (l++m) n=bget l n
  | [],_,_,h=>by simp at h
  | (k,c)::l,m,n,h=>by
    simp only [QK,bget]
    split
    · rfl
    · rename_i e
      simp only [QE,QA] at h
      exact bHr (h.resolve_left e)
def bI7 (h : Nat → Option Obj) (ds : List D) (ns : List Nat) (vs : List Value) (B : List Nat) : Prop :=
    ∃ A:List (Nat×(Value×List Nat)),A.map (·.1)=(jO ns ds).2.map (·.1)∧(∀ p∈A,p.1∈ns)∧(A.map (·.1)).Nodup∧(A.flatMap (·.2.2)).Sublist B ∧
      ∀ κ:Ctx,(∀ p∈A,κ.mt p.1=oZ 0 p.2.1∧κ.bl p.1=p.2.2)→aZ κ vs (jO ns ds).1∧∀ m c,bget (jO ns ds).2 m=some c→mP κ h m c
theorem aPp {h:Nat→Option Obj}:∀ {ds:List D} {ns:List Nat} {vs:List Value} {B:List Nat},dZ h vs ds B→ns.Nodup→bI7 h ds ns vs B
  | [],ns,vs,B,k,_=>by cases k; exact ⟨[],by simp [jO],by simp,by simp,by simp,fun κ _=>⟨by simp only [jO]; exact .nil,fun m c hc=>by simp [jO,bget] at hc⟩⟩
  | x::ds,ns,vs,B,k,hd=>by
    cases k with
    | cons a t =>
    rename_i v vs B1 B2
    have flat:(∀ S,bR S v x)→((jO ns (x::ds))=(.d x::(jO ns ds).1,(jO ns ds).2))→bI7 h (x::ds) ns (v::vs) (B1++B2):=fun hr he=>by
      obtain ⟨A,h1,h2,h3,h4,h5⟩:=aPp t hd
      refine ⟨A,by rw [he]; exact h1,h2,h3,h4.trans (QI _ _),fun κ hk=>?_⟩
      rw [he]
      obtain ⟨k1,k2⟩:=h5 κ hk
      exact ⟨.cons (.d (hr _)) k1,k2⟩
    cases x with
    | b y=>exact flat (fun S=>by cases a; exact .b _) (by cases ns <;> rfl)
    | i k n=>exact flat (fun S=>by cases a with | i _ _ h1 h2=>exact .i _ _ h1 h2) (by cases ns <;> rfl)
    | s y=>exact flat (fun S=>by cases a with | s _ h1=>exact .s _ h1) (by cases ns <;> rfl)
    | fn f l=>cases a
    | rw w x=>cases a
    | sl sz l =>
      cases ns with
      | nil =>
        obtain ⟨A,h1,h2,h3,h4,h5⟩:=aPp t hd
        refine ⟨A,h1,h2,h3,h4.trans (QI _ _),fun κ hk=>?_⟩
        obtain ⟨k1,k2⟩:=h5 κ hk
        exact ⟨.cons (.top _) k1,k2⟩
      | cons nm ns =>
        simp only [QD] at hd
        obtain ⟨A,h1,h2,h3,h4,h5⟩:=aPp t hd.2
        have hnm:nm∉A.map (·.1):=fun hm=>by
          obtain ⟨p,hp,rfl⟩:=QB.1 hm
          exact hd.1 (h2 p hp)
        refine ⟨(nm,(v,B1))::A,by simp [jO,h1],fun p hp=>?_,by simp only [QE,QD]; exact ⟨hnm,h3⟩,by simp only [QJ]; exact List.Sublist.append (List.Sublist.refl _) h4,fun κ hk=>?_⟩
        · rcases QA.1 hp with rfl | hp
          · simp
          · exact QL _ (h2 p hp)
        · obtain ⟨k1,k2⟩:=h5 κ fun p hp=>hk p (QL _ hp)
          obtain ⟨e1,e2⟩:=hk (nm,(v,B1)) (by simp)
          have hv:κ.hv nm=v:=by show (κ.mt nm).2.2=v; rw [e1]; exact wM _ _
          refine ⟨.cons ?_ k1,fun m c hc=>?_⟩
          · rcases a.slice with ⟨rfl,_⟩ | ⟨q,rfl,_⟩ | ⟨b,cap,C,cs,T,rfl,_⟩ <;> exact .tre hv
          · simp only [jO,bget] at hc
            split at hc
            · rename_i e; subst e
              simp at hc; subst hc
              exact .closed e1 (by rw [e2]; exact a)
            · exact k2 m c hc
theorem bKe {α:Type} {f:α→List Nat}:∀ {A:List α},(A.flatMap f).Nodup→A.Pairwise (fun p q=>∀ b∈f p,b∉f q)
  | [],_=>.nil
  | x::A,h=>by
    simp only [QJ,QC] at h
    exact .cons (fun q hq b hb hb'=>h.2.2 b hb b (QM.2 ⟨q,hq,hb'⟩) rfl) (bKe h.2.1)
theorem bWk {α:Type} {A:List (Nat×α)} {R:Nat×α→Nat×α→Prop} (hp:A.Pairwise R) (hs:∀ x y,R x y→R y x) {p q:Nat×α} (h1:p∈A) (h2:q∈A) (hne:p.1≠q.1):R p q:=by
  induction hp with
  | nil=>simp at h1
  | cons hx _ ih =>
    rcases QA.1 h1 with e1 | e1 <;> rcases QA.1 h2 with e2 | e2
    · exact absurd (by rw [e1,e2]) hne
    · rw [e1]; exact hx _ e2
    · rw [e2]; exact hs _ _ (hx _ e1)
    · exact ih e1 e2
section
variable {E:Entry} {N:Nat} {κ:Ctx} {w:World} {a:Act} {s:St} {P:Program}
theorem Ok.openRow (h:Ok E N κ w a s) (hfb:∀ n∈E.fb,N≤n∧n<NX) {n sz i:Nat} {l:List (List D)} {ds:List D} {ns:List Nat} (hb:bget s.bx n=some [.trc sz l]) (hi:l[i]?=some ds) (hnd:ns.Nodup) (hn:n∉ns) (hNX:∀ m∈ns,NX≤m) (hf:∀ m∈ns,s.fresh m=true) :
    (∃ b cap,κ.hv n=.slice (some ⟨b,0,none⟩) l.length cap∧κ.m n=b)∧∃ κ',κ'.mt n=κ.mt n∧Ok E N κ' w a ⟨s.env,(jO ns ds).2++fC s.bx n (.tro sz i l::(jO ns ds).1)⟩:=by
  have g:=h.good
  obtain ⟨_,v,T,hmt,hX⟩:=(g.box n _ hb).toClosed
  have hil:i<l.length:=(QH.1 hi).1
  rcases hX.slice with ⟨_,rfl,_⟩ | ⟨_,_,rfl,_⟩ | ⟨b,cap,C,cs,T0,rfl,hbl,hh,hsz,hlc,hcm,hrow,hR⟩
  · simp at hil
  · simp at hil
  have hmt':κ.mt n=(b,T,.slice (some ⟨b,0,none⟩) l.length cap):=hmt
  refine ⟨⟨b,cap,by show (κ.mt n).2.2=_; rw [hmt'],by show (κ.mt n).1=_; rw [hmt']⟩,?_⟩
  rw [bYy (sz:=sz) hi] at hR
  obtain ⟨B1,B23,rfl,r1,r23⟩:=hR.split
  obtain ⟨B2,B3,rfl,r2,r3⟩:=r23.split
  have hdl:ds.length=sz:=hrow ds (List.mem_of_getElem? hi)
  have htl:(l.take i).flatten.length=i * sz:=by
    rw [bA9 (sz:=sz) fun e he=>hrow e (List.mem_of_mem_take he),List.length_take]
    congr 1; omega
  rw [htl] at r1 r2 r3
  rw [hdl] at r2 r3
  have hle1:(i+1) * sz≤l.length * sz:=Nat.mul_le_mul_right _ hil
  have hs1:(i+1) * sz=i * sz+sz:=by rw [QP,Nat.one_mul]
  have e1:(cs.toList.take (l.length * sz)).take (i * sz)=cs.toList.take (i * sz):=by rw [QN]; congr 1; omega
  have e2:((cs.toList.take (l.length * sz)).drop (i * sz)).take sz=(cs.toList.drop (i * sz)).take sz:=by
    rw [QO,QN]; congr 1; omega
  have e3:((cs.toList.take (l.length * sz)).drop (i * sz)).drop sz=(cs.toList.drop ((i+1) * sz)).take ((l.length - (i+1)) * sz):=by
    rw [List.drop_drop,QO,hs1]; congr 1
    rw [Nat.sub_mul]; omega
  rw [e1] at r1
  rw [e2] at r2
  rw [e3] at r3
  obtain ⟨A,a1,a2,a3,a4,a5⟩:=aPp r2 hnd
  have hnod:=(g.blk n (by simp [hb])).1
  rw [hbl] at hnod
  obtain ⟨κ',hκ⟩:∃ k:Ctx,k=⟨κ.S,fun m=>match aBl A m with | some p=>oZ 0 p.1 | none=>κ.mt m,κ.o,fun m=>match aBl A m with | some p=>p.2 | none=>if m=n then b::(B1++B3) else κ.bl m⟩:=⟨_,rfl⟩
  have hA:∀ p∈A,κ'.mt p.1=oZ 0 p.2.1∧κ'.bl p.1=p.2.2:=fun p hp=>by
    have:=bIg a3 hp
    rw [hκ]
    simp only [this]
    exact ⟨trivial,trivial⟩
  have hm0:∀ m,m∉A.map (·.1)→κ'.mt m=κ.mt m:=fun m hm=>by
    rw [hκ]; simp only [aZp hm]
  have hin:∀ {m},m∈A.map (·.1)→m∈ns:=fun hq=>by obtain ⟨p,hp,rfl⟩:=QB.1 hq; exact a2 p hp
  have hA0:∀ m,m∉A.map (·.1)→κ'.bl m=if m=n then b::(B1++B3) else κ.bl m:=fun m hm=>by rw [hκ]; simp only [aZp hm]
  have hnA:n∉A.map (·.1):=fun hq=>by obtain ⟨p,hp,e⟩:=QB.1 hq; exact hn (e ▸ a2 p hp)
  have hbn:κ'.bl n=b::(B1++B3):=by rw [hA0 n hnA,if_pos rfl]
  have hS:κ'.S=κ.S:=by rw [hκ]
  have ho:∀ t,κ'.o t=κ.o t:=fun t=>by rw [hκ]
  have hle:κ.S.le κ'.S:=by rw [hS]; exact Mem.le_refl _
  clear hκ
  have fit:∀ v:V,(∀ m∈ns,v.noPtr m=true)→v.fits κ κ':=by
    intro v
    exact V.rec (motive_1:=fun v=>(∀ m∈ns,v.noPtr m=true)→v.fits κ κ') (motive_2:=fun l=>(∀ m∈ns,V.noPtrs m l=true)→V.fitss κ κ' l)
      (fun _=>trivial) (fun _=>trivial) (fun _ _=>trivial) (fun _ _=>trivial) (fun _ _=>trivial) (fun t _ _ _ _=>ho t)
      (fun k _ hk=>hm0 k fun hq=>by have:=hk k (hin hq); simp [V.noPtr] at this) (fun k _ _ _ _ hk=>hm0 k fun hq=>by have:=hk k (hin hq); simp [V.noPtr] at this) (fun _ _=>trivial) (fun _=>trivial) (fun _=>trivial)
      (fun _ _ ih hk=>ih fun m hm=>by simpa [V.noPtr] using hk m hm) (fun _ ih hk=>ih fun m hm=>by simpa [V.noPtr] using hk m hm) (fun _ ih hk=>ih fun m hm=>by simpa [V.noPtr] using hk m hm)
      (fun k _ hk=>hm0 k fun hq=>by have:=hk k (hin hq); simp [V.noPtr] at this) (fun _ _ ih hk=>ih fun m hm=>by simpa [V.noPtr] using hk m hm)
      (fun k hk=>hm0 k fun hq=>by have:=hk k (hin hq); simp [V.noPtr] at this) (fun k _ _ _ hk=>hm0 k fun hq=>by have:=hk k (hin hq); simp [V.noPtr] at this) (fun _ _ _=>trivial) (fun _ _ _ _=>trivial) (fun _=>trivial)
      (fun _ _ _=>trivial) (fun _=>trivial) (fun _ _ ih1 ih2 hk=>⟨ih1 fun m hm=>by have:=hk m hm; simp only [V.noPtrs,QF] at this; exact this.1,ih2 fun m hm=>by have:=hk m hm; simp only [V.noPtrs,QF] at this; exact this.2⟩) v
  have fits:∀ c:List V,(∀ m∈ns,V.noPtrs m c=true)→V.fitss κ κ' c:=by
    intro c
    induction c with
    | nil=>exact fun _=>trivial
    | cons x c ih=>exact fun hk=>⟨fit x fun m hm=>by have:=hk m hm; simp only [V.noPtrs,QF] at this; exact this.1,ih fun m hm=>by have:=hk m hm; simp only [V.noPtrs,QF] at this; exact this.2⟩
  obtain ⟨hrv,hrb⟩:=a5 κ' hA
  have names_:∀ {m},m∈(jO ns ds).2.map (·.1)↔m∈A.map (·.1):=fun {m}=>by rw [a1]
  have hsub:∀ {p} ,p∈A→∀ x∈p.2.2,x∈B2:=fun {p} hp x hx=>a4.subset (QM.2 ⟨p,hp,hx⟩)
  have hdis:∀ x∈b::(B1++B3),x∉B2:=by
    intro x hx hx2
    simp only [QD,QG,not_or] at hnod
    rcases QA.1 hx with rfl | hx
    · exact hnod.1.2.1 hx2
    · have h2:=hnod.2
      rw [QC] at h2
      rcases QG.1 hx with hx | hx
      · exact h2.2.2 x hx x (List.mem_append_left _ hx2) rfl
      · have h3:=h2.2.1
        rw [QC] at h3
        exact h3.2.2 x hx2 x hx rfl
  have hnodA:(A.flatMap (·.2.2)).Nodup:=by
    simp only [QD] at hnod
    have h2:=hnod.2
    rw [QC] at h2
    have h3:=h2.2.1
    rw [QC] at h3
    exact a4.nodup h3.1
  have hbl2:∀ x∈b::(B1++B3),x∈κ.bl n:=fun x hx=>by
    rw [hbl]
    simp only [QA,QG] at hx ⊢
    rcases hx with h | h | h <;> simp [h]
  have hblB:∀ x∈B2,x∈κ.bl n:=fun x hx=>by rw [hbl]; simp [hx]
  have hbk:=(g.blk n (by simp [hb])).2
  refine ⟨κ',hm0 n hnA,h.size,h.defers,fun k=>(h.env k).move hle (fit _ fun m hm=>(s.fresh_env (hf m hm) k).1),?_⟩
  refine g.patch (fun x=>x∈κ.bl n) (fun m=>m=n∨m∈A.map (·.1)) (fun _=>False) rfl rfl rfl (Nat.le_refl _) (fun x hx=>(hbk x hx).2.2) (fun _ _=>⟨rfl,by rw [hS]⟩) (fun x _=>by rw [hS]; exact g.frm.le x) (fun x _=>by rw [hS]; exact g.tab x) (fun x _ hx=>by rw [hS] at hx ⊢; exact g.mem x hx)
    (fun m hm=>hm0 m fun hq=>by have:=hNX m (hin hq); have:=(hfb m hm).2; omega) ?_ ?_ ?_ (fun t o ht _=>?_) (fun _ _ _ h=>h.elim) (fun _ _ _ _ _ _ _ h=>h.elim)
  · intro m c hc hs
    simp only [not_or] at hs
    dsimp only at hc
    rw [aY8 (fun hq=>hs.2 (names_.1 hq)),tC,if_neg hs.1] at hc
    exact ⟨c,hc,hm0 m hs.2,by rw [hA0 m hs.2,if_neg hs.1],Mv.fits hle (fits _ fun k hk=>(s.fresh_bx (hf k hk) hc).1),fun x hx hx'=>hs.1 (g.inj m n x (by simp [hc]) (by simp [hb]) hx hx')⟩
  · intro m c hc hs
    dsimp only at hc
    by_cases hm:m∈A.map (·.1)
    · rw [bHr (names_.2 hm)] at hc
      obtain ⟨p,hp,rfl⟩:=QB.1 hm
      refine ⟨hrb _ c hc,?_,fun x hx=>?_⟩
      · rw [(hA p hp).2]
        exact (List.Sublist.trans (by
          clear hA hrv hrb names_ hsub hm hc hnodA a4 a1 a2 a3 a5 hA0 hnA hs hm0 hin fit fits
          induction A with
          | nil=>simp at hp
          | cons q A ih =>
            simp only [QJ]
            rcases QA.1 hp with rfl | hp
            · exact List.sublist_append_left _ _
            · exact (ih hp).trans (QI _ _)) (List.Sublist.refl _)).nodup hnodA
      · rw [(hA p hp).2] at hx
        have:=hblB x (hsub hp x hx)
        exact ⟨this,by rw [hS]; exact (hbk x this).1,(hbk x this).2.1⟩
    · obtain rfl:=hs.resolve_right hm
      rw [aY8 (fun hq=>hm (names_.1 hq)),tC,if_pos rfl,hb] at hc
      simp only [Option.map_some,Option.some.injEq] at hc
      subst hc
      refine ⟨.opened ((hm0 _ hnA).trans hmt') hh hsz rfl hlc hcm hrow hil r1 hrv r3 hbn,?_,fun x hx=>?_⟩
      · rw [hbn]
        simp only [QD,QG,not_or] at hnod ⊢
        have h2:=hnod.2
        rw [QC] at h2
        have h3:=h2.2.1
        rw [QC] at h3
        exact ⟨⟨hnod.1.1,hnod.1.2.2⟩,QC.2 ⟨h2.1,h3.2.1,fun x hx y hy=>h2.2.2 x hx y (List.mem_append_right _ hy)⟩⟩
      · rw [hbn] at hx
        have:=hbl2 x hx
        exact ⟨this,by rw [hS]; exact (hbk x this).1,(hbk x this).2.1⟩
  · rintro m m' x _ _ hs hs' hx hx'
    by_cases hm:m∈A.map (·.1) <;> by_cases hm':m'∈A.map (·.1)
    · obtain ⟨p,hp,rfl⟩:=QB.1 hm
      obtain ⟨q,hq,rfl⟩:=QB.1 hm'
      rw [(hA p hp).2] at hx
      rw [(hA q hq).2] at hx'
      apply Classical.byContradiction
      intro hne
      exact bWk (bKe hnodA) (fun x y hxy b hb hb'=>hxy b hb' hb) hp hq hne x hx hx'
    · obtain rfl:=hs'.resolve_right hm'
      obtain ⟨p,hp,rfl⟩:=QB.1 hm
      rw [(hA p hp).2] at hx
      rw [hbn] at hx'
      exact absurd (hsub hp x hx) (hdis x hx')
    · obtain rfl:=hs.resolve_right hm
      obtain ⟨q,hq,rfl⟩:=QB.1 hm'
      rw [(hA q hq).2] at hx'
      rw [hbn] at hx
      exact absurd (hsub hq x hx') (hdis x hx)
    · rw [hs.resolve_right hm,hs'.resolve_right hm']
  · rw [ho] at ht
    exact ⟨ht,fun x hx hx'=>((g.own t o ht).2 x hx).2 n (by simp [hb]) hx'⟩
end
end Go.Ab
