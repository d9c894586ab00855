/- What the functions compute,in plain Lean. -/
import Derived.Test.YtiofikmhbpbejabGreatDoorLBound0
namespace Go.Ab
open Go
open _root_.Option renaming bind_some→QA,bind_eq_bind→QB,some.injEq→QX
open _root_.Bool renaming false_eq_true→QC,not_true→QK,not_false→QN,eq_iff_iff→QU,true_and→QY,and_self→WA,not_not→WB,not_eq_true'→WC,and_eq_true→WP
open _root_.List renaming length_cons→QE,getElem_mem→QF,drop_eq_getElem_cons→QG,length_nil→QH,map_cons→QI,sum_cons→QJ,length_append→QM,mem_cons→QO,replicate→QQ,mem_append→QT,getElem?_eq_getElem→QV,forall_mem_cons→QZ,eq_nil_of_length_eq_zero→WD,getElem_of_mem→WE,take_length→WG,length_take→WH,mem_flatMap→WI,length_pos_of_mem→WJ,set_cons_zero→WK,set_cons_succ→WM,map_append→WQ,map_nil→WR,sum_append→WS,sum_nil→WT,length→WU,all_cons→WV,mem_of_mem_take→WW
open _root_.Nat renaming lt_irrefl→QL,le_refl→QR,le_trans→QW,add_mul→WN,mul_le_mul_right→WO,lt_succ_self→WY
open Go.IntKind renaming wrap→QP
open _root_.Int renaming toNat_natCast→WF,tmod_eq_emod_of_nonneg→WX
def aCh (k:Int):Prop:=k=1∨k=2∨k=3∨k=4∨k=9
def Out (k:Int)(n:List UInt8)(k':Int)(n':List UInt8)(G:Prop):Prop:=(k≠0→k'=k∧n'=n)∧(k=0→(k'=0→G)∧(aCh k'→¬ G))
theorem Out.refl (k:Int)(n:List UInt8):Out k n k n True:=⟨fun _=>⟨rfl,rfl⟩,fun h=>⟨fun _=>trivial,fun hb=>by unfold aCh at hb;omega⟩⟩
theorem Out.iff {k k':Int}{n n':List UInt8}{G G':Prop}(h:Out k n k' n' G)(e:G↔G'):Out k n k' n' G':=⟨h.1,fun hk=>⟨fun h0=>e.1 ((h.2 hk).1 h0),fun hb hg=>(h.2 hk).2 hb (e.2 hg)⟩⟩
theorem Out.trans {k k1 k2:Int}{n n1 n2:List UInt8}{G H:Prop}(h:Out k n k1 n1 G)(g:Out k1 n1 k2 n2 H):Out k n k2 n2 (G∧H):=by
  by_cases h0:k=0
  · refine ⟨fun h1=>absurd h0 h1,fun _=>?_⟩
    obtain ⟨a,b⟩:=h.2 h0
    by_cases h1:k1=0
    · obtain ⟨c,d⟩:=g.2 h1
      exact ⟨fun h2=>⟨a h1,c h2⟩,fun hb hg=>d hb hg.2⟩
    · obtain ⟨rfl,rfl⟩:=g.1 h1
      exact ⟨fun h2=>absurd h2 h1,fun hb hg=>b hb hg.1⟩
  · refine ⟨fun _=>?_,fun h1=>absurd h1 h0⟩
    obtain ⟨rfl,rfl⟩:=h.1 h0
    exact g.1 h0
theorem Out.stop {k k1:Int}{n n1:List UInt8}{G:Prop}(H:Prop)(h:Out k n k1 n1 G)(h1:k1≠0):Out k n k1 n1 (G∧H):=by
  refine ⟨h.1,fun h0=>?_⟩
  obtain ⟨a,b⟩:=h.2 h0
  exact ⟨fun h2=>absurd h2 h1,fun hb hg=>b hb hg.1⟩
theorem Out.other {k:Int}{n m:List UInt8}(G:Prop)(c:Int)(hc:5≤c∧c≤8):Out k n (if k=0 then c else k) (if k=0 then m else n) G:=by
  by_cases h:k=0
  · rw [if_pos h,if_pos h]
    exact ⟨fun h1=>absurd h h1,fun _=>⟨fun h0=>by omega,fun hb=>by unfold aCh at hb;omega⟩⟩
  · rw [if_neg h,if_neg h]
    exact ⟨fun _=>⟨rfl,rfl⟩,fun h1=>absurd h1 h⟩
theorem Out.bad {k:Int}{n m:List UInt8}{G:Prop}(c:Int)(hc:c≠0)(hG:¬ G):Out k n (if k=0 then c else k) (if k=0 then m else n) G:=by
  by_cases h:k=0
  · rw [if_pos h,if_pos h]
    exact ⟨fun h1=>absurd h h1,fun _=>⟨fun h0=>absurd h0 hc,fun _=>hG⟩⟩
  · rw [if_neg h,if_neg h]
    exact ⟨fun _=>⟨rfl,rfl⟩,fun h1=>absurd h1 h⟩
abbrev RF (c:aP)(k:Int)(n:List UInt8):bH:=⟨c,⟨k,n⟩⟩
theorem O7 (c:aP)(k c':Int)(n m:List UInt8):yN (RF c k n) c' m=some (RF c (if k=0 then c' else k) (if k=0 then m else n)):=by
  unfold yN
  by_cases h:k=0<;>simp [h]
theorem tN (c:aP)(k:Int)(n:List UInt8):tH ⟨c,⟨k,n⟩⟩=some (!decide (k=0)):=rfl
theorem bKk (q n:List UInt8):∀ (l:List dX) (i a:Int),a∈mtI q n l i→i≤a∧a<i+l.length
  | [],_,_,h=>by simp [mtI] at h
  | x::l,i,a,h=>by
    have ih:=bKk q n l (i+1) a
    unfold mtI at h
    split at h
    · rcases QO.1 h with rfl | h
      · simp only [QE];omega
      · have:=ih h;simp only [QE];omega
    · have:=ih h;simp only [QE];omega
theorem bZc {env:List aR}(he:Names env)(q n:List UInt8):∃ (b:wJ) (k:Int),aM2 env q n=some (b,k)∧((k=0∧(nT q n env 0).1=1)∨(k=3∧(nT q n env 0).1≠1)∨(k=4∧(nT q n env 0).1≠1)):=by
  have key:∀ i,i≤env.length→∃ (b:wJ) (k:Int),aCf q n env (i:Nat)=some (b,k)∧((k=0∧(nT q n (env.drop i) (i:Int)).1=1)∨(k=3∧(nT q n (env.drop i) (i:Int)).1≠1)∨(k=4∧(nT q n (env.drop i) (i:Int)).1≠1)):=by
    refine gD ?_ ?_
    · exact ⟨⟨0,0,0⟩,3,by rw [aCf];simp,by simp [nT]⟩
    · intro i hi ih
      have hn:=he.2 _ (QF hi)
      rw [aCf,QG hi,nT]
      simp only [cZ,hi,bZ hi,bGp _ q n hn,dU hi (by have:=he.1;omega),decide_true,if_true,QB,QA]
      cases hM:mtI q n env[i].names 0 with
      | nil=>simpa using ih
      | cons a l =>
        by_cases hl:l=[]
        · subst hl
          have ha:=bKk q n env[i].names 0 a (by rw [hM];simp)
          have hx:idx env[i].names a=some (env[i].names[a.toNat]'(by omega)):=by
            have:=bZ (l:=env[i].names) (i:=a.toNat) (by omega)
            rwa [show ((a.toNat:Nat):Int)=a by omega] at this
          have i0:idx [a] 0=some a:=rfl
          refine ⟨⟨(i:Int),a,(env[i].names[a.toNat]'(by omega)).type⟩,0,?_,?_⟩
          · simp [i0,hx]
          · simp
        · have hl':l.length≠0:=by simpa using hl
          have h1:¬ ((l.length:Int)+1=1):=by omega
          have h2:¬ ((l.length:Int)+1=0):=by omega
          refine ⟨⟨0,0,0⟩,4,?_,.inr (.inr ⟨rfl,?_⟩)⟩
          · simp [h1,h2]
          · simp [hl];omega
  obtain ⟨b,k,h1,h2⟩:=key 0 (by omega)
  exact ⟨b,k,by simpa [aM2] using h1,by simpa using h2⟩
theorem aY2 (a b c:Int):∃ r,aGb a b c=some r:=by
  unfold aGb
  by_cases h:b=a<;>by_cases h2:b=0<;>simp [h,h2]
theorem bM7 (a:Int):∃ r,aJf a=some r:=by
  unfold aJf
  exact ⟨_,by simp;rfl⟩
theorem bGh (a b:Int):∃ r,aJp a b=some r:=by
  unfold aJp
  obtain ⟨x,hx⟩:=bM7 a
  obtain ⟨y,hy⟩:=bM7 b
  rw [hx,hy]
  simp only [QB,QA]
  generalize decide (a=0)=d0
  generalize decide (b=0)=d1
  generalize decide (a=b)=d2
  cases x<;>cases y<;>cases d0<;>cases d1<;>cases d2<;>exact ⟨_,rfl⟩
theorem aT4 (a:Int):∃ r,aBy a=some r:=by
  unfold aBy
  exact ⟨_,by simp;rfl⟩
theorem bZw (o a b:Int):∃ r,aLe o a b=some r:=by
  unfold aLe aB0
  obtain ⟨x,hx⟩:=aT4 a
  obtain ⟨y,hy⟩:=aT4 b
  obtain ⟨⟨z,w⟩,hz⟩:=bGh a b
  obtain ⟨u,hu⟩:=aY2 2 a b
  obtain ⟨v,hv⟩:=aY2 1 a b
  rw [hx,hy,hz,hu,hv]
  simp only [QB,QA]
  generalize decide (o<1)=d0
  generalize decide (14<o)=d1
  generalize decide (o≤2)=d2
  generalize decide (o≤8)=d3
  generalize decide (o=9)=d4
  cases d0<;>cases d1<;>cases d2<;>cases d3<;>cases d4<;>cases x<;>cases y<;>cases w<;>cases u<;>cases v<;>exact ⟨_,rfl⟩
theorem cCf (o a:Int):∃ r,aKl o a=some r:=by
  unfold aKl
  obtain ⟨x,hx⟩:=aT4 a
  obtain ⟨v,hv⟩:=aY2 1 a a
  by_cases h1:o=15
  · cases x<;>simp [h1,hx]
  by_cases h2:o=16
  · cases v<;>simp [h1,h2,hv]
  · simp [h1,h2]
theorem bTe (l:List Int)(hl:l.length≤1048576):∃ r,aKs l=some r:=by
  have key:∀ i,i≤l.length→∀ x,∃ r,aBv l x (i:Nat)=some r:=by
    refine gD ?_ ?_
    · intro x;exact ⟨_,by rw [aBv];simp;rfl⟩
    · intro i hi ih x
      obtain ⟨y,hy⟩:=bGh x l[i]
      rw [aBv]
      simp only [cZ,hi,bZ hi,hy,dU hi (by omega),decide_true,if_true,QB,QA]
      cases y.2 with
      | false=>exact ⟨_,rfl⟩
      | true=>exact ih _
  rw [aKs]
  exact key 0 (by omega) 0
theorem bVs (e:aJ)(a b:List Int)(ha:a.length≤500000)(hb:b.length≤500000)(h3:e.kind=3→1≤a.length)(h4:e.kind=4→2≤a.length):∃ r,aLc e a b=some r:=by
  have hJ:∀ x,∃ r,aEx a b x=some r:=fun x=>by
    cases x with
    | true=>exact ⟨_,by unfold aEx;simp;rfl⟩
    | false =>
      obtain ⟨r,hr⟩:=bTe (a++b) (by rw [QM];omega)
      unfold aEx
      rw [bS5 a (by omega)]
      have:appG 8 a b=some (a++b):=iI (by omega)
      simp only [this,hr,QB,QA,QC,if_false]
      cases r.2<;>simp
  unfold aLc
  by_cases k1:e.kind=1
  · simp [k1]
  by_cases k3:e.kind=3
  · have h1:=h3 k3
    obtain ⟨r,hr⟩:=cCf e.op (a[0]'(by omega))
    have i0:idx a 0=some (a[0]'(by omega)):=bZ (i:=0) (by omega)
    simp [k3,i0,hr]
  by_cases k4:e.kind=4
  · have h1:=h4 k4
    obtain ⟨r,hr⟩:=bZw e.op (a[0]'(by omega)) (a[1]'(by omega))
    have i0:idx a 0=some (a[0]'(by omega)):=bZ (i:=0) (by omega)
    have i1:idx a 1=some (a[1]'(by omega)):=bZ (i:=1) (by omega)
    simp [k4,i0,i1,hr]
  by_cases k5:e.kind=5
  · obtain ⟨r,hr⟩:=hJ true
    simp [k5,hr]
  · obtain ⟨r,hr⟩:=hJ (decide (e.kind=9))
    simp only [k1,k3,k4,k5,decide_false,QC,if_false]
    exact ⟨r,hr⟩
structure FmE (y:aB):Prop where
  sub:y.sub.length≤1
  kids:y.kids.length≤9
  text:y.value.text.length≤40
  col:y.kind=2→y.kids=[]∧y.sub=[]∧y.name.length≤20∧y.qual.length≤20
  un:y.kind=3→y.kids.length=1
  bin:y.kind=4→y.kids.length=2
  lo:y.kind≤4→y.sub.length=0
theorem cBv {v:bP}(h:aCc v=some true):v.text.length≤40:=by
  unfold aCc at h
  obtain ⟨_,b,e2⟩:=bO9 v
  rw [e2] at h
  cases b with
  | false=>simp at h
  | true =>
    by_cases h1:(v.text.length:Int)≤40
    · omega
    · simp [h1] at h
theorem bMo {s:List UInt8}(h:pI s=some true):s.length≤20:=by
  rw [bNx] at h
  unfold nmB at h
  simp at h
  exact h.2
theorem bP5 {s:List UInt8}(h:uO s=some true):s.length≤20:=by
  unfold uO at h
  by_cases h0:s=[]
  · simp [h0]
  · obtain ⟨b,h1,_⟩:=O0 s
    cases b with
    | true=>exact bMo h1
    | false=>simp [h0,h1] at h
theorem bI4 {y:aB}(h:zH y=some true)(hk:y.kids.length≤1048576)(hs:y.sub.length≤1048576):FmE y:=by
  have hw:QP .i64 ((y.kids.length:Int)+(y.sub.length:Int))=(y.kids.length:Int)+(y.sub.length:Int):=fM (by omega) (by omega)
  rw [bIr,hw] at h
  by_cases c1:((!decide (y.kind=2)&&(!decide (y.qual=[])||!decide (y.name=[])))||(!decide (y.kind=1)&&!zvE y))=true
  · rw [if_pos c1] at h;simp at h
  rw [if_neg c1] at h
  by_cases c2:((!decide (y.kind=3)&&!decide (y.kind=4))&&!decide (y.op=0)||(y.not_&&!(decide (5≤y.kind)&&decide (y.kind≤8))))=true
  · rw [if_pos c2] at h;simp at h
  rw [if_neg c2] at h
  have hz:y.kind≠1→y.value.text.length≤40:=by
    intro k1
    have:zvE y=true:=by
      cases hv:zvE y with
      | true=>rfl
      | false=>simp [k1,hv] at c1
    unfold zvE at this
    simp at this
    rw [this.2.2];simp
  by_cases k1:y.kind=1
  · simp only [k1,decide_true,if_true,QB] at h
    obtain ⟨b,l1,_⟩:=bBo y.value
    rw [l1] at h
    cases b with
    | false=>simp at h
    | true =>
      simp at h
      exact ⟨by omega,by omega,cBv l1,by omega,by omega,by omega,by omega⟩
  by_cases k2:y.kind=2
  · simp only [k1,k2,decide_true,decide_false,QC,if_true,if_false,QB,Int.reduceEq] at h
    obtain ⟨b,n1,_⟩:=O0 y.name
    obtain ⟨b2,q1,_⟩:=M0 y.qual
    rw [n1] at h
    cases b with
    | false=>simp at h
    | true =>
      rw [q1] at h
      cases b2 with
      | false=>simp at h
      | true =>
        simp at h
        have e1:y.kids=[]:=WD (by omega)
        have e2:y.sub=[]:=WD (by omega)
        exact ⟨by omega,by omega,hz k1,fun _=>⟨e1,e2,bMo n1,bP5 q1⟩,by omega,by omega,by omega⟩
  have hz:=hz k1
  simp only [k1,k2,decide_false,QC,if_false,QX] at h
  by_cases k3:y.kind=3
  · simp [k3] at h;exact ⟨by simp [h.2],by omega,hz,by omega,by omega,by omega,fun _=>by simp [h.2]⟩
  by_cases k4:y.kind=4
  · simp [k4] at h;exact ⟨by simp [h.2],by omega,hz,by omega,by omega,by omega,fun _=>by simp [h.2]⟩
  by_cases k5:y.kind=5
  · simp [k5] at h;exact ⟨by simp [h.2],by omega,hz,by omega,by omega,by omega,by omega⟩
  by_cases k6:y.kind=6
  · simp [k6] at h;exact ⟨by simp [h.2],by omega,hz,by omega,by omega,by omega,by omega⟩
  by_cases k7:y.kind=7
  · simp [k7] at h;exact ⟨by simp [h.2],by omega,hz,by omega,by omega,by omega,by omega⟩
  by_cases k8:y.kind=8
  · simp [k8] at h;exact ⟨by omega,by omega,hz,by omega,by omega,by omega,by omega⟩
  by_cases k9:y.kind=9
  · simp [k9] at h;exact ⟨by omega,by simp [h.1],hz,by omega,by omega,by omega,by omega⟩
  simp [k3,k4,k5,k6,k7,k8,k9] at h
theorem bGg {y:aB}(h:nH y=some true)(hk:y.kids.length≤1048576)(hs:y.sub.length≤1048576):FmE y∧(∀ k∈y.kids,nH k=some true)∧∀ q∈y.sub,rV q=some true:=by
  rw [nH] at h
  cases hsh:zH y with
  | none=>simp [hsh] at h
  | some b =>
    cases b with
    | false=>simp [hsh] at h
    | true =>
      have hF:=bI4 hsh hk hs
      simp only [hsh,QK,QC,if_false,QB,QA] at h
      have key:∀ i,i≤y.kids.length→G8 y (i:Nat)=some true→(∀ k∈y.kids.drop i,nH k=some true)∧∀ q∈y.sub,rV q=some true:=by
        refine gD ?_ ?_
        · intro h
          rw [G8] at h
          simp only [cZ,QL,decide_false,QC,if_false,QB] at h
          refine ⟨by simp,fun q hq=>?_⟩
          have hsub:=hF.sub
          match hh:y.sub,hsub,hq with
          | [p],_,hq =>
            obtain rfl:q=p:=by simpa using hq
            have i0:idx [q] 0=some q:=rfl
            rw [hh] at h
            simp [i0] at h
            cases hr:rV q with
            | none=>simp [hr] at h
            | some b=>cases b with
              | true=>rfl
              | false=>simp [hr] at h
        · intro i hi ih h
          rw [G8] at h
          simp only [cZ,hi,bZ hi,dU hi (by omega),decide_true,if_true,QB,QA] at h
          cases hr:nH y.kids[i] with
          | none=>simp [hr] at h
          | some b =>
            cases b with
            | false=>simp [hr] at h
            | true =>
              simp only [hr,QA,QK,QC,if_false] at h
              obtain ⟨a1,a2⟩:=ih h
              rw [QG hi]
              refine ⟨fun k hk=>?_,a2⟩
              rcases QO.1 hk with rfl | hk
              · exact hr
              · exact a1 k hk
      have:=key 0 (by omega) h
      exact ⟨hF,by simpa using this.1,this.2⟩
structure FmQ (q:aL):Prop where
  items:q.items.length≤12
  from_:q.from_.length≤3
  wh:q.where_.length≤1
  order:q.order.length≤12
  as_:∀ x∈q.items,x.star=false→x.as_.length≤20
  on:∀ x∈q.from_,x.on_.length≤1
  ex:∀ y∈gZ q,nH y=some true
theorem bWk {q:aL}(h:rV q=some true)(hz:gL q≤524288):FmQ q:=by
  have hq:=zQ q
  have hel:=aR8 q
  rw [rV] at h
  have a1:kW (q.items.length:Int) 1 12=some (decide (1≤q.items.length)&&decide (q.items.length≤12)):=by
    unfold kW
    by_cases x1:1≤q.items.length<;>by_cases x2:q.items.length≤12<;>simp [x1,x2]<;>omega
  have a2:kW (q.from_.length:Int) 1 3=some (decide (1≤q.from_.length)&&decide (q.from_.length≤3)):=by
    unfold kW
    by_cases x1:1≤q.from_.length<;>by_cases x2:q.from_.length≤3<;>simp [x1,x2]<;>omega
  rw [a1,a2] at h
  simp only [QB,QA] at h
  by_cases b1:q.items.length≤12
  case neg=>simp [b1] at h
  by_cases b0:1≤q.items.length
  case neg=>simp [b0] at h
  by_cases b2:q.from_.length≤3
  case neg=>simp [b0,b1,b2] at h
  by_cases b3:1≤q.from_.length
  case neg=>simp [b0,b1,b2,b3] at h
  by_cases b4:(1:Int)<(q.where_.length:Int)
  · simp [b0,b1,b2,b3,b4] at h
  by_cases b5:(12:Int)<(q.order.length:Int)
  · simp [b0,b1,b2,b3,b4,b5] at h
  by_cases b6:q.limit < -1
  · simp [b0,b1,b2,b3,b4,b5,b6] at h
  simp only [b0,b1,b2,b3,b4,b5,b6,decide_true,decide_false,WA,QK,QC,if_false,if_true,beq_self_eq_true,QA] at h
  have L2:∀ i,i≤(gZ q).length→F4 (gZ q) (i:Nat)=some true→∀ y∈(gZ q).drop i,nH y=some true:=by
    refine gD ?_ ?_
    · intro _ y hy;simp at hy
    · intro i hi ih h
      rw [F4] at h
      simp only [cZ,hi,bZ hi,dU hi (by omega),decide_true,if_true,QB,QA] at h
      cases hr:nH (gZ q)[i] with
      | none=>simp [hr] at h
      | some b =>
        cases b with
        | false=>simp [hr] at h
        | true =>
          simp only [hr,QA,QK,QC,if_false] at h
          rw [QG hi]
          intro y hy
          rcases QO.1 hy with rfl | hy
          · exact hr
          · exact ih h y hy
  have L1:∀ i,i≤q.from_.length→zF q (i:Nat)=some true→(∀ x∈q.from_.drop i,x.on_.length≤1)∧∀ y∈gZ q,nH y=some true:=by
    refine gD ?_ ?_
    · intro h
      rw [zF] at h
      simp only [cZ,QL,decide_false,QC,if_false,aPt q (by omega),QB,QA] at h
      exact ⟨by simp,by simpa using L2 0 (by omega) h⟩
    · intro i hi ih h
      rw [zF] at h
      obtain ⟨b1,n1,_⟩:=O0 q.from_[i].table
      obtain ⟨b2,n2,_⟩:=M0 q.from_[i].as_
      simp only [cZ,hi,bZ hi,dU hi (by omega),n1,n2,decide_true,if_true,QB,QA] at h
      generalize hX:zF q ((i+1:Nat):Int)=X at h ih
      have:X=some true∧decide ((1:Int)<(q.from_[i].on_.length:Int))=false:=by
        revert h
        generalize decide ((1:Int)<(q.from_[i].on_.length:Int))=d1
        generalize decide ((0:Int)<(q.from_[i].on_.length:Int))=d2
        generalize decide ((i:Int)=0)=d3
        cases b1<;>cases b2<;>cases d1<;>cases d2<;>cases d3<;>simp
      obtain ⟨a1,a2⟩:=ih this.1
      rw [QG hi]
      refine ⟨fun x hx=>?_,a2⟩
      rcases QO.1 hx with rfl | hx
      · have:=this.2
        rw [decide_eq_false_iff_not] at this
        omega
      · exact a1 x hx
  have L0:∀ i,i≤q.items.length→zK q (i:Nat)=some true→(∀ x∈q.items.drop i,x.star=false→x.as_.length≤20)∧(∀ x∈q.from_,x.on_.length≤1)∧∀ y∈gZ q,nH y=some true:=by
    refine gD ?_ ?_
    · intro h
      rw [zK] at h
      simp only [cZ,QL,decide_false,QC,if_false] at h
      exact ⟨by simp,by simpa using (L1 0 (by omega) h).1,(L1 0 (by omega) h).2⟩
    · intro i hi ih h
      rw [zK] at h
      obtain ⟨b1,n1,_⟩:=M0 q.items[i].qual
      obtain ⟨b2,n2,_⟩:=M0 q.items[i].as_
      obtain ⟨_,b3,n3⟩:=bG3 q.items[i].expr
      simp only [cZ,hi,bZ hi,dU hi (by omega),n1,n2,n3,decide_true,if_true,QB,QA] at h
      generalize hX:zK q ((i+1:Nat):Int)=X at h ih
      have:X=some true∧(q.items[i].star=false→b2=true):=by
        revert h
        generalize decide (q.items[i].qual=[])=d1
        generalize decide (q.items[i].as_=[])=d2
        cases q.items[i].star<;>cases b1<;>cases b2<;>cases b3<;>cases d1<;>cases d2<;>simp
      obtain ⟨a1,a2⟩:=ih this.1
      rw [QG hi]
      refine ⟨fun x hx hs=>?_,a2⟩
      rcases QO.1 hx with rfl | hx
      · have:=this.2 hs
        subst this
        exact bP5 n2
      · exact a1 x hx hs
  obtain ⟨a3,a5,a4⟩:=L0 0 (by omega) h
  exact ⟨b1,b2,by omega,by omega,by simpa using a3,a5,a4⟩
def cEm (y:aB):Nat:=1+1000 * (1+bX y)
def cQ (q:aL):Nat:=1+1000 * (1+gL q)
theorem aRl:∀ l:List aB,(l.map cEm).sum=1001 * l.length+1000 * dD l
  | []=>by simp [dD]
  | y::l=>by simp only [QI,QJ,QE,dD,aRl l,cEm];omega
theorem bOi:∀ l:List aL,(l.map cQ).sum=1001 * l.length+1000 * jH l
  | []=>by simp [jH]
  | y::l=>by simp only [QI,QJ,QE,jH,bOi l,cQ];omega
theorem Out.same {k:Int}{n:List UInt8}(G:Prop)(h:k≠0):Out k n k n G:=⟨fun _=>⟨rfl,rfl⟩,fun h0=>absurd h0 h⟩
def RE (c:aP)(env:List aR)(y:aB):Prop:=∀ k n,∃ p ty k' n',aC2 (RF c k n) env y=some (p,ty,RF c k' n')∧Out k n k' n' (GE c env y)∧(k=0→k'=0→bU p≤1000 * (1+bX y))
def RQ (c:aP)(env:List aR)(q:aL):Prop:=∀ k n,∃ p ts k' n',aH3 (RF c k n) env q=some (p,ts,RF c k' n')∧Out k n k' n' (GQu c env q)∧ts.length≤1000∧(k=0→k'=0→iR p≤1000 * (1+gL q))
theorem aPp {α:Type}(z:α→Nat)(l:List α)(x:α):zL z (l++[x])=zL z l+1+z x:=by simp [zL];omega
theorem x_R {c:aP}{env:List aR}{y:aB}(he:Names env)(hz:bX y≤524288)(hF:FmE y) (hG:GE c env y↔(y.kind=2→(vD env y).count=1)∧(∀ k∈y.kids,GE c env k)∧∀ q∈y.sub,GQu c env q)
    (HK:∀ k∈y.kids,RE c env k) (HQ:∀ q∈y.sub,RQ c env q):RE c env y:=by
  have hzy:=zE y
  have hbound:∀ (u a:Int) (ks:List aJ) (ps:List bA),zL bU ks≤(y.kids.map cEm).sum→zL iR ps≤(y.sub.map cQ).sum→bU (aJ.mk y.kind y.op y.not_ y.value u a ks ps)≤1000 * (1+bX y):=by
    intro u a ks ps h1 h2
    rw [aGd]
    dsimp only
    rw [aRl] at h1
    rw [bOi] at h2
    have:=hF.kids
    have:=hF.sub
    have:=hF.text
    omega
  have hG2:GE c env y↔((∀ k∈y.kids,GE c env k)∧((∀ q∈y.sub,GQu c env q)∧(y.kind=2→(vD env y).count=1))):=by
    rw [hG];exact ⟨fun h=>⟨h.2.1,h.2.2,h.1⟩,fun h=>⟨h.2.2,h.1,h.2.1⟩⟩
  obtain ⟨C,hC⟩:∃ C:Prop,C↔(y.kind=2→(vD env y).count=1):=⟨_,Iff.rfl⟩
  rw [← hC] at hG2
  have keyQ:∀ (ks:List aJ) (ts:List Int),ts.length=y.kids.length→∀ i,i≤y.sub.length→∀ (k:Int) (n:List UInt8) (ps:List bA) (st:List Int),ps.length≤i→st.length≤1000→(k=0→zL bU ks≤(y.kids.map cEm).sum∧zL iR ps+((y.sub.drop i).map cQ).sum≤(y.sub.map cQ).sum) →
      ∃ p ty k' n',aFz env y ks ts (i:Nat) c.tables (k,n,ps,st)=some (p,ty,RF c k' n')∧Out k n k' n' ((∀ q∈y.sub.drop i,GQu c env q)∧C)∧(k=0→k'=0→bU p≤1000 * (1+bX y)):=by
    intro ks ts hts
    refine gD ?_ ?_
    · intro k n ps st _ hst hb
      rw [aFz]
      simp only [cZ,QL,decide_false,QC,if_false]
      have hb2:k=0→zL bU ks≤(y.kids.map cEm).sum∧zL iR ps≤(y.sub.map cQ).sum:=fun h=>by
        obtain ⟨h1,h2⟩:=hb h
        exact ⟨h1,by omega⟩
      by_cases k2:y.kind=2
      · obtain ⟨b,cd,f1,f2⟩:=bZc he y.qual y.name
        have hd2:decide (y.kind=2)=true:=by simp [k2]
        simp only [hd2,if_true,f1,QB,QA]
        have hu:(vD env y).count=(nT y.qual y.name env 0).1:=rfl
        by_cases h0:cd=0
        · have hc:(vD env y).count=1:=by
            rw [hu]
            rcases f2 with h | h | h
            · exact h.2
            · omega
            · omega
          rw [if_neg (by simp [h0])]
          refine ⟨_,_,k,n,rfl,(Out.refl k n).iff ⟨fun _=>⟨by simp,hC.2 fun _=>hc⟩,fun _=>trivial⟩,fun hk _=>?_⟩
          obtain ⟨h1,h2⟩:=hb2 hk
          exact hbound _ _ _ _ h1 h2
        · have hc:¬ (vD env y).count=1:=by
            rw [hu]
            rcases f2 with h | h | h
            · exact absurd h.1 h0
            · exact h.2
            · exact h.2
          obtain ⟨-,-,hn1,hn2⟩:=hF.col k2
          have hcn:∃ s,aL7 y.qual y.name=some s:=by
            unfold aL7
            by_cases hq:y.qual=[]
            · simp [hq]
            · rw [if_neg (by simpa using hq),aK2 (by simp;omega)]
              simp only [QB,QA]
              rw [aK2 (by simp;omega)]
              exact ⟨_,rfl⟩
          obtain ⟨s,hs⟩:=hcn
          rw [if_pos (by simp [h0])]
          simp only [hs,O7,QA]
          refine ⟨_,_,_,_,rfl,Out.bad cd h0 (fun h=>hc (hC.1 h.2 k2)),fun hk h=>?_⟩
          rw [if_pos hk] at h
          exact absurd h h0
      · obtain ⟨⟨ty,ok⟩,hr⟩:=bVs (aJ.mk y.kind y.op y.not_ y.value 0 0 ks ps) ts st (by have:=hF.kids;omega) (by omega) (fun h3=>by have:=hF.un h3;omega) (fun h4=>by have:=hF.bin h4;omega)
        have hd2:decide (y.kind=2)=false:=by simp [k2]
        simp only [hd2,QC,if_false,hr,QB,QA]
        cases ok with
        | false =>
          simp only [QN,if_true,O7,QA]
          refine ⟨_,_,_,_,rfl,Out.other _ 5 (by omega),fun hk h=>?_⟩
          rw [if_pos hk] at h
          omega
        | true =>
          simp only [QK,QC,if_false]
          refine ⟨_,_,k,n,rfl,(Out.refl k n).iff ⟨fun _=>⟨by simp,hC.2 fun h=>absurd h k2⟩,fun _=>trivial⟩,fun hk _=>?_⟩
          obtain ⟨h1,h2⟩:=hb2 hk
          exact hbound _ _ _ _ h1 h2
    · intro i hi ih k n ps st hps hst hb
      obtain ⟨p,st2,k1,n1,e1,o1,l1,z1⟩:=HQ _ (QF hi) k n
      have hcons:(∀ q∈y.sub.drop i,GQu c env q)↔GQu c env y.sub[i]∧∀ q∈y.sub.drop (i+1),GQu c env q:=by
        rw [QG hi];exact QZ
      rw [aFz]
      simp only [cZ,hi,bZ hi,e1,tN,decide_true,if_true,QB,QA,WB]
      have J:∀ (k2:Int) (n2:List UInt8) (Hx:Out k n k2 n2 (GQu c env y.sub[i])) (hz2:k=0→k2=0→iR p≤1000 * (1+gL y.sub[i])),∃ p' ty k' n',aHw env y (i:Nat) (p,st2,RF c k1 n1) ps ks (ts,c.tables,k2,n2)=some (p',ty,RF c k' n')∧Out k n k' n' ((∀ q∈y.sub.drop i,GQu c env q)∧C)∧(k=0→k'=0→bU p'≤1000 * (1+bX y)):=by
        intro k2 n2 Hx hz2
        rw [aHw]
        simp only [tN,QB,QA]
        by_cases h2:k2=0
        · rw [if_neg (by simp [h2]),iI (by have:=hF.sub;simp;omega),QA,dU hi (by have:=hF.sub;omega)]
          obtain ⟨p',ty,k',n',e2,o2,z2⟩:=ih k2 n2 (ps++[p]) st2 (by simp;omega) l1 (fun _=>by
            have hk0:k=0:=by
              by_cases h:k=0
              · exact h
              · have:=(Hx.1 h).1;omega
            obtain ⟨b1,b2⟩:=hb hk0
            have:=hz2 hk0 h2
            refine ⟨b1,?_⟩
            rw [QG hi,QI,QJ] at b2
            rw [aPp]
            unfold cQ at b2 ⊢
            omega)
          refine ⟨p',ty,k',n',e2,(Hx.trans o2).iff ?_,fun hk hk'=>z2 h2 hk'⟩
          rw [hcons];exact ⟨fun h=>⟨⟨h.1,h.2.1⟩,h.2.2⟩,fun h=>⟨h.1.1,h.1.2,h.2⟩⟩
        · rw [if_pos (by simp [h2])]
          refine ⟨_,_,k2,n2,rfl,(Hx.stop ((∀ q∈y.sub.drop (i+1),GQu c env q)∧C) h2).iff ?_,fun _ h=>absurd h h2⟩
          rw [hcons];exact ⟨fun h=>⟨⟨h.1,h.2.1⟩,h.2.2⟩,fun h=>⟨h.1.1,h.1.2,h.2⟩⟩
      by_cases h1:k1=0
      · have hd1:decide (k1=0)=true:=by simp [h1]
        by_cases k8:y.kind=8
        · have hd8:decide (y.kind=8)=true:=by simp [k8]
          by_cases hl:(st2.length:Int)=1
          · have hdl:decide ((st2.length:Int)=1)=true:=by simp [hl]
            simp only [hd1,hd8,hdl,QK,if_true,QC,if_false,QA]
            exact J k1 n1 o1 z1
          · have hdl:decide ((st2.length:Int)=1)=false:=by simp [hl]
            simp only [hd1,hd8,hdl,QN,if_true,QA,O7]
            refine J _ _ ((o1.trans (Out.other (m:=[]) True 6 (by omega))).iff (by simp)) fun hk h=>?_
            rw [if_pos h1] at h;omega
        · have hd8:decide (y.kind=8)=false:=by simp [k8]
          simp only [hd1,hd8,QC,if_true,if_false,QA]
          exact J k1 n1 o1 z1
      · have hd1:decide (k1=0)=false:=by simp [h1]
        simp only [hd1,QC,if_false,QA]
        exact J k1 n1 o1 z1
  have keyK:∀ i,i≤y.kids.length→∀ (k:Int) (n:List UInt8) (ks:List aJ) (ts:List Int),ks.length≤i→ts.length=i→(k=0→zL bU ks+((y.kids.drop i).map cEm).sum≤(y.kids.map cEm).sum) →
      ∃ p ty k' n',aDp env y (i:Nat) c.tables k n (ks,ts)=some (p,ty,RF c k' n')∧Out k n k' n' ((∀ e∈y.kids.drop i,GE c env e)∧((∀ q∈y.sub,GQu c env q)∧C))∧(k=0→k'=0→bU p≤1000 * (1+bX y)):=by
    refine gD ?_ ?_
    · intro k n ks ts _ hts hb
      rw [aDp]
      simp only [cZ,QL,decide_false,QC,if_false]
      obtain ⟨p,ty,k',n',e,o,z⟩:=keyQ ks ts hts 0 (by omega) k n [] [] (by simp) (by simp) (fun h=>⟨by have:=hb h;omega,by simp [zL]⟩)
      exact ⟨p,ty,k',n',e,o.iff (by simp),z⟩
    · intro i hi ih k n ks ts hks hts hb
      obtain ⟨p,ty,k1,n1,e1,o1,z1⟩:=HK _ (QF hi) k n
      have hcons:(∀ e∈y.kids.drop i,GE c env e)↔GE c env y.kids[i]∧∀ e∈y.kids.drop (i+1),GE c env e:=by
        rw [QG hi];exact QZ
      have hik:=hF.kids
      rw [aDp]
      simp only [cZ,hi,bZ hi,e1,tN,decide_true,if_true,QB,QA]
      by_cases h1:k1=0
      · rw [if_neg (by simp [h1]),iI (by simp;omega),QA,iI (by simp;omega),QA,dU hi (by omega)]
        have hk0:k=0:=by
          by_cases h:k=0
          · exact h
          · have:=(o1.1 h).1;omega
        obtain ⟨p',ty',k',n',e2,o2,z2⟩:=ih k1 n1 (ks++[p]) (ts++[ty]) (by simp;omega) (by simp;omega) (fun _=>by
          have b2:=hb hk0
          have:=z1 hk0 h1
          rw [QG hi,QI,QJ] at b2
          rw [aPp]
          unfold cEm at b2 ⊢
          omega)
        refine ⟨p',ty',k',n',e2,(o1.trans o2).iff ?_,fun _ hk'=>z2 h1 hk'⟩
        rw [hcons];exact ⟨fun h=>⟨⟨h.1,h.2.1⟩,h.2.2⟩,fun h=>⟨h.1.1,h.1.2,h.2⟩⟩
      · rw [if_pos (by simp [h1])]
        refine ⟨_,_,k1,n1,rfl,(o1.stop ((∀ e∈y.kids.drop (i+1),GE c env e)∧((∀ q∈y.sub,GQu c env q)∧C)) h1).iff ?_,fun _ h=>absurd h h1⟩
        rw [hcons];exact ⟨fun h=>⟨⟨h.1,h.2.1⟩,h.2.2⟩,fun h=>⟨h.1.1,h.1.2,h.2⟩⟩
  intro k n
  obtain ⟨p,ty,k',n',e,o,z⟩:=keyK 0 (by omega) k n [] [] (by simp) rfl (fun _=>by simp [zL])
  refine ⟨p,ty,k',n',by rw [aC2];exact e,o.iff ?_,z⟩
  rw [hG2];simp
theorem bGx {c:aP}{env:List aR}{l:List aB}(hl:l.length≤1000)(H:∀ e∈l,RE c env e)(k:Int)(n:List UInt8) :
    ∃ out k' n',aGw (RF c k n) env l=some (out,RF c k' n')∧Out k n k' n' (∀ e∈l,GE c env e)∧(k=0→k'=0→zL bU out≤(l.map cEm).sum):=by
  have key:∀ i,i≤l.length→∀ (k:Int) (n:List UInt8) (acc:List aJ),acc.length≤i→(k=0→zL bU acc+((l.drop i).map cEm).sum≤(l.map cEm).sum) →
      ∃ out k' n',aEs env l (i:Nat) c.tables k n acc=some (out,RF c k' n')∧Out k n k' n' (∀ e∈l.drop i,GE c env e)∧(k=0→k'=0→zL bU out≤(l.map cEm).sum):=by
    refine gD ?_ ?_
    · intro k n acc _ hb
      rw [aEs]
      simp only [cZ,QL,decide_false,QC,if_false]
      exact ⟨acc,k,n,rfl,(Out.refl k n).iff (by simp),fun h _=>by have:=hb h;omega⟩
    · intro i hi ih k n acc ha hb
      obtain ⟨p,ty,k1,n1,e1,o1,z1⟩:=H _ (QF hi) k n
      obtain ⟨b,hbt⟩:=aT4 ty
      have hcons:(∀ e∈l.drop i,GE c env e)↔GE c env l[i]∧∀ e∈l.drop (i+1),GE c env e:=by
        rw [QG hi];exact QZ
      have J:∀ (k2:Int) (n2:List UInt8) (Hx:Out k n k2 n2 (GE c env l[i])) (hz2:k=0→k2=0→bU p≤1000 * (1+bX l[i])),∃ out k' n',aHd env l (i:Nat) (p,ty,RF c k1 n1) acc c.tables (k2,n2)=some (out,RF c k' n')∧Out k n k' n' (∀ e∈l.drop i,GE c env e)∧(k=0→k'=0→zL bU out≤(l.map cEm).sum):=by
        intro k2 n2 Hx hz2
        rw [aHd,iI (by simp;omega)]
        simp only [QB,QA]
        rw [dU hi (by omega)]
        have h20:k2=0→k=0:=fun h2=>by
          by_cases h:k=0
          · exact h
          · have:=(Hx.1 h).1;omega
        obtain ⟨out,k',n',e2,o2,z2⟩:=ih k2 n2 (acc++[p]) (by simp;omega) (fun h2=>by
          have b2:=hb (h20 h2)
          have:=hz2 (h20 h2) h2
          rw [QG hi,QI,QJ] at b2
          rw [aPp]
          unfold cEm at b2 ⊢
          omega)
        refine ⟨out,k',n',e2,(Hx.trans o2).iff hcons.symm,fun hk hk'=>?_⟩
        by_cases h2:k2=0
        · exact z2 h2 hk'
        · have:=(o2.1 h2).1;omega
      rw [aEs]
      simp only [cZ,hi,bZ hi,e1,tN,hbt,decide_true,if_true,QB,QA,WB,QY]
      by_cases h1:k1=0
      · have hd1:decide (k1=0)=true:=by simp [h1]
        cases b with
        | false =>
          simp only [hd1,QN,beq_self_eq_true,if_true,QA,O7]
          refine J _ _ ((o1.trans (Out.other (m:=[]) True 5 (by omega))).iff (by simp)) fun hk h=>?_
          rw [if_pos h1] at h;omega
        | true =>
          simp only [hd1,QK,beq_self_eq_true,if_true,QA,QC,if_false]
          exact J k1 n1 o1 z1
      · have hd1:decide (k1=0)=false:=by simp [h1]
        simp only [hd1,QC,if_false,QA]
        exact J k1 n1 o1 z1
  rw [aGw]
  obtain ⟨out,k',n',e,o,z⟩:=key 0 (by omega) k n [] (by simp) (fun _=>by simp [zL])
  exact ⟨out,k',n',e,o.iff (by simp),z⟩
theorem bHi (c:aP)(hc:qH c):∀ (l:List bI) (seen:List (List UInt8)) (names:List dX),(∀ x∈names,x.name.length≤20)→∀ x∈(fH c l seen names).1.names,x.name.length≤20
  | [],seen,names,h=>by simpa [fH] using h
  | s::l,seen,names,h=>by
    rw [fH]
    obtain ⟨k,_,_,t3,t4⟩:=aLn c hc s.table
    rw [t3]
    split
    · simp
    · rename_i hk
      split
      · simp
      · obtain ⟨t,ht,h0,hkl,_,h4,h1⟩:=t4.resolve_left hk
        refine bHi c hc l _ _ ?_
        rw [ht]
        intro x hx
        rcases QT.1 hx with hx | hx
        · exact h x hx
        · obtain ⟨y,hy,rfl⟩:=List.mem_map.1 hx
          obtain ⟨j,hj,rfl⟩:=WE hy
          obtain ⟨t',ht',hp,_⟩:=hc.1 _ hkl
          rw [ht] at ht'
          obtain rfl:t=t':=by simpa using ht'
          obtain ⟨z,z1,z2,_⟩:=hp.1 j hj
          have hj':j<t.cols.length:=hj
          rw [QV hj'] at z1
          obtain rfl:t.cols[j]=z:=by simpa using z1
          exact z2.2
theorem bMj (c:aP):∀ (l:List bI) (seen:List (List UInt8)) (names:List dX),(fH c l seen names).2.1=0∨(fH c l seen names).2.1=1∨(fH c l seen names).2.1=2
  | [],seen,names=>by simp [fH]
  | s::l,seen,names=>by
    rw [fH]
    split
    · simp
    · split
      · simp
      · exact bMj c l _ _
theorem bNw (s:aR)(env:List aR)(h:env.length≤2097152):K5 s env=some (s::env):=by
  unfold K5
  rw [iI (by simp;omega)];rfl
theorem cFp {c:aP}(hc:qH c){env:List aR}(he:env.length≤2097152){l:List bI}(hl:l.length≤3)(hon:∀ x∈l,x.on_.length≤1)
    (H:∀ (i:Nat) (hi:i<l.length),∀ e∈l[i].on_,RE c ((fH c (l.take (i+1)) [] []).1::env) e) (w:List aJ) (o:List dL) (is:List aJ) (ns:List (List UInt8)) (ds:Bool) (lm:Int) (k:Int) (n:List UInt8) :
    ∃ sc k' n' ta oa,aLd (RF c k n) env l [] [] w (o,is,ns,ds,lm)=some (sc,RF c k' n',ds,lm,ta,oa) ∧
      Out k n k' n' ((∀ (j:Nat) (hj:j<l.length),∀ e∈l[j].on_,GE c ((fH c (l.take (j+1)) [] []).1::env) e)∧(fH c l [] []).2.1=0)∧(k'=0→sc=(fH c l [] []).1) ∧
      (k=0→k'=0→ta.length≤l.length∧zL (zL bU) oa≤(l.map fun x=>1+(x.on_.map cEm).sum).sum):=by
  have key:∀ i,i≤l.length→∀ (k:Int) (n:List UInt8) (ta:List Int) (oa:List (List aJ)),ta.length≤i→oa.length≤i→(fH c (l.take i) [] []).2.1=0→(k=0→zL (zL bU) oa+((l.drop i).map fun x=>1+(x.on_.map cEm).sum).sum≤(l.map fun x=>1+(x.on_.map cEm).sum).sum) →
      ∃ sc k' n' ta' oa',aEj env l ds lm w o (is,ns,((i:Nat):Int),(fH c (l.take i) [] []).1.names,c.tables,k,n,ta,oa)=some (sc,RF c k' n',ds,lm,ta',oa') ∧
        Out k n k' n' ((∀ (j:Nat) (hj:j<l.length),i≤j→∀ e∈l[j].on_,GE c ((fH c (l.take (j+1)) [] []).1::env) e)∧(fH c l [] []).2.1=0)∧(k'=0→sc=(fH c l [] []).1) ∧
        (k=0→k'=0→ta'.length≤l.length∧zL (zL bU) oa'≤(l.map fun x=>1+(x.on_.map cEm).sum).sum):=by
    refine gD ?_ ?_
    · intro k n ta oa hta _ hsc hb
      rw [aEj]
      rw [WG] at hsc
      simp only [cZ,QL,decide_false,QC,if_false,WG]
      exact ⟨_,k,n,ta,oa,rfl,(Out.refl k n).iff ⟨fun _=>⟨fun j hj h=>by omega,hsc⟩,fun _=>trivial⟩,fun _=>rfl,fun h _=>⟨hta,by have:=hb h;omega⟩⟩
    · intro i hi ih k n ta oa hta hoa hsc hb
      have hs:nR l 0 ((i+1:Nat):Int)=some (l.take (i+1)):=bPi (by omega)
      have hcodes:=bMj c (l.take (i+1)) [] []
      rw [aEj]
      simp only [cZ,hi,bZ hi,dU hi (by omega),hs,bBd c hc (l.take (i+1)) (by rw [WH];omega),decide_true,if_true,QB,QA]
      by_cases h0:(fH c (l.take (i+1)) [] []).2.1=0
      · have hd0:(!decide ((fH c (l.take (i+1)) [] []).2.1=0))=false:=by simp [h0]
        simp only [hd0,QC,if_false]
        rw [aIe]
        simp only [tN,QB,QA]
        by_cases hk:k=0
        · obtain ⟨t,_,t2,_⟩:=aLn c hc l[i].table
          obtain ⟨on,k1,n1,e1,o1,z1⟩:=bGx (by have:=hon _ (QF hi);omega) (H i hi) k n
          rw [if_neg (by simp [hk])]
          simp only [t2,bNw _ env he,e1,QA]
          rw [iI (by simp;omega),QA,iI (by simp;omega),QA,dU hi (by omega)]
          obtain ⟨sc,k',n',ta',oa',e2,o2,s2,z2⟩:=ih k1 n1 (ta++[t]) (oa++[on]) (by simp;omega) (by simp;omega) h0 (fun h1=>by
            have b2:=hb hk
            have:=z1 hk h1
            rw [QG hi,QI,QJ] at b2
            rw [aPp]
            omega)
          refine ⟨sc,k',n',ta',oa',e2,(o1.trans o2).iff ⟨fun h=>⟨fun j hj hij=>?_,h.2.2⟩,fun h=>⟨h.1 i hi (QR _),fun j hj hij=>h.1 j hj (by omega),h.2⟩⟩,s2,fun _ hk'=>?_⟩
          · by_cases e:j=i
            · subst e;exact h.1
            · exact h.2.1 j hj (by omega)
          · by_cases h1:k1=0
            · exact z2 h1 hk'
            · have:=(o2.1 h1).1;omega
        · rw [if_pos (by simp [hk])]
          exact ⟨_,k,n,_,_,rfl,Out.same _ hk,fun h=>absurd h hk,fun h=>absurd h hk⟩
      · have hd0:(!decide ((fH c (l.take (i+1)) [] []).2.1=0))=true:=by simp [h0]
        have hG:¬ (fH c l [] []).2.1=0:=fun h=>h0 (aQc c _ (l.drop (i+1)) [] [] (by rw [List.take_append_drop];exact h))
        simp only [hd0,if_true,O7,QA]
        rw [aIe]
        have hk2:¬ (if k=0 then (fH c (l.take (i+1)) [] []).2.1 else k)=0:=by
          by_cases h:k=0
          · rw [if_pos h];exact h0
          · rw [if_neg h];exact h
        simp only [tN,QB,QA]
        rw [if_pos (by simp only [hk2,decide_false,QN])]
        exact ⟨_,_,_,_,_,rfl,Out.bad _ h0 (fun h=>hG h.2),fun h=>absurd h hk2,fun _ h=>absurd h hk2⟩
  rw [aLd]
  obtain ⟨sc,k',n',ta,oa,e,o',s,z⟩:=key 0 (by omega) k n [] [] (by simp) (by simp) (by simp [fH]) (fun _=>by simp [zL])
  refine ⟨sc,k',n',ta,oa,by simpa [fH] using e,o'.iff ⟨fun h=>⟨fun j hj=>h.1 j hj (by omega),h.2⟩,fun h=>⟨fun j hj _=>h.1 j hj,h.2⟩⟩,s,z⟩
theorem bR2 (c:aP)(k:Int)(n:List UInt8)(a:List Int)(b:List (List aJ))(w:List aJ)(o:List dL)(is:List aJ)(ns:List (List UInt8))(ds:Bool)(lm:Int)(e:aJ)(m:List UInt8)(hi:is.length≤100)(hn:ns.length≤100) :
    aKj (RF c k n) a b w o is ns ds lm e m=some ((if 12<is.length+1 then RF c (if k=0 then 8 else k) (if k=0 then [] else n) else RF c k n),ds,lm,is++[e],ns++[m]):=by
  have h1:∀ z:aJ,appG 120 is [z]=some (is++[z]):=fun z=>iI (by simp;omega)
  have h2:appG 16 ns [m]=some (ns++[m]):=iI (by simp;omega)
  have h3:∀ z:aJ,idx (is++[z]) (is.length:Int)=some z:=fun z=>by rw [bAj];simp
  unfold aKj
  simp only [h1,h2,h3,QB,QA,QM,QE,QH]
  by_cases h:12<is.length+1
  · have hd:decide ((12:Int)<((is.length+(0+1):Nat):Int))=true:=by rw [decide_eq_true_eq];omega
    rw [if_pos hd,if_pos h,O7];simp
  · have hd:decide ((12:Int)<((is.length+(0+1):Nat):Int))=false:=by rw [decide_eq_false_iff_not];omega
    rw [if_neg h,if_neg (by rw [hd];simp)];simp
theorem cGu (c:aP)(k:Int)(n:List UInt8)(a:List Int)(b:List (List aJ))(w:List aJ)(o:List dL)(is:List aJ)(ns:List (List UInt8))(ds:Bool)(lm:Int)(u:Int)(m:List UInt8)(hi:is.length≤100)(hn:ns.length≤100) :
    aMa (RF c k n) a b w o is ns ds lm (aJ.mk 2 0 false (bP.mk 0 0 []) 0 u [] []) m=some ((if 12<is.length+1 then RF c (if k=0 then 8 else k) (if k=0 then [] else n) else RF c k n),ds,lm,is++[aJ.mk 2 0 false (bP.mk 0 0 []) 0 u [] []],ns++[m]):=by
  have h1:∀ z:aJ,appG 120 is [z]=some (is++[z]):=fun z=>iI (by simp;omega)
  have h2:appG 16 ns [m]=some (ns++[m]):=iI (by simp;omega)
  have h3:∀ z:aJ,idx (is++[z]) (is.length:Int)=some z:=fun z=>by rw [bAj];simp
  unfold aMa
  simp only [h1,h2,h3,QB,QA,QM,QE,QH]
  by_cases h:12<is.length+1
  · have hd:decide ((12:Int)<((is.length+(0+1):Nat):Int))=true:=by rw [decide_eq_true_eq];omega
    rw [if_pos hd,if_pos h,O7];simp
  · have hd:decide ((12:Int)<((is.length+(0+1):Nat):Int))=false:=by rw [decide_eq_false_iff_not];omega
    rw [if_neg h,if_neg (by rw [hd];simp)];simp
structure IS (k:Int) (tt:List Int) (is:List aJ) (nn:List (List UInt8)):Prop where
  l1:nn.length=is.length
  l2:is.length≤13
  l3:tt.length≤is.length+1
  l4:k=0→is.length≤12∧tt.length=is.length
  nm:∀ m∈nn,m.length≤30
theorem IS.add {k:Int}{tt:List Int}{is:List aJ}{nn:List (List UInt8)}(h:IS k tt is nn)(hk:k=0)(n:List UInt8)(t:Int)(e:aJ)(m:List UInt8)(hm:m.length≤30) :
    ∃ k2 n2,(if 12<is.length+1 then (if k=0 then 8 else k) else k)=k2∧(if 12<is.length+1 then (if k=0 then [] else n) else n)=n2∧IS k2 (tt++[t]) (is++[e]) (nn++[m])∧Out k n k2 n2 True:=by
  obtain ⟨a1,a2⟩:=h.l4 hk
  have hnm:∀ x∈nn++[m],x.length≤30:=fun x hx=>by
    rcases QT.1 hx with hx | hx
    · exact h.nm x hx
    · rw [List.mem_singleton.1 hx];exact hm
  have h1:=h.l1
  by_cases h12:12<is.length+1
  · refine ⟨_,_,rfl,rfl,⟨by simp [h1],by simp;omega,by simp;omega,fun h8=>?_,hnm⟩,?_⟩
    · rw [if_pos h12,if_pos hk] at h8;omega
    · rw [if_pos h12,if_pos h12];exact Out.other True 8 (by omega)
  · refine ⟨_,_,rfl,rfl,⟨by simp [h1],by simp;omega,by simp;omega,fun _=>⟨by simp;omega,by simp;omega⟩,hnm⟩,?_⟩
    rw [if_neg h12,if_neg h12];exact Out.refl k n
theorem bIb (c:aP)(p:Prop)[Decidable p](k1 k2:Int)(n1 n2:List UInt8):(if p then RF c k1 n1 else RF c k2 n2)=RF c (if p then k1 else k2) (if p then n1 else n2):=by split<;>rfl
def cIm (x:bG):Nat:=1000 * (1+bX x.expr)
theorem cH3 (u:Int):bU (aJ.mk 2 0 false (bP.mk 0 0 []) 0 u [] [])=0:=by rw [aGd];simp [zL]
theorem bWm {c:aP}{sc:aR}{env:List aR}(hsl:sc.names.length≤4194304)(hsn:∀ x∈sc.names,x.name.length≤20){l:List bG}(hl:l.length≤1000)
    (H:∀ x∈l,x.star=false→RE c (sc::env) x.expr∧FmE x.expr∧x.as_.length≤20) (a:List Int) (b:List (List aJ)) (w:List aJ) (o:List dL) (ds:Bool) (lm:Int) (k:Int) (n:List UInt8) :
    ∃ tt k' n' is nn,aKg (RF c k n) (sc::env) l a b w (o,[],[],ds,lm)=some (tt,RF c k' n',ds,lm,is,nn)∧Out k n k' n' (∀ x∈l,x.star=true∨GE c (sc::env) x.expr)∧tt.length≤1000 ∧
      (k=0→k'=0→is.length≤12∧(is.map bU).sum≤(l.map cIm).sum∧nn.length≤12∧∀ m∈nn,m.length≤30):=by
  have i0:idx (sc::env) 0=some sc:=rfl
  -- the stars
  have star:∀ (i:Nat) (hi:i<l.length) (ys:List Int),(∀ u∈ys,0≤u∧u<(sc.names.length:Int))→ys.length≤4194304→∀ j,j≤ys.length→∀ (k:Int) (n:List UInt8) (tt:List Int) (is:List aJ) (nn:List (List UInt8)),IS k tt is nn →
      ∃ k2 n2 tt2 is2 nn2,aDv (sc::env) l (i:Nat) ys a b (w,o,((j:Nat):Int),c.tables,k,n,ds,lm,tt,is,nn)=U4 (sc::env) l a b w o (((i+1:Nat):Int),c.tables,k2,n2,ds,lm,tt2,is2,nn2) ∧
        Out k n k2 n2 True∧IS k2 tt2 is2 nn2∧(is2.map bU).sum=(is.map bU).sum:=by
    intro i hi ys hys hyl
    refine gD ?_ ?_
    · intro k n tt is nn hI
      refine ⟨k,n,tt,is,nn,?_,Out.refl k n,hI,rfl⟩
      rw [aDv]
      simp only [cZ,QL,decide_false,QC,if_false]
      rw [aBt,dU hi (by omega)]
    · intro j hj ih k n tt is nn hI
      obtain ⟨u0,u1⟩:=hys _ (QF hj)
      have hx:idx sc.names ys[j]=some (sc.names[ys[j].toNat]'(by omega)):=by
        have:=bZ (l:=sc.names) (i:=ys[j].toNat) (by omega)
        rwa [show ((ys[j].toNat:Nat):Int)=ys[j] by omega] at this
      rw [aDv]
      simp only [cZ,hj,bZ hj,tN,decide_true,if_true,QB,QA,WB]
      by_cases hk:k=0
      · have hd:decide (k=0)=true:=by simp [hk]
        obtain ⟨k2,n2,e1,e2,hI2,o2⟩:=hI.add hk n (sc.names[ys[j].toNat]'(by omega)).type (aJ.mk 2 0 false (bP.mk 0 0 []) 0 ys[j] [] []) (sc.names[ys[j].toNat]'(by omega)).name (by have:=hsn (sc.names[ys[j].toNat]'(by omega)) (QF _);omega)
        have hq1:=hI.l1
        have hq2:=hI.l2
        have hq3:=hI.l3
        simp only [hd,if_true,i0,hx,cGu c k n a b w o is nn ds lm ys[j] _ (by omega) (by omega),bIb,e1,e2,QA]
        rw [iI (by simp;omega),QA,aDq,dU hj (by omega)]
        obtain ⟨k3,n3,tt3,is3,nn3,e3,o3,hI3,z3⟩:=ih k2 n2 _ _ _ hI2
        refine ⟨k3,n3,tt3,is3,nn3,e3,(o2.trans o3).iff (by simp),hI3,?_⟩
        rw [z3];simp [cH3]
      · have hd:decide (k=0)=false:=by simp [hk]
        simp only [hd,QC,if_false]
        rw [aDq,dU hj (by omega)]
        exact ih k n tt is nn hI
  have key:∀ i,i≤l.length→∀ (k:Int) (n:List UInt8) (tt:List Int) (is:List aJ) (nn:List (List UInt8)),IS k tt is nn→(k=0→(is.map bU).sum+((l.drop i).map cIm).sum≤(l.map cIm).sum) →
      ∃ tt' k' n' is' nn',U4 (sc::env) l a b w o (((i:Nat):Int),c.tables,k,n,ds,lm,tt,is,nn)=some (tt',RF c k' n',ds,lm,is',nn')∧Out k n k' n' (∀ x∈l.drop i,x.star=true∨GE c (sc::env) x.expr)∧tt'.length≤1000 ∧
        (k=0→k'=0→is'.length≤12∧(is'.map bU).sum≤(l.map cIm).sum∧nn'.length≤12∧∀ m∈nn',m.length≤30):=by
    refine gD ?_ ?_
    · intro k n tt is nn hI hb
      rw [U4]
      simp only [cZ,QL,decide_false,QC,if_false]
      refine ⟨tt,k,n,is,nn,rfl,(Out.refl k n).iff (by simp),by have:=hI.l2;have:=hI.l3;omega,fun hk _=>?_⟩
      obtain ⟨a1,a2⟩:=hI.l4 hk
      have:=hI.l1
      exact ⟨a1,by have:=hb hk;omega,by omega,hI.nm⟩
    · intro i hi ih k n tt is nn hI hb
      have hcons:(∀ x∈l.drop i,x.star=true∨GE c (sc::env) x.expr)↔(l[i].star=true∨GE c (sc::env) l[i].expr)∧∀ x∈l.drop (i+1),x.star=true∨GE c (sc::env) x.expr:=by
        rw [QG hi];exact QZ
      rw [U4]
      simp only [cZ,hi,bZ hi,tN,decide_true,if_true,QB,QA]
      by_cases hk:k=0
      case neg =>
        rw [if_pos (by simp [hk])]
        exact ⟨[],k,n,is,nn,rfl,Out.same _ hk,by simp,fun h=>absurd h hk⟩
      rw [if_neg (by simp [hk])]
      obtain ⟨q1,q2⟩:=hI.l4 hk
      have q3:=hI.l1
      have b2:=hb hk
      rw [QG hi,QI,QJ] at b2
      -- what follows
      have fin:∀ (k2:Int) (n2:List UInt8) (tt2:List Int) (is2:List aJ) (nn2:List (List UInt8)),IS k2 tt2 is2 nn2→Out k n k2 n2 (l[i].star=true∨GE c (sc::env) l[i].expr)→(k2=0→(is2.map bU).sum≤(is.map bU).sum+cIm l[i]) →
          ∃ tt' k' n' is' nn',U4 (sc::env) l a b w o (((i+1:Nat):Int),c.tables,k2,n2,ds,lm,tt2,is2,nn2)=some (tt',RF c k' n',ds,lm,is',nn')∧Out k n k' n' (∀ x∈l.drop i,x.star=true∨GE c (sc::env) x.expr)∧tt'.length≤1000 ∧
            (k=0→k'=0→is'.length≤12∧(is'.map bU).sum≤(l.map cIm).sum∧nn'.length≤12∧∀ m∈nn',m.length≤30):=by
        intro k2 n2 tt2 is2 nn2 hI2 o2 hz2
        obtain ⟨tt',k',n',is',nn',e3,o3,t3,z3⟩:=ih k2 n2 tt2 is2 nn2 hI2 (fun h2=>by have:=hz2 h2;omega)
        refine ⟨tt',k',n',is',nn',e3,(o2.trans o3).iff hcons.symm,t3,fun _ hk'=>?_⟩
        by_cases h2:k2=0
        · exact z3 h2 hk'
        · have:=(o3.1 h2).1;omega
      by_cases hs:l[i].star=true
      · rw [if_neg (by simp [hs])]
        simp only [i0,bGt sc l[i].qual hsl,QA]
        have hys:∀ u∈stM l[i].qual sc.names 0,0≤u∧u<(sc.names.length:Int):=fun u hu=>by have:=aX7 _ _ _ _ hu;omega
        have hyl:(stM l[i].qual sc.names 0).length≤4194304:=by have:=aDd l[i].qual sc.names 0;omega
        by_cases hy:((stM l[i].qual sc.names 0).length:Int)=0
        · have hd:decide (((stM l[i].qual sc.names 0).length:Int)=0)=true:=by simp only [hy,decide_true]
          simp only [hd,if_true,O7,QA]
          rw [aJl]
          have hI7:IS (if k=0 then 7 else k) tt is nn:=⟨q3,by omega,by omega,fun h=>by rw [if_pos hk] at h;omega,hI.nm⟩
          obtain ⟨k2,n2,tt2,is2,nn2,e2,o2,hI2,z2⟩:=star i hi _ hys hyl 0 (by omega) (if k=0 then 7 else k) (if k=0 then l[i].qual else n) tt is nn hI7
          rw [show ((0:Nat):Int)=0 from rfl] at e2
          dsimp only
          rw [e2]
          exact fin _ _ _ _ _ hI2 (((Out.other True 7 (by omega)).trans o2).iff (by simp [hs])) (fun _=>by omega)
        · have hd:decide (((stM l[i].qual sc.names 0).length:Int)=0)=false:=by simp only [hy,decide_false]
          simp only [hd,QC,if_false]
          rw [aJl]
          obtain ⟨k2,n2,tt2,is2,nn2,e2,o2,hI2,z2⟩:=star i hi _ hys hyl 0 (by omega) k n tt is nn hI
          rw [show ((0:Nat):Int)=0 from rfl] at e2
          dsimp only
          rw [e2]
          exact fin _ _ _ _ _ hI2 (o2.iff (by simp [hs])) (fun _=>by omega)
      · have hs':l[i].star=false:=by simpa using hs
        obtain ⟨hR,hFm,has⟩:=H _ (QF hi) hs'
        obtain ⟨p,ty,k1,n1,e1,o1,z1⟩:=hR k n
        rw [if_pos (by simp [hs'])]
        simp only [e1,tN,QA,WB]
        rw [iI (by simp;omega),QA]
        have o1':Out k n k1 n1 (l[i].star=true∨GE c (sc::env) l[i].expr):=o1.iff (by simp [hs'])
        by_cases h1:k1=0
        · have hd1:decide (k1=0)=true:=by simp [h1]
          have hon:∃ m,aM1 l[i] ((is.length:Nat):Int)=some m∧m.length≤30:=by
            unfold aM1
            by_cases ha:l[i].as_=[]
            · rw [if_neg (by simp [ha])]
              by_cases h2:l[i].expr.kind=2
              · exact ⟨l[i].expr.name,by rw [if_pos (by simp [h2])],by have:=(hFm.col h2).2.2.1;omega⟩
              · rw [if_neg (by simp [h2])]
                have hw:QP .i64 ((is.length:Int)+1)=((is.length+1:Nat):Int):=by rw [fM (by omega) (by omega)];omega
                have hdg:=aQa 6 (is.length+1) (by omega)
                unfold aRd aRz
                rw [hw,bH3]
                simp only [QB,QA]
                rw [aK2 (by simp only [QE,QH,Lib.decDigits_length];omega)]
                exact ⟨_,rfl,by simp only [QM,QE,QH,Lib.decDigits_length];omega⟩
            · exact ⟨l[i].as_,by rw [if_pos (by simp [ha])],by omega⟩
          obtain ⟨m,hm1,hm2⟩:=hon
          have hI1:IS k1 tt is nn:=⟨q3,by omega,by omega,fun _=>⟨q1,q2⟩,hI.nm⟩
          obtain ⟨k2,n2,f1,f2,hI2,o2⟩:=hI1.add h1 n1 ty p m hm2
          simp only [hd1,if_true,hm1,bR2 c k1 n1 a b w o is nn ds lm p m (by omega) (by omega),bIb,f1,f2,QA]
          rw [aBt,dU hi (by omega)]
          refine fin _ _ _ _ _ hI2 ((o1'.trans o2).iff (by simp)) (fun _=>?_)
          have:=z1 hk h1
          simp only [WQ,QI,WR,WS,QJ,WT,cIm]
          omega
        · have hd1:decide (k1=0)=false:=by simp [h1]
          simp only [hd1,QC,if_false]
          rw [aBt,dU hi (by omega)]
          exact fin k1 n1 _ is nn ⟨q3,by omega,by simp;omega,fun h=>absurd h h1,hI.nm⟩ o1' (fun h=>absurd h h1)
  rw [aKg]
  obtain ⟨tt,k',n',is,nn,e,o',t,z⟩:=key 0 (by omega) k n [] [] [] ⟨rfl,by simp,by simp,fun _=>by simp,by simp⟩ (fun _=>by simp)
  exact ⟨tt,k',n',is,nn,e,o'.iff (by simp),t,z⟩
theorem bLt:∀ l:List bI,(∀ x∈l,x.on_.length≤1)→(l.map fun x=>1+(x.on_.map cEm).sum).sum≤2 * l.length+1000 * iB l
  | [],_=>by simp [iB]
  | x::l,h=>by
    have h1:=bLt l fun y hy=>h y (by simp [hy])
    have h2:=h x (by simp)
    have h3:nN x=x.on_.length+dD x.on_:=by obtain ⟨a,b,d⟩:=x;simp only [nN]
    simp only [QI,QJ,QE,iB,aRl] at h1 ⊢
    omega
theorem bCh:∀ l:List eX,(l.map fun x=>cEm x.expr).sum=1001 * l.length+1000 * mZ l
  | []=>by simp [mZ]
  | x::l=>by
    have h3:yB x=bX x.expr:=by obtain ⟨a,b⟩:=x;simp only [yB]
    have ih:=bCh l
    simp only [QI,QJ,QE,mZ,ih]
    unfold cEm
    omega
theorem bNi:∀ l:List bG,(l.map cIm).sum=1000 * (l.length+iQ l)
  | []=>by simp [iQ]
  | x::l=>by
    have h3:mF x=bX x.expr:=by obtain ⟨a,b,d,e⟩:=x;simp only [mF]
    simp only [QI,QJ,QE,iQ,bNi l,cIm]
    omega
theorem cE4 {c:aP}(hc:qH c){env:List aR}(he:Names env){q:aL}(hz:gL q≤524288)(hl:env.length+gL q+1≤2097152)(hF:FmQ q)(hG:GQu c env q↔DQ c env q)
    (H:∀ env' y,Names env'→bX y<gL q→env'.length+bX y+1≤2097152→nH y=some true→RE c env' y):RQ c env q:=by
  have hzq:=zQ q
  have hscope:∀ k,(fH c (q.from_.take k) [] []).1.names.length≤2097152:=fun k=>by
    have h1:=bB5 c hc (q.from_.take k) [] []
    have h2:=bE7 q.from_ k
    simp only [QH] at h1
    omega
  have hnames:∀ k,Names ((fH c (q.from_.take k) [] []).1::env):=fun k=>⟨by simp only [QE];omega,fun s hs=>by
    rcases QO.1 hs with rfl | hs
    · have:=hscope k;omega
    · exact he.2 s hs⟩
  have hfull:q.from_.take q.from_.length=q.from_:=WG
  have hS:=hscope q.from_.length
  have hN:=hnames q.from_.length
  rw [hfull] at hS hN
  have hnm:∀ x∈(fH c q.from_ [] []).1.names,x.name.length≤20:=bHi c hc q.from_ [] [] (by simp)
  unfold DQ at hG
  generalize hSC:fH c q.from_ [] []=SC at hS hN hnm hG
  have mO:∀ (i:Nat) (hi:i<q.from_.length),∀ e∈q.from_[i].on_,e∈gZ q:=fun i hi e he=>by
    unfold gZ
    simp only [QT,WI]
    exact .inl (.inl (.inr ⟨_,QF hi,he⟩))
  have mW:∀ e∈q.where_,e∈gZ q:=fun e he=>by
    unfold gZ
    simp only [QT]
    exact .inl (.inr he)
  have mK:∀ x∈q.order,x.expr∈gZ q:=fun x hx=>by
    unfold gZ
    simp only [QT,WI]
    exact .inr ⟨x,hx,by simp⟩
  have mI:∀ x∈q.items,x.star=false→x.expr∈gZ q:=fun x hx hs=>by
    unfold gZ
    simp only [QT,WI]
    exact .inl (.inl (.inl ⟨x,hx,by simp [hs]⟩))
  have HS:∀ y∈gZ q,RE c (SC.1::env) y:=fun y hy=>H _ y hN (zY hy) (by have:=zY hy;simp only [QE];omega) (hF.ex y hy)
  have f1:=hF.items
  have f2:=hF.from_
  have f3:=hF.wh
  have f4:=hF.order
  intro k n
  obtain ⟨sc,k1,n1,ta,oa,e1,o1,s1,z1⟩:=cFp hc he.1 hF.from_ hF.on (fun i hi e hee=>H _ e (hnames (i+1)) (zY (mO i hi e hee)) (by have:=zY (mO i hi e hee);simp only [QE];omega) (hF.ex e (mO i hi e hee))) [] [] [] [] q.distinct q.limit k n
  rw [hSC] at o1 s1
  rw [aH3]
  simp only [e1,bNw _ env he.1,tN,QB,QA]
  -- what is left
  have hG2:GQu c env q↔(((∀ (j:Nat) (hj:j<q.from_.length),∀ e∈q.from_[j].on_,GE c ((fH c (q.from_.take (j+1)) [] []).1::env) e)∧SC.2.1=0)∧((∀ e∈q.where_,GE c (SC.1::env) e)∧((∀ x∈q.order,GE c (SC.1::env) x.expr)∧∀ x∈q.items,x.star=true∨GE c (SC.1::env) x.expr))):=by
    rw [hG];exact ⟨fun h=>⟨⟨h.2.1,h.1⟩,h.2.2⟩,fun h=>⟨h.1.2,h.1.1,h.2⟩⟩
  by_cases hk1:k1=0
  case neg =>
    rw [if_pos (by simp [hk1])]
    exact ⟨_,[],k1,n1,rfl,(o1.stop _ hk1).iff hG2.symm,by simp,fun _ h=>absurd h hk1⟩
  rw [if_neg (by simp [hk1])]
  obtain rfl:=s1 hk1
  have hk0:k=0:=by
    by_cases h:k=0
    · exact h
    · have:=(o1.1 h).1;omega
  obtain ⟨lt,lo⟩:=z1 hk0 hk1
  obtain ⟨wo,k2,n2,e2,o2,z2⟩:=bGx (c:=c) (env:=SC.1::env) (l:=q.where_) (by omega) (fun e hee=>HS e (mW e hee)) k1 n1
  simp only [e2,QA]
  have key:∀ i,i≤q.order.length→∀ (k3:Int) (n3:List UInt8) (acc:List dL),acc.length≤i→(k3=0→k2=0∧acc.length+(acc.map fun x=>bU x.expr).sum+((q.order.drop i).map fun x=>cEm x.expr).sum≤(q.order.map fun x=>cEm x.expr).sum) →
      ∃ p ts k' n',aDn (SC.1::env) q (SC.1,RF c k1 n1,q.distinct,q.limit,ta,oa) (wo,RF c k2 n2) (i:Nat) c.tables (k3,n3,acc)=some (p,ts,RF c k' n')∧Out k3 n3 k' n' ((∀ x∈q.order.drop i,GE c (SC.1::env) x.expr)∧∀ x∈q.items,x.star=true∨GE c (SC.1::env) x.expr)∧ts.length≤1000 ∧
        (k3=0→k'=0→iR p≤1000 * (1+gL q)):=by
    refine gD ?_ ?_
    · intro k3 n3 acc hacc hb
      rw [aDn]
      simp only [cZ,QL,decide_false,QC,if_false,tN,QB,QA]
      by_cases h3:k3=0
      case neg =>
        rw [if_pos (by simp [h3])]
        exact ⟨_,[],k3,n3,rfl,Out.same _ h3,by simp,fun h=>absurd h h3⟩
      rw [if_neg (by simp [h3])]
      obtain ⟨h2,b3⟩:=hb h3
      obtain ⟨tt,k4,n4,is,nn,e4,o4,t4,z4⟩:=bWm (c:=c) (sc:=SC.1) (env:=env) (by omega) hnm (l:=q.items) (by omega) (fun x hx hs=>⟨HS _ (mI x hx hs),by
        have hlt:=zY (mI x hx hs)
        have hzx:=zE x.expr
        exact (bGg (hF.ex _ (mI x hx hs)) (by omega) (by omega)).1,hF.as_ x hx hs⟩) ta oa wo acc q.distinct q.limit k3 n3
      simp only [e4,tN,QA]
      by_cases h4:k4=0
      case neg =>
        rw [if_pos (by simp [h4])]
        exact ⟨_,[],k4,n4,rfl,o4.iff (by simp),by simp,fun _ h=>absurd h h4⟩
      rw [if_neg (by simp [h4])]
      refine ⟨_,tt,k4,n4,rfl,o4.iff (by simp),t4,fun _ _=>?_⟩
      obtain ⟨y1,y2,y3,y4⟩:=z4 h3 h4
      have hw:=z2 hk1 h2
      rw [O3]
      dsimp only
      have a1:=D8 (z:=z0) (B:=0) (n:=3) (l:=ta) (by omega) (fun _ _=>by simp [z0])
      have a2:=D8 (z:=WU) (B:=30) (n:=12) (l:=nn) y3 y4
      have a3:=bLt q.from_ hF.on
      rw [aRl] at hw
      rw [bCh,bCh] at b3
      rw [bNi] at y2
      have a4:zL bU is=is.length+(is.map bU).sum:=rfl
      rw [a4]
      omega
    · intro i hi ih k3 n3 acc hacc hb
      have hcons:((∀ x∈q.order.drop i,GE c (SC.1::env) x.expr)∧∀ x∈q.items,x.star=true∨GE c (SC.1::env) x.expr)↔GE c (SC.1::env) q.order[i].expr∧((∀ x∈q.order.drop (i+1),GE c (SC.1::env) x.expr)∧∀ x∈q.items,x.star=true∨GE c (SC.1::env) x.expr):=by
        rw [QG hi,QZ];exact ⟨fun h=>⟨h.1.1,h.1.2,h.2⟩,fun h=>⟨⟨h.1,h.2.1⟩,h.2.2⟩⟩
      rw [aDn]
      simp only [cZ,hi,bZ hi,tN,decide_true,if_true,QB,QA]
      by_cases h3:k3=0
      case neg =>
        rw [if_pos (by simp [h3])]
        exact ⟨_,[],k3,n3,rfl,Out.same _ h3,by simp,fun h=>absurd h h3⟩
      rw [if_neg (by simp [h3])]
      obtain ⟨h2,b3⟩:=hb h3
      obtain ⟨p,ty,k4,n4,e4,o4,z4⟩:=HS _ (mK _ (QF hi)) k3 n3
      simp only [e4,QA]
      rw [iI (by simp;omega),QA,dU hi (by omega)]
      obtain ⟨p',ts,k',n',e5,o5,t5,z5⟩:=ih k4 n4 (acc++[dL.mk p q.order[i].desc]) (by simp;omega) (fun h4=>by
        have:=z4 h3 h4
        refine ⟨h2,?_⟩
        rw [QG hi,QI,QJ] at b3
        simp only [QM,QE,QH,WQ,QI,WR,WS,QJ,WT]
        unfold cEm at b3 ⊢
        omega)
      refine ⟨p',ts,k',n',e5,(o4.trans o5).iff hcons.symm,t5,fun _ hk'=>?_⟩
      by_cases h4:k4=0
      · exact z5 h4 hk'
      · have:=(o5.1 h4).1;omega
  obtain ⟨p,ts,k',n',e3,o3,t3,z3⟩:=key 0 (by omega) k2 n2 [] (by simp) (fun h=>⟨h,by simp⟩)
  refine ⟨p,ts,k',n',e3,((o1.trans (o2.trans o3)).iff ?_),t3,fun _ hk'=>?_⟩
  · rw [hG2];simp
  · by_cases h2:k2=0
    · exact z3 h2 hk'
    · have:=(o3.1 h2).1;omega
theorem bLw (c:aP)(hc:qH c):∀ n:Nat,n≤524289 →
    (∀ env y,bX y<n→Names env→env.length+bX y+1≤2097152→nH y=some true→RE c env y) ∧
    (∀ env q,gL q<n→Names env→env.length+gL q+1≤2097152→rV q=some true→RQ c env q)
  | 0,_=>⟨fun _ _ h=>by omega,fun _ _ h=>by omega⟩
  | n+1,hn=>by
    obtain ⟨ihX,ihQ⟩:=bLw c hc n (by omega)
    obtain ⟨gX,gQ⟩:=aTq c hc 524289 (QR _)
    refine ⟨fun env y hy he hl hr=>?_,fun env q hq he hl hr=>?_⟩
    · have hzy:=zE y
      obtain ⟨r1,r2,r3⟩:=bGg hr (by omega) (by omega)
      exact x_R he (by omega) r1 (gX env y (by omega) he hl).2 (fun k hk=>ihX env k (by have:=xX hk;omega) he (by have:=xX hk;omega) (r2 k hk)) (fun q hq=>ihQ env q (by have:=aAd hq;omega) he (by have:=aAd hq;omega) (r3 q hq))
    · exact cE4 hc he (by omega) hl (bWk hr (by omega)) (gQ env q (by omega) he hl).2 fun env' y he' hy hl' hr'=>ihX env' y (by omega) he' hl' hr'
theorem cG1 (c:aP)(q:aL)(hs:J5 c)(hz:gL q≤524287):∃ p f,aKp c q=some (p,f)∧(f.code=0→I7 c=some true∧G5 q=some true∧DQ c [] q)∧(aCh f.code→¬ (I7 c=some true∧G5 q=some true∧DQ c [] q)):=by
  obtain ⟨a,a1,a2⟩:=bO4 c hs
  obtain ⟨d,d1,d2⟩:=bIy q (by omega)
  unfold aKp
  rw [a1]
  cases a with
  | false=>exact ⟨_,⟨9,[]⟩,rfl,by simp,by simp⟩
  | true =>
  have hc:=a2.1 rfl
  rw [d2]
  cases d with
  | false=>exact ⟨_,⟨9,[]⟩,rfl,by simp,by simp⟩
  | true =>
  have hr:rV q=some true:=by
    rw [aFo] at d1
    cases hr:rV q with
    | none=>simp [hr] at d1
    | some b=>cases b with
      | true=>rfl
      | false=>simp [hr] at d1
  have hN:Names []:=⟨by simp,fun s hs=>by simp at hs⟩
  have hg:=((aTq c hc 524289 (QR _)).2 [] q (by omega) hN (by simp only [QH];omega)).2
  obtain ⟨p,ts,k',n',e,o,_,z⟩:=(bLw c hc 524289 (QR _)).2 [] q (by omega) hN (by simp only [QH];omega) hr 0 []
  simp only [QK,beq_self_eq_true,WA,if_true,QC,if_false,QB,QA]
  rw [show (bH.mk c (fB.mk 0 []))=RF c 0 [] from rfl,e]
  simp only [tN,QA,true_and]
  obtain ⟨b1,b2⟩:=o.2 rfl
  rw [hg] at b1 b2
  by_cases h0:k'=0
  · obtain ⟨g1,-,g3,-⟩:=bNa p (by have:=z rfl h0;omega)
    have hd:decide (k'=0)=true:=by simp [h0]
    simp only [hd,QK,QN,beq_self_eq_true,WA,if_true,g1,g3,aIh,QA,QB]
    generalize (if decide (dP p≤24)=true then decide (sP p≤200) else false)=sm
    cases sm with
    | true =>
      simp only [QK,QC,if_false,aFd,tN,hd,QB,QA]
      exact ⟨p,⟨0,[]⟩,rfl,fun _=>b1 h0,fun h=>by unfold aCh at h;simp at h⟩
    | false =>
      simp only [QN,if_true,O7,QA,aFd,tN,QB,h0]
      exact ⟨_,⟨8,[]⟩,rfl,fun h=>by simp at h,fun h=>by unfold aCh at h;simp at h⟩
  · have hd:decide (k'=0)=false:=by simp [h0]
    simp only [hd,QN,QK,QC,Bool.and_false,if_false,QA,aFd,tN,QB,if_true,show (false==true)=false from rfl]
    exact ⟨_,⟨k',n'⟩,rfl,fun h=>absurd h h0,b2⟩
def vX (c:aP)(k:Int):bM:=c.tables[k.toNat]?.getD default
def okTs (c:aP)(ts:List Int):Prop:=ts.length≤3∧∀ k∈ts,0≤k∧k<(c.tables.length:Int)
theorem bFi {c:aP}{k:Int}(h:0≤k∧k<(c.tables.length:Int)):idx c.tables k=some (vX c k)∧∃ hj:k.toNat<c.tables.length,vX c k=c.tables[k.toNat]:=by
  have hj:k.toNat<c.tables.length:=by omega
  have:=bZ hj
  rw [show ((k.toNat:Nat):Int)=k by omega] at this
  have e:vX c k=c.tables[k.toNat]:=by unfold vX;simp [hj]
  exact ⟨by rw [this,e],hj,e⟩
theorem bO2 {c:aP}(hc:qH c){k:Int}(h:0≤k∧k<(c.tables.length:Int)):H7 (vX c k)∧tL c (vX c k).name=some k:=by
  obtain ⟨_,hj,e⟩:=bFi h
  obtain ⟨t,h1,h2,h3⟩:=hc.1 _ hj
  rw [QV hj] at h1
  obtain rfl:c.tables[k.toNat]=t:=by simpa using h1
  rw [e]
  exact ⟨h2,by rw [h3];congr 1;omega⟩
def width (c:aP)(ts:List Int):Nat:=(ts.map fun k=>(vX c k).cols.length).sum
theorem aTg (c:aP):∀ (ts acc:List Int),(∀ k∈ts,0≤k∧k<(c.tables.length:Int))→(kH c acc ts).1.length=acc.length+width c ts
  | [],acc,_=>by simp [kH,width]
  | k::l,acc,h=>by
    rw [kH,if_pos (h k (by simp)),aTg c l _ fun x hx=>h x (by simp [hx])]
    unfold width wS vX
    simp [Nat.add_assoc]
theorem bH6 (c:aP):∀ (ts:List Int) (n:Nat),width c (ts.take n)≤width c ts
  | [],n=>by simp
  | k::l,0=>by simp [width]
  | k::l,n+1=>by
    have:=bH6 c l n
    simp only [width,List.take_succ_cons,QI,QJ] at this ⊢
    omega
theorem bQs {c:aP}(hc:qH c)(d:Nat)(hd:d<10000000)(ts:List Int)(h:okTs c ts):∃ ns,aKw c ts (d:Int)=some ns∧ns.length=width c ts:=by
  have key:∀ i,i≤ts.length→∀ acc:List dX,acc.length≤4 * i→∃ ns,aF2 ts (d:Int) c acc (i:Nat)=some ns∧ns.length=acc.length+width c (ts.drop i):=by
    refine gD ?_ ?_
    · intro acc _;rw [aF2];simp [width]
    · intro i hi ih acc ha
      have hk:=h.2 _ (QF hi)
      obtain ⟨ix,_⟩:=bFi hk
      have hcl:=(bO2 hc hk).1.2.2.2
      have:=h.1
      have k2:∀ j,j≤(vX c ts[i]).cols.length→∀ acc:List dX,acc.length≤4 * i+j→∃ ns,aC7 ts (d:Int) (i:Nat) c (vX c ts[i]) acc (j:Nat)=some ns∧ns.length=acc.length+((vX c ts[i]).cols.length - j)+width c (ts.drop (i+1)):=by
        refine gD ?_ ?_
        · intro acc ha
          rw [aC7]
          simp only [cZ,QL,decide_false,QC,if_false,dU hi (by omega)]
          obtain ⟨ns,e,l⟩:=ih acc (by omega)
          exact ⟨ns,e,by omega⟩
        · intro j hj ih2 acc ha
          rw [aC7]
          simp only [cZ,hj,bZ hj,decide_true,if_true,bJ9 d i hd (by omega),QB,QA]
          rw [iI (by simp;omega),QA,dU hj (by omega)]
          obtain ⟨ns,e,l⟩:=ih2 (acc++[⟨al d i,(vX c ts[i]).cols[j].name,(vX c ts[i]).cols[j].type⟩]) (by simp;omega)
          exact ⟨ns,e,by rw [l];simp only [QM,QE,QH];omega⟩
      rw [aF2,QG hi]
      simp only [cZ,hi,bZ hi,decide_true,if_true,ix,QB,QA]
      obtain ⟨ns,e,l⟩:=k2 0 (by omega) acc (by omega)
      refine ⟨ns,e,?_⟩
      rw [l];simp only [width,QI,QJ];omega
  obtain ⟨ns,e,l⟩:=key 0 (by omega) [] (by simp)
  exact ⟨ns,by simpa [aKw] using e,by simpa using l⟩
theorem aNs {α:Type}(z:α→Nat)(a:α)(l:List α):zL z (a::l)=1+z a+zL z l:=by unfold zL;simp;omega
theorem aVg (c:aP)(s:List aR)(l:List aJ)(hl:l.length≤1048576)(H:∀ e∈l,∃ x,E9 c s e=some x∧bX x≤bU e):∃ xs,aC3 c s l=some xs∧xs.length+dD xs≤zL bU l:=by
  have key:∀ i,i≤l.length→∀ acc:List aB,acc.length≤i→∃ xs,aEd s l c (i:Nat) acc=some (acc++xs)∧xs.length+dD xs≤zL bU (l.drop i):=by
    refine gD ?_ ?_
    · intro acc _;exact ⟨[],by rw [aEd];simp,by simp [dD]⟩
    · intro i hi ih acc ha
      obtain ⟨x,e,z⟩:=H _ (QF hi)
      obtain ⟨xs,e1,z1⟩:=ih (acc++[x]) (by simp;omega)
      refine ⟨x::xs,?_,by rw [QG hi,aNs];simp only [QE,dD];omega⟩
      rw [aEd]
      simp only [cZ,hi,bZ hi,dU hi (by omega),e,decide_true,if_true,QB,QA]
      rw [iI (by simp;omega),QA,e1]
      simp
  obtain ⟨xs,e,z⟩:=key 0 (by omega) [] (by simp)
  exact ⟨xs,by rw [aC3];simpa using e,by simpa using z⟩
theorem bKo (c:aP)(s:List aR)(e:aJ)(q n:List UInt8)(ks:List aB)(hl:e.sub.length≤1048576)(H:∀ p∈e.sub,∃ x,aDx c s p=some x∧gL x≤iR p) :
    ∃ qs,aHh s c e ks q n=some ⟨e.kind,e.op,e.not_,e.value,q,n,ks,qs⟩∧qs.length+jH qs≤zL iR e.sub:=by
  have key:∀ i,i≤e.sub.length→∀ acc:List aL,acc.length≤i→∃ xs,aF6 s c e q n ks (i:Nat) acc=some ⟨e.kind,e.op,e.not_,e.value,q,n,ks,acc++xs⟩∧xs.length+jH xs≤zL iR (e.sub.drop i):=by
    refine gD ?_ ?_
    · intro acc _;exact ⟨[],by rw [aF6];simp,by simp [jH]⟩
    · intro i hi ih acc ha
      obtain ⟨x,e0,z⟩:=H _ (QF hi)
      obtain ⟨xs,e1,z1⟩:=ih (acc++[x]) (by simp;omega)
      refine ⟨x::xs,?_,by rw [QG hi,aNs];simp only [QE,jH];omega⟩
      rw [aF6]
      simp only [cZ,hi,bZ hi,dU hi (by omega),e0,decide_true,if_true,QB,QA]
      rw [iI (by simp;omega),QA,e1]
      simp
  obtain ⟨xs,e1,z⟩:=key 0 (by omega) [] (by simp)
  exact ⟨xs,by rw [aHh];simpa using e1,by simpa using z⟩
abbrev Tr {α:Type}(_:α):Prop:=True
theorem y0 {α:Type}{x:α}:Yes (some x) Tr:=⟨_,rfl,trivial⟩
theorem yg {α:Type}[Inhabited α]{c:Prop}[Decidable c]{m:Option α}(h:Yes m Tr):Yes (if c then m else some default) Tr:=Yes.ite (fun _=>h) fun _=>y0
theorem aJe (a:Int)(b:Bool):Yes (M7 a b) Tr:=by unfold M7;exact Yes.ite (fun _=>y0) fun _=>y0
theorem aOz (a:Int):Yes (aEz a) Tr:=y0
theorem aOj (a:Int):Yes (aGa a) Tr:=y0
theorem bGc (a b:Int):Yes (aHa a b) Tr:=y0
theorem bJb (p q:Int):Yes (aH9 p q) Tr:=by
  unfold aH9
  exact Yes.bind (aOz _) fun _ _=>Yes.bind (yg (aOz _)) fun _ _=>Yes.bind y0 fun _ _=>Yes.ite (fun _=>y0) fun _=>Yes.ite (fun _=>y0) fun _=>Yes.bind y0 fun _ _=>Yes.ite (fun _=>y0) fun _=>y0
theorem bV3 (o p q:Int):Yes (aKd o p q) Tr:=by
  have J:∀ x,Yes (aIw p q x) Tr:=fun x=>by
    unfold aIw
    exact Yes.bind (bGc _ _) fun _ _=>Yes.bind (yg (bGc _ _)) fun _ _=>Yes.bind y0 fun _ _=>Yes.bind (aJe _ _) fun _ _=>y0
  unfold aKd
  refine Yes.bind (Q:=Tr) y0 fun _ _=>Yes.bind (yg (aOz _)) fun _ _=>Yes.bind y0 fun _ _=>Yes.bind (yg (aOz _)) fun _ _=>Yes.bind y0 fun _ _=>Yes.ite (fun _=>y0) fun _=>Yes.ite (fun _=>?_) fun _=>Yes.ite (fun _=>?_) fun _=>Yes.ite (fun _=>J _) fun _=>J _
  · exact Yes.bind (aOj _) fun _ _=>Yes.bind (yg (aOj _)) fun _ _=>Yes.bind y0 fun _ _=>Yes.bind (aJe _ _) fun _ _=>y0
  · exact Yes.bind (bJb _ _) fun _ _=>Yes.bind (aJe _ _) fun _ _=>y0
theorem cJh (o p:Int):Yes (aN9 o p) Tr:=by
  unfold aN9
  exact Yes.ite (fun _=>Yes.bind (aOj _) fun _ _=>Yes.bind (aJe _ _) fun _ _=>y0) fun _=>Yes.ite (fun _=>Yes.bind (bGc _ _) fun _ _=>Yes.bind (aJe _ _) fun _ _=>y0) fun _=>y0
theorem bXa (l:List Int)(hl:l.length≤2000000):Yes (aOe l) Tr:=by
  have key:∀ i,i≤l.length→∀ x,Yes (aC0 l x (i:Nat)) Tr:=by
    refine gD ?_ ?_
    · intro x;rw [aC0];simp only [cZ,QL,decide_false,QC,if_false];exact y0
    · intro i hi ih x
      rw [aC0,bZ hi,dU hi (by omega)]
      simp only [cZ,hi,decide_true,if_true,QB,QA]
      exact Yes.bind (bJb _ _) fun _ _=>Yes.ite (fun _=>y0) fun _=>ih _
  exact key 0 (by omega) 0
theorem bAc (e:aJ)(l:List Int)(hl:l.length≤2000000):Yes (aDs e l) Tr:=by
  unfold aDs
  exact Yes.ite (fun _=>y0) fun _=>Yes.bind (bXa l hl) fun _ _=>Yes.bind (aJe _ _) fun _ _=>y0
theorem cJc (p:aJ)(hk:p.kids.length≤1048576)(hs:p.sub.length≤1048576):aK1 p=if (!decide (p.kind=2)&&(!decide (p.up=0)||!decide (p.at_=0)))=true then some false else (if decide (p.kind=2)=true then zH (aB.mk p.kind p.op p.not_ p.value [] [97] (QQ p.kids.length (aB.mk 0 0 false (bP.mk 0 0 []) [] [] [] [])) (QQ p.sub.length (aL.mk false [] [] [] [] 0))) else zH (aB.mk p.kind p.op p.not_ p.value [] [] (QQ p.kids.length (aB.mk 0 0 false (bP.mk 0 0 []) [] [] [] [])) (QQ p.sub.length (aL.mk false [] [] [] [] 0)))):=by
  have e1:mkG 136 (p.kids.length:Int) (aB.mk 0 0 false (bP.mk 0 0 []) [] [] [] [])=some (QQ p.kids.length (aB.mk 0 0 false (bP.mk 0 0 []) [] [] [] [])):=bGl (by omega)
  have e2:mkG 112 (p.sub.length:Int) (aL.mk false [] [] [] [] 0)=some (QQ p.sub.length (aL.mk false [] [] [] [] 0)):=bGl (by omega)
  unfold aK1 aMm
  simp only [QB]
  simp only [cCr]
  simp only [e1,e2,bY5,QA,Option.bind_fun_some,orB]
structure Fm (e:aJ):Prop where
  sub:e.sub.length≤1
  col:e.kind=2→e.kids.length=0
  un:e.kind=3→e.kids.length=1
  bin:e.kind=4→e.kids.length=2
  lo:e.kind≤4→e.sub.length=0
theorem bY3 (p:aJ)(hk:p.kids.length≤1048576)(hs:p.sub.length≤1048576):∃ b,aK1 p=some b∧(b=true→Fm p):=by
  have key:∀ (n:List UInt8),∃ b,zH (aB.mk p.kind p.op p.not_ p.value [] n (QQ p.kids.length (aB.mk 0 0 false (bP.mk 0 0 []) [] [] [] [])) (QQ p.sub.length (aL.mk false [] [] [] [] 0)))=some b∧(b=true→Fm p):=fun n=>by
    obtain ⟨b,h,_⟩:=bJo (aB.mk p.kind p.op p.not_ p.value [] n (QQ p.kids.length (aB.mk 0 0 false (bP.mk 0 0 []) [] [] [] [])) (QQ p.sub.length (aL.mk false [] [] [] [] 0))) (by simpa using hk) (by simpa using hs)
    refine ⟨b,h,fun hb=>?_⟩
    subst hb
    have f:=bI4 h (by simpa using hk) (by simpa using hs)
    exact ⟨by simpa using f.sub,fun k=>by have:=(f.col k).1;simpa using congrArg WU this,fun k=>by simpa using f.un k,fun k=>by simpa using f.bin k,fun k=>by simpa using f.lo k⟩
  rw [cJc p hk hs]
  by_cases c:(!decide (p.kind=2)&&(!decide (p.up=0)||!decide (p.at_=0)))=true
  · rw [if_pos c];exact ⟨false,rfl,by simp⟩
  · rw [if_neg c]
    split
    · exact key _
    · exact key _
abbrev aQg (t:List (List Int))(s:List aR):Prop:=A2 (fun row sc=>row.length≤sc.names.length) t s
abbrev GoE (c:aP)(t:List (List Int))(e:aJ):Prop:=∀ s,aQg t s→∃ x,E9 c s e=some x∧bX x≤bU e
abbrev GoP (c:aP)(t:List (List Int))(p:bA):Prop:=∀ s,aQg t s→∃ x,aDx c s p=some x∧gL x≤iR p
abbrev TE (c:aP)(t:List (List Int))(e:aJ):Prop:=Yes (aAx c t e) fun r=>r.2=true→GoE c t e
abbrev TP (c:aP)(t:List (List Int))(p:bA):Prop:=Yes (aGm c t p) fun r=>r.2=true→GoP c t p
theorem bVu {c:aP}{t:List (List Int)}{e:aJ}(hz:bU e≤1048576)(hK:∀ k∈e.kids,GoE c t k) (hC:e.kind=2→∃ (u a:Nat) (hu:u<t.length),a<t[u].length∧e.up=u∧e.at_=a) (hS:∀ p∈e.sub,GoP c t p):GoE c t e:=fun s h=>by
  have hl:=aTz e
  have hlen:=h.length
  have hze:=aGd e
  obtain ⟨xs,x1,x2⟩:=aVg c s e.kids (by omega) fun k hk=>hK k hk s h
  by_cases k2:e.kind=2
  · obtain ⟨u,a,hu,ha,e1,e2⟩:=hC k2
    have hu2:u<s.length:=by omega
    have hg:=h.get u hu hu2
    obtain ⟨qs,q1,q2⟩:=bKo c s e s[u].names[a].qual s[u].names[a].name xs (by omega) fun p hp=>hS p hp s h
    refine ⟨⟨e.kind,e.op,e.not_,e.value,s[u].names[a].qual,s[u].names[a].name,xs,qs⟩,?_,?_⟩
    · rw [E9,x1]
      simp only [k2,e1,e2,bZ hu2,bZ (show a<s[u].names.length by omega),decide_true,if_true,QB,QA]
      rw [q1,k2]
    · rw [zE];dsimp only;omega
  · obtain ⟨qs,q1,q2⟩:=bKo c s e [] [] xs (by omega) fun p hp=>hS p hp s h
    refine ⟨⟨e.kind,e.op,e.not_,e.value,[],[],xs,qs⟩,?_,?_⟩
    · rw [E9,x1]
      simp only [k2,decide_false,QC,if_false,QB,QA]
      exact q1
    · rw [zE];dsimp only;omega
theorem bQ6 {c:aP}{t:List (List Int)}(ht:t.length≤1048577)(hrow:∀ r∈t,r.length≤1048576){e:aJ}(hz:bU e≤1048576)(HK:∀ k∈e.kids,TE c t k)(HS:∀ p∈e.sub,TP c t p):TE c t e:=by
  have hl:=aTz e
  obtain ⟨b,s1,hf⟩:=bY3 e (by omega) (by omega)
  unfold TE
  rw [aAx,s1,QB,QA]
  cases b with
  | false=>exact ⟨(0,false),rfl,by simp⟩
  | true =>
  have hF:=hf rfl
  rw [if_neg (by simp)]
  have key:∀ i,i≤e.kids.length→∀ acc:List Int,acc.length=i→(∀ (j:Nat) (h:j<e.kids.length),j<i→GoE c t e.kids[j])→Yes (aF8 t c e acc (i:Nat)) fun r=>r.2=true→GoE c t e:=by
    refine gD ?_ ?_
    · intro acc ha hg
      have hK:∀ k∈e.kids,GoE c t k:=fun k hk=>by
        obtain ⟨j,hj,rfl⟩:=WE hk
        exact hg j hj hj
      have fin:(e.kind=2→∃ (u a:Nat) (hu:u<t.length),a<t[u].length∧e.up=u∧e.at_=a)→(∀ p∈e.sub,GoP c t p)→GoE c t e:=bVu hz hK
      have s0:e.kind≤4→∀ p∈e.sub,GoP c t p:=fun h p hp=>by
        rw [WD (hF.lo h)] at hp;simp at hp
      rw [aF8]
      simp only [cZ,QL,decide_false,QC,if_false]
      refine Yes.ite (fun k=>Yes.some fun _=>?_) fun k1=>Yes.ite (fun k=>?_) fun k2=>Yes.ite (fun k=>?_) fun k3=>Yes.ite (fun k=>?_) fun k4=>?_
      · have k:e.kind=1:=by simpa using k
        exact fin (by omega) (s0 (by omega))
      · have k:e.kind=2:=by simpa using k
        have hw:QP .i64 ((t.length:Int) - 1)=(t.length:Int) - 1:=fM (by omega) (by omega)
        unfold kW
        rw [hw]
        by_cases u0:0≤e.up∧e.up≤(t.length:Int) - 1
        case neg =>
          have:(if decide (0≤e.up)=true then decide (e.up≤(t.length:Int) - 1) else false)=false:=by
            by_cases a:0≤e.up
            · simp [a];omega
            · simp [a]
          refine ⟨(0,false),?_,by simp⟩
          simp only [this,QB,QA,QN,QY,show (true==false)=false from rfl,QC,if_false,if_true]
        have h5:(if decide (0≤e.up)=true then decide (e.up≤(t.length:Int) - 1) else false)=true:=by simp [u0.1,u0.2]
        have hj:e.up.toNat<t.length:=by omega
        have hx:idx t e.up=some t[e.up.toNat]:=by
          have:=bZ hj
          rwa [show ((e.up.toNat:Nat):Int)=e.up by omega] at this
        have hr:=hrow _ (QF hj)
        have hw2:QP .i64 ((t[e.up.toNat].length:Int) - 1)=(t[e.up.toNat].length:Int) - 1:=fM (by omega) (by omega)
        by_cases a0:0≤e.at_∧e.at_≤(t[e.up.toNat].length:Int) - 1
        case neg =>
          have:(if decide (0≤e.at_)=true then decide (e.at_≤(t[e.up.toNat].length:Int) - 1) else false)=false:=by
            by_cases a:0≤e.at_
            · simp [a];omega
            · simp [a]
          refine ⟨(0,false),?_,by simp⟩
          simp only [h5,hx,hw2,this,QB,QA,QK,QN,QY,beq_self_eq_true,QC,if_false,if_true]
        have hj2:e.at_.toNat<t[e.up.toNat].length:=by omega
        have hx2:idx t[e.up.toNat] e.at_=some t[e.up.toNat][e.at_.toNat]:=by
          have:=bZ hj2
          rwa [show ((e.at_.toNat:Nat):Int)=e.at_ by omega] at this
        have g:=fin (fun _=>⟨e.up.toNat,e.at_.toNat,hj,hj2,by omega,by omega⟩) (s0 (by omega))
        refine ⟨(t[e.up.toNat][e.at_.toNat],true),?_,fun _=>g⟩
        have h7:(if decide (0≤e.at_)=true then decide (e.at_≤(t[e.up.toNat].length:Int) - 1) else false)=true:=by simp [a0.1,a0.2]
        simp only [h5,hx,hx2,hw2,h7,QB,QA,QK,QY,beq_self_eq_true,QC,if_false,if_true]
      · have k:e.kind=3:=by simpa using k
        have h0:0<acc.length:=by have:=hF.un k;omega
        have i0:idx acc 0=some acc[0]:=bZ (i:=0) h0
        rw [i0,QB,QA]
        exact Yes.bind (cJh _ _) fun _ _=>Yes.some fun _=>fin (by omega) (s0 (by omega))
      · have k:e.kind=4:=by simpa using k
        have h0:1<acc.length:=by have:=hF.bin k;omega
        have i0:idx acc 0=some acc[0]:=bZ (i:=0) (by omega)
        have i1:idx acc 1=some acc[1]:=bZ (i:=1) h0
        rw [i0,i1]
        simp only [QB,QA]
        exact Yes.bind (bV3 _ _ _) fun _ _=>Yes.some fun _=>fin (by omega) (s0 (by omega))
      · have k2:¬ e.kind=2:=by simpa using k2
        refine Yes.ite (fun hs=>?_) fun hs=>?_
        · match hh:e.sub,hF.sub,HS with
          | [],_,_=>rw [hh] at hs;simp at hs
          | [p],_,HS =>
            have ip:idx [p] 0=some p:=rfl
            rw [ip,QB,QA]
            refine Yes.bind (HS p (by simp)) fun r hr=>?_
            obtain ⟨ts,ok⟩:=r
            cases ok with
            | false=>exact ⟨(0,false),by simp,by simp⟩
            | true =>
              have g:=fin (fun h=>absurd h k2) (by rw [hh];simpa using hr rfl)
              by_cases k8:e.kind=8
              · by_cases hl1:(ts.length:Int)=1
                · have i0:idx ts 0=some ts[0]:=bZ (i:=0) (by omega)
                  have ea:appG 8 acc [ts[0]]=some (acc++[ts[0]]):=iI (by simp;omega)
                  obtain ⟨r,r1,_⟩:=bAc e (acc++[ts[0]]) (by simp;omega)
                  exact ⟨r,by simp [k8,hl1,i0,ea,r1],fun _=>g⟩
                · exact ⟨(0,false),by simp [k8,hl1],by simp⟩
              · obtain ⟨r,r1,_⟩:=bAc e acc (by omega)
                exact ⟨r,by simp [k8,r1],fun _=>g⟩
          | _::_::_,h,_=>simp at h
        · have h0:e.sub=[]:=by
            have:¬ (0:Int)<(e.sub.length:Int):=by simpa using hs
            exact WD (by omega)
          exact (bAc e acc (by omega)).mono fun _ _ _=>fin (fun h=>absurd h k2) (by rw [h0];simp)
    · intro i hi ih acc ha hg
      rw [aF8,bZ hi,dU hi (by omega)]
      simp only [cZ,hi,decide_true,if_true,QB,QA]
      refine Yes.bind (HK _ (QF hi)) fun r hr=>Yes.ite (fun _=>⟨(0,false),rfl,by simp⟩) fun hn=>?_
      rw [iI (by simp;omega),QA]
      refine ih _ (by simp;omega) fun j hj hji=>?_
      by_cases h:j<i
      · exact hg j hj h
      · have:j=i:=by omega
        subst this
        exact hr (by simpa using hn)
  exact key 0 (by omega) [] rfl fun j _ h=>by omega
theorem cAa (s:aR)(env:List aR)(h:env.length≤4194304):zB s env=some (s::env):=by
  unfold zB
  rw [iI (by simp;omega)];rfl
theorem bU5 (c:aP)(s:List aR)(p:bA)(od:List eX)(fr:List bI)(wh:List aB)(hn:p.names.length=p.items.length)(hl:p.items.length≤1000)(H:∀ e∈p.items,∃ x,E9 c s e=some x∧bX x≤bU e) :
    ∃ is,I1 s c p od fr wh 0 []=some ⟨p.distinct,is,fr,wh,od,p.limit⟩∧is.length+iQ is≤zL bU p.items:=by
  have key:∀ i,i≤p.items.length→∀ acc:List bG,acc.length≤i→∃ xs,I1 s c p od fr wh (i:Nat) acc=some ⟨p.distinct,acc++xs,fr,wh,od,p.limit⟩∧xs.length+iQ xs≤zL bU (p.items.drop i):=by
    refine gD ?_ ?_
    · intro acc _;exact ⟨[],by rw [I1];simp,by simp [iQ]⟩
    · intro i hi ih acc ha
      have hn':i<p.names.length:=by omega
      obtain ⟨x,e,z⟩:=H _ (QF hi)
      obtain ⟨xs,e1,z1⟩:=ih (acc++[⟨false,[],x,p.names[i]⟩]) (by simp;omega)
      refine ⟨⟨false,[],x,p.names[i]⟩::xs,?_,by rw [QG hi,aNs];simp only [QE,iQ,mF];omega⟩
      rw [I1]
      simp only [cZ,hi,bZ hi,bZ hn',dU hi (by omega),e,decide_true,if_true,QB,QA]
      rw [iI (by simp;omega),QA,e1]
      simp
  simpa using key 0 (by omega) [] (by simp)
theorem cB8 (c:aP)(s:List aR)(p:bA)(fr:List bI)(wh:List aB)(hl:p.order.length≤1000)(H:∀ k∈p.order,∃ x,E9 c s k.expr=some x∧bX x≤bU k.expr) :
    ∃ od,N7 s c p fr wh 0 []=I1 s c p od fr wh 0 []∧od.length+mZ od≤zL (fun k=>bU k.expr) p.order:=by
  have key:∀ i,i≤p.order.length→∀ acc:List eX,acc.length≤i→∃ xs,N7 s c p fr wh (i:Nat) acc=I1 s c p (acc++xs) fr wh 0 []∧xs.length+mZ xs≤zL (fun k=>bU k.expr) (p.order.drop i):=by
    refine gD ?_ ?_
    · intro acc _;exact ⟨[],by rw [N7];simp,by simp [mZ]⟩
    · intro i hi ih acc ha
      obtain ⟨x,e,z⟩:=H _ (QF hi)
      obtain ⟨xs,e1,z1⟩:=ih (acc++[⟨x,p.order[i].desc⟩]) (by simp;omega)
      refine ⟨⟨x,p.order[i].desc⟩::xs,?_,by rw [QG hi,aNs];simp only [QE,mZ,yB];omega⟩
      rw [N7]
      simp only [cZ,hi,bZ hi,dU hi (by omega),e,decide_true,if_true,QB,QA]
      rw [iI (by simp;omega),QA,e1]
      simp
  simpa using key 0 (by omega) [] (by simp)
theorem cHi (c:aP)(s0 s:List aR)(p:bA)(wh:List aB)(hd:s0.length<10000000)(hn:p.on_.length=p.tables.length)(hl:p.tables.length≤3)(ht:∀ k∈p.tables,0≤k∧k<(c.tables.length:Int))
    (H:∀ l∈p.on_,∃ x,aC3 c s l=some x∧x.length+dD x≤zL bU l) :
    ∃ fr,aBw s0 s c p wh 0 []=N7 s c p fr wh 0 []∧fr.length+iB fr≤zL (zL bU) p.on_:=by
  have key:∀ i,i≤p.on_.length→∀ acc:List bI,acc.length≤i→∃ xs,aBw s0 s c p wh (i:Nat) acc=N7 s c p (acc++xs) wh 0 []∧xs.length+iB xs≤zL (zL bU) (p.on_.drop i):=by
    refine gD ?_ ?_
    · intro acc _;exact ⟨[],by rw [aBw];simp [hn],by simp [iB]⟩
    · intro i hi ih acc ha
      have hi2:i<p.tables.length:=by omega
      obtain ⟨x,e,z⟩:=H _ (QF hi)
      obtain ⟨ix,_⟩:=bFi (ht _ (QF hi2))
      obtain ⟨xs,e1,z1⟩:=ih (acc++[⟨(vX c p.tables[i]).name,al s0.length i,x⟩]) (by simp;omega)
      refine ⟨⟨(vX c p.tables[i]).name,al s0.length i,x⟩::xs,?_,by rw [QG hi,aNs];simp only [QE,iB,nN];omega⟩
      rw [aBw]
      simp only [cZ,hi2,bZ hi,bZ hi2,ix,bJ9 s0.length i hd (by omega),dU hi (by omega),e,decide_true,if_true,QB,QA]
      rw [iI (by simp;omega),QA,e1]
      simp
  simpa using key 0 (by omega) [] (by simp)
def aNk (p:bA):Bool:=(decide (1≤p.tables.length)&&decide (p.tables.length≤3))&&decide (p.on_.length=p.tables.length)&&decide ((p.on_[0]?.getD []).length=0)&&decide (p.where_.length≤1)&&decide (p.order.length≤12)&&(decide (1≤p.items.length)&&decide (p.items.length≤12))&&decide (p.names.length=p.items.length)&&decide (-1≤p.limit)
def onB (p:bA):Bool:=p.on_.all fun l=>decide (l.length≤1)
theorem cEr (c:aP)(hc:H5 c)(p:bA)(hn:p.names.length≤1048576)(ht:p.tables.length≤1048576):P5 c p 0=some (p.names.all nmB&&(kH c [] p.tables).2):=by
  have key:∀ i,i≤p.names.length→P5 c p (i:Nat)=some ((p.names.drop i).all nmB&&(kH c [] p.tables).2):=by
    refine gD ?_ ?_
    · rw [P5];simp [aKk c hc p.tables ht]
    · intro i hi ih
      rw [P5,QG hi,WV]
      simp only [cZ,bZ hi,dU hi (by omega),hi,decide_true,if_true,bNx,ih,QB,QA]
      cases nmB p.names[i]<;>simp
  simpa using key 0 (by omega)
theorem bTg (c:aP)(hc:H5 c)(p:bA)(ho:p.on_.length≤1048576)(hn:p.names.length≤1048576)(ht:p.tables.length≤1048576):P7 c p 0=some (onB p&&(p.names.all nmB&&(kH c [] p.tables).2)):=by
  have key:∀ i,i≤p.on_.length→P7 c p (i:Nat)=some (((p.on_.drop i).all fun l=>decide (l.length≤1))&&(p.names.all nmB&&(kH c [] p.tables).2)):=by
    refine gD ?_ ?_
    · rw [P7];simp [cEr c hc p hn ht]
    · intro i hi ih
      rw [P7,QG hi,WV]
      simp only [cZ,bZ hi,dU hi (by omega),hi,decide_true,if_true,ih,QB,QA]
      by_cases h:p.on_[i].length≤1
      · have h1:¬ (1:Int)<(p.on_[i].length:Int):=by omega
        simp [h,h1]
      · have h1:(1:Int)<(p.on_[i].length:Int):=by omega
        simp [h,h1]
  unfold onB
  simpa using key 0 (by omega)
theorem cBq (c:aP)(hc:H5 c)(p:bA)(ho:p.on_.length≤1048576)(hn:p.names.length≤1048576)(ht:p.tables.length≤1048576) :
    aNm c p=some (aNk p&&(onB p&&(p.names.all nmB&&(kH c [] p.tables).2))):=by
  unfold aNm kW aNk
  simp only [bTg c hc p ho hn ht,QB,QA]
  generalize onB p=b1
  generalize p.names.all nmB=b2
  generalize (kH c [] p.tables).2=b3
  by_cases t1:1≤p.tables.length
  case neg =>
    have c1:¬ (1:Int)≤(p.tables.length:Int):=by omega
    have c2:(p.tables.length:Int)<1:=by omega
    simp only [t1,c1,c2,decide_true,decide_false,if_true,if_false,QK,QN,QC,Bool.false_and,QA,beq_self_eq_true]
    simp
  by_cases t2:p.tables.length≤3
  case neg =>
    have c1:¬ (p.tables.length:Int)≤3:=by omega
    have c2:(3:Int)<(p.tables.length:Int):=by omega
    simp [t2,c1,c2]
  by_cases t3:p.on_.length=p.tables.length
  case neg =>
    have c1:¬ (p.on_.length:Int)=(p.tables.length:Int):=by omega
    simp [t3,c1]
  have a1:(1:Int)≤(p.tables.length:Int):=by omega
  have a2:(p.tables.length:Int)≤3:=by omega
  have a3:¬ (p.tables.length:Int)<1:=by omega
  have a4:¬ (3:Int)<(p.tables.length:Int):=by omega
  have a5:(p.on_.length:Int)=(p.tables.length:Int):=by omega
  have h0:0<p.on_.length:=by omega
  have hi:idx p.on_ 0=some p.on_[0]:=bZ h0
  have hg:p.on_[0]?.getD []=p.on_[0]:=by simp [h0]
  rw [hg,hi]
  generalize p.on_[0]=l0
  have e0:decide ((0:Int)<(l0.length:Int))=!decide (l0.length=0):=by rw [QU];simp only [WC,decide_eq_true_eq,decide_eq_false_iff_not];omega
  have e1:decide ((1:Int)<(p.where_.length:Int))=!decide (p.where_.length≤1):=by rw [QU];simp only [WC,decide_eq_true_eq,decide_eq_false_iff_not];omega
  have e2:decide ((12:Int)<(p.order.length:Int))=!decide (p.order.length≤12):=by rw [QU];simp only [WC,decide_eq_true_eq,decide_eq_false_iff_not];omega
  have e3:decide ((1:Int)≤(p.items.length:Int))=decide (1≤p.items.length):=by rw [QU];simp only [decide_eq_true_eq];omega
  have e4:decide ((p.items.length:Int)≤12)=decide (p.items.length≤12):=by rw [QU];simp only [decide_eq_true_eq];omega
  have e5:decide ((p.names.length:Int)=(p.items.length:Int))=decide (p.names.length=p.items.length):=by rw [QU];simp only [decide_eq_true_eq];omega
  have e6:decide (p.limit < -1)=!decide (-1≤p.limit):=by rw [QU];simp only [WC,decide_eq_true_eq,decide_eq_false_iff_not];omega
  simp only [a1,a2,a3,a4,a5,t1,t2,t3,e0,e1,e2,e3,e4,e5,e6,decide_true,decide_false,if_true,if_false,QK,QN,QC,beq_self_eq_true,WA,QY,QA]
  generalize decide (l0.length=0)=x0
  generalize decide (p.where_.length≤1)=x1
  generalize decide (p.order.length≤12)=x2
  generalize decide (1≤p.items.length)=x3
  generalize decide (p.items.length≤12)=x4
  generalize decide (p.names.length=p.items.length)=x5
  generalize decide (-1≤p.limit)=x6
  cases x0<;>cases x1<;>cases x2<;>cases x3<;>cases x4<;>cases x5<;>cases x6<;>cases b1<;>cases b2<;>rfl
theorem bH2 {c:aP}{t:List (List Int)}(l:List aJ)(hl:l.length≤1048576)(H:∀ e∈l,TE c t e):Yes (aHk c t l) fun b=>b=true→∀ e∈l,GoE c t e:=by
  have key:∀ i,i≤l.length→Yes (aF3 t l c (i:Nat)) fun b=>b=true→∀ e∈l.drop i,GoE c t e:=by
    refine gD ?_ ?_
    · exact ⟨true,by rw [aF3];simp,by simp⟩
    · intro i hi ih
      rw [aF3,bZ hi,dU hi (by omega),QG hi]
      simp only [cZ,hi,decide_true,if_true,QB,QA]
      refine Yes.bind (H _ (QF hi)) fun r hr=>Yes.bind (yg (aOj _)) fun y _=>Yes.ite (fun _=>⟨false,rfl,by simp⟩) fun hn=>?_
      refine ih.mono fun b hb h e he=>?_
      rcases QO.1 he with rfl | he
      · refine hr ?_
        cases h2:r.2 with
        | true=>rfl
        | false=>simp [h2] at hn
      · exact hb h e he
  rw [aHk]
  exact key 0 (by omega)
theorem cJr {c:aP}(hc:qH c){t:List (List Int)}(hl:t.length≤1048576){p:bA}(hz:iR p≤1048576)(HE:∀ (row:List Int),row.length≤12→∀ e,bU e<iR p→TE c (row::t) e):TP c t p:=by
  have hlen:=bN7 p
  have hzp:=O3 p
  have hT:=cKi hc
  unfold TP
  rw [aGm,cBq c hT p (by omega) (by omega) (by omega),QB,QA]
  by_cases hB:(aNk p&&(onB p&&(p.names.all nmB&&(kH c [] p.tables).2)))=true
  case neg =>
    have hB:(aNk p&&(onB p&&(p.names.all nmB&&(kH c [] p.tables).2)))=false:=by simpa using hB
    rw [hB]
    exact ⟨([],false),rfl,by simp⟩
  rw [hB,if_neg (by simp)]
  simp only [WP] at hB
  obtain ⟨pB,_,_,hR⟩:=hB
  have htb:=(bPh c p.tables []).1 hR
  unfold aNk at pB
  simp only [WP,decide_eq_true_eq] at pB
  obtain ⟨⟨⟨⟨⟨⟨⟨⟨p1,p2⟩,p3⟩,p4⟩,p5⟩,p6⟩,p7⟩,p8⟩,p9⟩:=pB
  have hrl:∀ ts:List Int,(∀ k∈ts,0≤k∧k<(c.tables.length:Int))→ts.length≤3→(kH c [] ts).1.length≤12:=fun ts h h3=>by
    rw [aTg c ts [] h]
    have:∀ ts:List Int,(∀ k∈ts,0≤k∧k<(c.tables.length:Int))→width c ts≤4 * ts.length:=fun ts=>by
      induction ts with
      | nil=>simp [width]
      | cons k l ih =>
        intro h
        have:=ih fun x hx=>h x (by simp [hx])
        have:=(bO2 hc (h k (by simp))).1.2.2.2
        simp only [width,QI,QJ,QE] at *
        omega
    have:=this ts h
    simp;omega
  have hr0:=hrl p.tables htb p2
  -- all that is right
  have fin:(∀ l∈p.on_,∀ e∈l,∃ i,GoE c ((kH c [] (p.tables.take i)).1::t) e)→(∀ e∈p.where_,GoE c ((kH c [] p.tables).1::t) e)→(∀ k∈p.order,GoE c ((kH c [] p.tables).1::t) k.expr)→(∀ e∈p.items,GoE c ((kH c [] p.tables).1::t) e)→GoP c t p:=by
    intro gO gW gK gI s h
    by_cases hsl:s.length≤1048576
    case neg=>exact absurd h.length (by omega)
    obtain ⟨ns,n1,n2⟩:=bQs hc s.length (by omega) p.tables ⟨p2,htb⟩
    have E0:aQg ((kH c [] p.tables).1::t) (⟨ns⟩::s):=.cons (by rw [aTg c p.tables [] htb];simp [n2]) h
    have E1:∀ i,aQg ((kH c [] (p.tables.take i)).1::t) (⟨ns⟩::s):=fun i=>.cons (by
      rw [aTg c (p.tables.take i) [] fun k hk=>htb k (WW hk)]
      have:=bH6 c p.tables i
      simp;omega) h
    obtain ⟨wh,w1,w2⟩:=aVg c (⟨ns⟩::s) p.where_ (by omega) fun e he=>gW e he _ E0
    obtain ⟨fr,f1,f2⟩:=cHi c s (⟨ns⟩::s) p wh (by omega) p3 p2 htb fun l hl=>by
      have hm:=zO (z:=zL bU) hl
      refine aVg c (⟨ns⟩::s) l (by have:=zV (z:=bU) l;omega) fun e he=>?_
      obtain ⟨i,g⟩:=gO l hl e he
      exact g _ (E1 i)
    obtain ⟨od,o1,o2⟩:=cB8 c (⟨ns⟩::s) p fr wh (by omega) fun k hk=>gK k hk _ E0
    obtain ⟨is,i1,i2⟩:=bU5 c (⟨ns⟩::s) p od fr wh p8 (by omega) fun e he=>gI e he _ E0
    refine ⟨⟨p.distinct,is,fr,wh,od,p.limit⟩,?_,?_⟩
    · rw [aDx,n1]
      simp only [cAa _ s (by omega),w1,f1,o1,i1,QB,QA]
    · rw [zQ];dsimp only
      unfold zL at o2
      omega
  generalize hrow:(kH c [] p.tables).1=row at *
  have itL:(∀ l∈p.on_,∀ e∈l,∃ i,GoE c ((kH c [] (p.tables.take i)).1::t) e)→(∀ e∈p.where_,GoE c (row::t) e)→(∀ k∈p.order,GoE c (row::t) k.expr)→Yes (Y0 (row::t) c p [] 0) fun r=>r.2=true→GoP c t p:=by
    intro gO gW gK
    have key:∀ i,i≤p.items.length→∀ acc:List Int,acc.length≤i→Yes (Y0 (row::t) c p acc (i:Nat)) fun r=>r.2=true→∀ e∈p.items.drop i,GoE c (row::t) e:=by
      refine gD ?_ ?_
      · intro acc _;exact ⟨(acc,true),by rw [Y0];simp,by simp⟩
      · intro i hi ih acc ha
        rw [Y0,bZ hi,dU hi (by omega),QG hi]
        simp only [cZ,hi,decide_true,if_true,QB,QA]
        have hm:=zO (z:=bU) (QF hi)
        refine Yes.bind (HE row hr0 p.items[i] (by omega)) fun r hr=>Yes.ite (fun _=>⟨([],false),rfl,by simp⟩) fun hn=>?_
        rw [iI (by simp;omega),QA]
        refine (ih _ (by simp;omega)).mono fun b hb h e he=>?_
        rcases QO.1 he with rfl | he
        · exact hr (by simpa using hn)
        · exact hb h e he
    exact (key 0 (by omega) [] (by simp)).mono fun r hr h=>fin gO gW gK (by simpa using hr h)
  have odL:(∀ l∈p.on_,∀ e∈l,∃ i,GoE c ((kH c [] (p.tables.take i)).1::t) e)→(∀ e∈p.where_,GoE c (row::t) e)→Yes (aA4 (row::t) c p 0) fun r=>r.2=true→GoP c t p:=by
    intro gO gW
    have key:∀ i,i≤p.order.length→(∀ (j:Nat) (h:j<p.order.length),j<i→GoE c (row::t) p.order[j].expr)→Yes (aA4 (row::t) c p (i:Nat)) fun r=>r.2=true→GoP c t p:=by
      refine gD ?_ ?_
      · intro hg
        rw [aA4]
        simp only [cZ,QL,decide_false,QC,if_false]
        exact itL gO gW fun k hk=>by
          obtain ⟨j,hj,rfl⟩:=WE hk
          exact hg j hj hj
      · intro i hi ih hg
        rw [aA4,bZ hi,dU hi (by omega)]
        simp only [cZ,hi,decide_true,if_true,QB,QA]
        have hm:=zO (z:=fun k:dL=>bU k.expr) (QF hi)
        unfold zL at hm
        refine Yes.bind (HE row hr0 p.order[i].expr (by omega)) fun r hr=>Yes.ite (fun _=>⟨([],false),rfl,by simp⟩) fun hn=>ih fun j hj hji=>?_
        by_cases h:j<i
        · exact hg j hj h
        · have:j=i:=by omega
          subst this
          exact hr (by simpa using hn)
    exact key 0 (by omega) fun j _ h=>by omega
  have key:∀ i,i≤p.on_.length→(∀ (j:Nat) (h:j<p.on_.length),j<i→∀ e∈p.on_[j],GoE c ((kH c [] (p.tables.take (j+1))).1::t) e)→Yes (aGe t c p (i:Nat)) fun r=>r.2=true→GoP c t p:=by
    refine gD ?_ ?_
    · intro hg
      rw [aGe]
      simp only [cZ,QL,decide_false,QC,if_false,aKk c hT p.tables (by omega),hrow,aR5 row t (by omega),QB,QA]
      refine Yes.bind (bH2 p.where_ (by omega) fun e he=>HE row hr0 e (by have:=zO (z:=bU) he;have:=WJ he;omega)) fun b hb=>Yes.ite (fun _=>⟨([],false),rfl,by simp⟩) fun hn=>?_
      exact odL (fun l hl e he=>by
        obtain ⟨j,hj,rfl⟩:=WE hl
        exact ⟨j+1,hg j hj hj e he⟩) (hb (by simpa using hn))
    · intro i hi ih hg
      have hs:nR p.tables 0 ((i+1:Nat):Int)=some (p.tables.take (i+1)):=bPi (by omega)
      have hti:∀ k∈p.tables.take (i+1),0≤k∧k<(c.tables.length:Int):=fun k hk=>htb k (WW hk)
      have hm:=zO (z:=zL bU) (QF hi)
      have hlz:=zV (z:=bU) p.on_[i]
      rw [aGe]
      simp only [cZ,hi,decide_true,if_true,bZ hi,dU hi (by omega),hs,aKk c hT (p.tables.take (i+1)) (by rw [WH];omega),aR5 _ t (show t.length≤4194304 by omega),QB,QA]
      refine Yes.bind (bH2 p.on_[i] (by omega) fun e he=>HE _ (hrl _ hti (by rw [WH];omega)) e (by have:=zO (z:=bU) he;omega)) fun b hb=>Yes.ite (fun _=>⟨([],false),rfl,by simp⟩) fun hn=>ih fun j hj hji=>?_
      by_cases h:j<i
      · exact hg j hj h
      · have:j=i:=by omega
        subst this
        exact hb (by simpa using hn)
  exact key 0 (by omega) fun j _ h=>by omega
theorem bIq {c:aP}(hc:qH c):∀ n:Nat,n≤1048577 →
    (∀ t:List (List Int),(∀ r∈t,r.length≤1048576)→∀ e,bU e<n→t.length+bU e≤1048576→TE c t e) ∧
    (∀ t:List (List Int),(∀ r∈t,r.length≤1048576)→∀ p,iR p<n→t.length+iR p+1≤1048576→TP c t p)
  | 0,_=>⟨fun _ _ _ h=>by omega,fun _ _ _ h=>by omega⟩
  | n+1,hn=>by
    obtain ⟨ihE,ihQ⟩:=bIq hc n (by omega)
    refine ⟨fun t h e hz hl=>?_,fun t h p hz hl=>?_⟩
    · refine bQ6 (by omega) h (by omega) (fun k hk=>?_) fun p hq=>?_
      · have:=aV5 hk
        have:=WJ hk
        exact ihE t h k (by omega) (by omega)
      · have:=bE0 hq
        have:=WJ hq
        exact ihQ t h p (by omega) (by omega)
    · refine cJr hc (by omega) (by omega) fun row hr e he=>ihE (row::t) (fun r hr'=>?_) e (by omega) (by simp only [QE];omega)
      rcases QO.1 hr' with rfl | hr'
      · omega
      · exact h r hr'
theorem cAg {c:aP}(hs:J5 c){p:bA}(hz:iR p≤1000000):∃ r,aM9 c p=some r∧gL r.1≤iR p:=by
  obtain ⟨a,a1,a2⟩:=bL9 c hs
  obtain ⟨_,d2,_,d4,_⟩:=bNa p (by omega)
  have no:gL (aL.mk false [] [] [] [] 0)≤iR p:=by rw [zQ];simp [iQ,iB,dD,mZ]
  unfold aM9 aSy
  rw [a1]
  cases a with
  | false=>exact ⟨_,by simp;rfl,no⟩
  | true =>
    have hc:=a2.1 rfl
    obtain ⟨r,t1,t2⟩:=(bIq hc 1048577 (QR _)).2 [] (by simp) p (by omega) (by simp;omega)
    by_cases x:dP p≤24
    case neg=>exact ⟨(aL.mk false [] [] [] [] 0,false),by simp [d2,x,show 24<dP p by omega],no⟩
    have x':¬ 24<dP p:=by omega
    by_cases y:200<sP p
    · exact ⟨(aL.mk false [] [] [] [] 0,false),by simp [d2,d4,x,x',y],no⟩
    obtain ⟨ts,ok⟩:=r
    cases ok with
    | false=>exact ⟨(aL.mk false [] [] [] [] 0,false),by simp [d2,d4,x,x',y,t1],no⟩
    | true =>
      obtain ⟨q,q1,q2⟩:=t2 rfl [] .nil
      exact ⟨(q,true),by simp [d2,d4,x,x',y,t1,q1],q2⟩
theorem bHv (c:aA)(h:okCur c):Yes (aL0 c) fun r=>r.1.kids=[]∧r.1.sub=[]∧okCur r.2:=by
  have J1:∀ a b c i j,okCur ⟨c,i,j⟩→Yes (aMg a b c i j) fun r=>r.1.kids=[]∧r.1.sub=[]∧okCur r.2:=fun a b c i j k=>Yes.some ⟨rfl,rfl,k⟩
  have J0:∀ y a c i j,okCur ⟨c,i,j⟩→Yes (aI0 y a c i j) fun r=>r.1.kids=[]∧r.1.sub=[]∧okCur r.2:=fun y a c i j k=>by
    unfold aI0
    exact Yes.bind (jP _ _ k) fun r k=>Yes.ite (fun _=>Yes.bind (aPg _ k) fun r k=>J1 _ _ _ _ _ k) fun _=>J1 _ _ _ _ _ k
  unfold aL0
  exact Yes.bind (N8 _ _ (by decide) h) fun r k=>Yes.bind (jP _ _ k) fun r k=>Yes.ite (fun _=>Yes.bind (N8 _ _ (by decide) k) fun r k=>J0 _ _ _ _ _ k) fun _=>J0 _ _ _ _ _ k
theorem bMf (c:aA)(h:okCur c):Yes (aNl c) fun r=>okCur r.2:=by
  unfold aNl aKq
  exact Yes.bind ((cFu _ h).mono fun _ h=>h.2.2) fun r k=>Yes.bind (Q:=fun _=>True) ⟨_,rfl,trivial⟩ fun b _=>Yes.ite (fun _=>Yes.some k) fun _=>Yes.some k
def okE7 (B:Nat)(r:aB×aA):Prop:=bX r.1≤B∧okCur r.2
def Zb7:Nat→Nat
  | 0=>0
  | n+1=>12+9 * Zb7 n
theorem bXx (B:Nat)(d:Int)(m:Int)(hm:m≤3) (H:∀ c,okCur c→Yes (uE c (QP .i64 (d - 1))) (okE7 B)) :
    ∀ (k:Nat) (i:Int) b j h (l:List aB),m≤k+i→0≤i→i≤3→(l.length:Int)≤i→dD l≤l.length * B→okCur ⟨b,j,h⟩→Yes (aF1 d m i b j h l) fun r=>r.1.length≤3∧dD r.1≤r.1.length * B∧okCur r.2:=by
  intro k
  induction k with
  | zero =>
    intro i b j h l h1 h2 h3 h4 h5 h6
    rw [aF1,if_neg (by simp;omega)]
    exact Yes.some ⟨by show l.length≤3;omega,h5,h6⟩
  | succ k ih =>
    intro i b j h l h1 h2 h3 h4 h5 h6
    rw [aF1]
    refine Yes.ite (fun hi=>?_) fun _=>Yes.some ⟨by show l.length≤3;omega,h5,h6⟩
    have hi':i<m:=by simpa using hi
    refine Yes.bind (H _ h6) fun r ⟨hz,hr⟩=>Yes.bind (pW (by simp;omega)) fun y hy=>?_
    subst hy
    rw [fM (by omega) (by omega)]
    refine ih _ _ _ _ _ (by omega) (by omega) (by omega) (by simp;omega) ?_ hr
    rw [aTh,QM,WN]
    simp [dD];omega
theorem bR5 (B:Nat)(d:Int)(m:Int)(hm:m≤3) (H:∀ c,okCur c→Yes (uE c (QP .i64 (d - 1))) (okE7 B)) (c:aA) (h:okCur c):Yes (zI c d m) fun r=>r.1.length≤3∧dD r.1≤3 * B∧okCur r.2:=by
  rw [zI]
  refine (bXx B d m hm H m.toNat 0 c.b c.i c.h [] (by omega) (by omega) (by omega) (by simp) (by simp [dD]) h).mono fun r ⟨h1,h2,h3⟩=>⟨h1,QW h2 (WO _ h1),h3⟩
def yQ (B:Nat)(r:aL×aA):Prop:=gL r.1≤8+6 * B∧okCur r.2
section
variable {B:Nat} {d:Int} (H:∀ c,okCur c→Yes (uE c d) (okE7 B))
theorem bIz {y1:Bool×aA}{o:List eX}{w:List aB}{f:List bI}{it:List bG}{lim:Int}{b:List Int}{i j:Int}(h1:it.length+iQ it≤2+2 * B)(h2:f.length+iB f≤4+2 * B)(h3:w.length+dD w≤1+B)(h4:o.length+mZ o≤1+B)
    (k:okCur ⟨b,i,j⟩):Yes (aMs y1 o w f it lim b i j) (yQ B):=Yes.some ⟨by simp only [gL];omega,k⟩
theorem bMv {y1:Bool×aA}{o:List eX}{w:List aB}{f:List bI}{it:List bG}{b:List Int}{i j:Int}(h1:it.length+iQ it≤2+2 * B)(h2:f.length+iB f≤4+2 * B)(h3:w.length+dD w≤1+B)(h4:o.length+mZ o≤1+B)
    (k:okCur ⟨b,i,j⟩):Yes (aIc y1 f it b i j o w) (yQ B):=by
  unfold aIc
  exact Yes.bind (jP _ _ k) fun r k=>Yes.ite (fun _=>Yes.bind (aWf _ _ (by decide) k) fun r k=>bIz h1 h2 h3 h4 k) fun _=>bIz h1 h2 h3 h4 k
include H
theorem bHo {y1:Bool×aA}{w:List aB}{f:List bI}{it:List bG}{b:List Int}{i j:Int}(h1:it.length+iQ it≤2+2 * B)(h2:f.length+iB f≤4+2 * B)(h3:w.length+dD w≤1+B)
    (k:okCur ⟨b,i,j⟩):Yes (aE9 d y1 it b i j (w,f)) (yQ B):=by
  rw [aE9]
  refine Yes.bind (jP _ _ k) fun r k=>Yes.ite (fun _=>?_) fun _=>bMv h1 h2 h3 (by simp [mZ]) k
  refine Yes.bind (H _ k) fun r ⟨hz,k⟩=>Yes.bind (jP _ _ k) fun r2 k=>Yes.bind (pW (by simp)) fun y hy=>?_
  subst hy
  exact bMv h1 h2 h3 (by simp [mZ,yB];omega) k
theorem cGl {y1:Bool×aA}{y:Int×aA}(hy:y.1<2)(hy0:0≤y.1){it:List bG}(h1:it.length+iQ it≤2+2 * B):∀ (n:Nat) (x:Int) (b:List Int) (i j:Int) (f:List bI),1+y.1≤n+x→0≤x→(f.length:Int)≤x→x≤2→f.length+iB f≤f.length * (2+B)→okCur ⟨b,i,j⟩ →
    Yes (aAq d y y1 it x b (i,j,f)) (yQ B):=by
  have e0:QP .i64 (1+y.1)=1+y.1:=fM (by omega) (by omega)
  have fin:∀ (x:Int) (b:List Int) (i j:Int) (f:List bI),¬ x<1+y.1→(f.length:Int)≤x→x≤2→f.length+iB f≤f.length * (2+B)→okCur ⟨b,i,j⟩→Yes (aAq d y y1 it x b (i,j,f)) (yQ B):=by
    intro x b i j f hx hl h2 hf k
    have hm:f.length * (2+B)≤2 * (2+B):=WO _ (by omega)
    have hF:f.length+iB f≤4+2 * B:=by omega
    rw [aAq,e0,if_neg (by simpa using hx)]
    refine Yes.bind (jP _ _ k) fun r k=>Yes.ite (fun _=>?_) fun _=>bHo H h1 hF (by simp [dD]) k
    exact Yes.bind (H _ k) fun r ⟨hz,k⟩=>bHo H h1 hF (by simp [dD];omega) k
  intro n
  induction n with
  | zero=>intro x b i j f hn h0 hl h2 hf k;exact fin x b i j f (by omega) hl h2 hf k
  | succ n ih =>
    intro x b i j f hn h0 hl h2 hf k
    by_cases hx:x<1+y.1
    · have J6:∀ (t:List UInt8×aA) (s:List UInt8) (b:List Int) (i j:Int) (on:List aB),on.length+dD on≤1+B→okCur ⟨b,i,j⟩→Yes (aGv d y x y1 t s (it,(b,(i,(j,(on,f)))))) (yQ B):=by
        intro t s b i j on ho k
        rw [aGv]
        refine Yes.bind (pW (by simp;omega)) fun z hz=>?_
        subst hz
        rw [fM (by omega) (by omega)]
        refine ih _ _ _ _ _ (by omega) (by omega) (by simp;omega) (by omega) ?_ k
        rw [bL1,QM,WN]
        simp only [QE,QH,iB,nN];omega
      have J4:∀ (t:List UInt8×aA) (s:List UInt8) (b:List Int) (i j:Int),okCur ⟨b,i,j⟩→Yes (aGt d y x y1 t f (it,s,b,i,j)) (yQ B):=by
        intro t s b i j k
        rw [aGt]
        refine Yes.bind (aE7 _ _ _ _ k) fun r k=>Yes.bind (Q:=fun _=>True) ⟨_,rfl,trivial⟩ fun q _=>Yes.ite (fun _=>?_) fun _=>J6 _ _ _ _ _ _ (by simp [dD]) k
        exact Yes.bind (H _ k) fun r ⟨hz,k⟩=>J6 _ _ _ _ _ _ (by simp [dD];omega) k
      rw [aAq,e0,if_pos (by simpa using hx)]
      exact Yes.bind (N8 _ _ (by decide) k) fun r k=>Yes.bind (jP _ _ k) fun r2 k=>Yes.ite (fun _=>Yes.bind (aPg _ k) fun r3 k=>J4 _ _ _ _ _ k) fun _=>J4 _ _ _ _ _ k
    · exact fin x b i j f hx hl h2 hf k
theorem cAy {y1:Bool×aA}{y:Int×aA}(hy:y.1<2)(hy0:0≤y.1):∀ (n:Nat) (x:Int) (b:List Int) (i j:Int) (f:List bG),1+y.1≤n+x→0≤x→(f.length:Int)≤x→x≤2→f.length+iQ f≤f.length * (1+B)→okCur ⟨b,i,j⟩ →
    Yes (aB3 d y y1 x b i (j,f)) (yQ B):=by
  have e0:QP .i64 (1+y.1)=1+y.1:=fM (by omega) (by omega)
  have fin:∀ (x:Int) (b:List Int) (i j:Int) (f:List bG),¬ x<1+y.1→(f.length:Int)≤x→x≤2→f.length+iQ f≤f.length * (1+B)→okCur ⟨b,i,j⟩→Yes (aB3 d y y1 x b i (j,f)) (yQ B):=by
    intro x b i j f hx hl h2 hf k
    have hm:f.length * (1+B)≤2 * (1+B):=WO _ (by omega)
    have hI:f.length+iQ f≤2+2 * B:=by omega
    rw [aB3,e0,if_neg (by simpa using hx)]
    refine Yes.bind (kT _ _ k) fun r ⟨r0,r1,k⟩=>?_
    exact cGl H (r1 (by decide)) r0 hI 2 0 _ _ _ _ (by have:=r1 (by decide);omega) (by omega) (by simp) (by omega) (by simp [iB]) k
  intro n
  induction n with
  | zero=>intro x b i j f hn h0 hl h2 hf k;exact fin x b i j f (by omega) hl h2 hf k
  | succ n ih =>
    intro x b i j f hn h0 hl h2 hf k
    by_cases hx:x<1+y.1
    · have J1:∀ (b:List Int) (i j:Int) (it:bG),mF it≤B→okCur ⟨b,i,j⟩→Yes (aEh d y x y1 b i (j,f++[it])) (yQ B):=by
        intro b i j it ho k
        rw [aEh,fM (by omega) (by omega)]
        refine ih _ _ _ _ _ (by omega) (by omega) (by simp;omega) (by omega) ?_ k
        rw [bDl,QM,WN]
        simp only [QE,QH,iQ];omega
      have J2:∀ (t:aB×aA) (s:List UInt8) (b:List Int) (i j:Int),bX t.1≤B→okCur ⟨b,i,j⟩→Yes (aGr d y x y1 t f (s,b,i,j)) (yQ B):=by
        intro t s b i j hz k
        rw [aGr]
        refine Yes.bind (pW (by simp;omega)) fun z hz=>?_
        subst hz
        exact J1 _ _ _ _ (by simpa [mF] using by assumption) k
      rw [aB3,e0,if_pos (by simpa using hx)]
      refine Yes.bind (kT _ _ k) fun r ⟨_,_,k⟩=>Yes.ite (fun _=>?_) fun _=>Yes.ite (fun _=>?_) fun _=>?_
      · refine Yes.bind (pW (by simp;omega)) fun z hz=>?_
        subst hz
        exact J1 _ _ _ _ (by simp [mF,bX,dD,jH]) k
      · refine Yes.bind (N8 _ _ (by decide) k) fun r k=>Yes.bind (pW (by simp;omega)) fun z hz=>?_
        subst hz
        exact J1 _ _ _ _ (by simp [mF,bX,dD,jH]) k
      · exact Yes.bind (H _ k) fun r ⟨hz,k⟩=>Yes.bind (jP _ _ k) fun r2 k=>Yes.ite (fun _=>Yes.bind (aPg _ k) fun r3 k=>J2 _ _ _ _ _ hz k) fun _=>J2 _ _ _ _ _ hz k
    · exact fin x b i j f hx hl h2 hf k
theorem bJr (c:aA)(k:okCur c):Yes (aB8 c d) (yQ B):=by
  rw [aB8]
  exact Yes.bind (jP _ _ k) fun r k=>Yes.bind (kT _ _ k) fun r2 ⟨r0,r1,k⟩=>cAy H (r1 (by decide)) r0 2 0 _ _ _ _ (by have:=r1 (by decide);omega) (by omega) (by simp) (by omega) (by simp [iQ]) k
end
theorem cGm:∀ (n:Nat)(d:Int)(c:aA),d≤n→n≤100→okCur c→Yes (uE c d) (okE7 (Zb7 n)):=by
  intro n
  induction n with
  | zero =>
    intro d c hd _ h
    rw [uE]
    refine Yes.bind (aE7 _ _ _ _ h) fun r k=>Yes.bind (Q:=fun q=>q=true) ⟨_,rfl,by rw [if_pos (by simpa using hd)]⟩ fun q hq=>?_
    rw [if_pos hq]
    refine Yes.bind (jP _ _ k) fun r k=>Yes.ite (fun _=>Yes.bind (bHv _ k) fun r ⟨h1,h2,k⟩=>Yes.some ⟨?_,k⟩) fun _=>Yes.bind (bMf _ k) fun r k=>Yes.some ⟨by simp [bX,dD,jH],k⟩
    show bX r.1≤0
    rw [zE];simp [h1,h2,dD,jH]
  | succ n ih =>
    intro d c hd hn h
    have hB:Zb7 (n+1)=12+9 * Zb7 n:=rfl
    rw [uE]
    refine Yes.bind (aE7 _ _ _ _ h) fun r k=>Yes.bind (Q:=fun q=>q=true∨0<d) ⟨_,rfl,?_⟩ fun q hq=>Yes.ite (fun _=>?_) fun hq2=>?_
    · by_cases h0:d≤0
      · exact .inl (by rw [if_pos (by simpa using h0)])
      · exact .inr (by omega)
    · refine Yes.bind (jP _ _ k) fun r k=>Yes.ite (fun _=>Yes.bind (bHv _ k) fun r ⟨h1,h2,k⟩=>Yes.some ⟨?_,k⟩) fun _=>Yes.bind (bMf _ k) fun r k=>Yes.some ⟨by simp [bX,dD,jH],k⟩
      show bX r.1≤_
      rw [zE];simp [h1,h2,dD,jH]
    · have h0:0<d:=hq.resolve_left hq2
      have e1:QP .i64 (d - 1)=d - 1:=fM (by omega) (by omega)
      have H1:∀ c,okCur c→Yes (uE c (QP .i64 (d - 1))) (okE7 (Zb7 n)):=fun c k=>ih _ c (by omega) (by omega) k
      have K:∀ m c,m≤3→okCur c→Yes (zI c d m) fun r=>r.1.length≤3∧dD r.1≤3 * Zb7 n∧okCur r.2:=fun m c hm k=>bR5 (Zb7 n) d m hm H1 c k
      have Q2:∀ c,1<d→okCur c→Yes (aB8 c (QP .i64 (d - 2))) (yQ (Zb7 n)):=fun c h2 k=>bJr (fun c k=>ih _ c (by rw [fM (by omega) (by omega)];omega) (by omega) k) c k
      have J0:∀ y:Int×aA,okCur y.2→Yes (aGj d y) (okE7 (Zb7 (n+1))):=fun y k=>by
        rw [aGj]
        exact Yes.bind (kT _ _ k) fun r ⟨_,_,k⟩=>Yes.bind (K 2 _ (by omega) k) fun r ⟨h1,h2,k⟩=>Yes.some ⟨by simp only [bX,jH,QH];omega,k⟩
      refine Yes.bind (kT _ _ k) fun r ⟨_,_,k⟩=>Yes.ite (fun _=>?_) fun _=>Yes.ite (fun _=>?_) fun _=>Yes.ite (fun _=>?_) fun _=>Yes.ite (fun _=>?_) fun _=>Yes.ite (fun _=>?_) fun _=>Yes.ite (fun _=>?_) fun _=>Yes.ite (fun _=>?_) fun _=>J0 _ k
      · exact Yes.bind (K 1 _ (by omega) k) fun r ⟨h1,h2,k⟩=>Yes.some ⟨by simp only [bX,jH,QH];omega,k⟩
      · exact Yes.bind (K 1 _ (by omega) k) fun r ⟨h1,h2,k⟩=>Yes.some ⟨by simp only [bX,jH,QH];omega,k⟩
      · exact Yes.bind (jP _ _ k) fun r k=>Yes.bind (K 1 _ (by omega) k) fun r ⟨h1,h2,k⟩=>Yes.some ⟨by simp only [bX,jH,QH];omega,k⟩
      · exact Yes.bind (jP _ _ k) fun r k=>Yes.bind (K 3 _ (by omega) k) fun r ⟨h1,h2,k⟩=>Yes.some ⟨by simp only [bX,jH,QH];omega,k⟩
      · exact Yes.bind (jP _ _ k) fun r k=>Yes.bind (kT _ _ k) fun r ⟨b0,b1,k⟩=>Yes.bind (K _ _ (by have:=b1 (by decide);rw [fM (by omega) (by omega)];omega) k) fun r ⟨h1,h2,k⟩=>Yes.some ⟨by simp only [bX,jH,QH];omega,k⟩
      · refine Yes.ite (fun h2=>?_) fun _=>J0 _ k
        exact Yes.bind (jP _ _ k) fun r k=>Yes.bind (K 1 _ (by omega) k) fun r ⟨h1,h3,k⟩=>Yes.bind (Q2 _ (by simpa using h2) k) fun r2 ⟨h4,k⟩=>Yes.some ⟨by simp only [bX,jH,QH,QE];omega,k⟩
      · refine Yes.ite (fun h2=>?_) fun _=>J0 _ k
        exact Yes.bind (Q2 _ (by simpa using h2) k) fun r2 ⟨h4,k⟩=>Yes.some ⟨by simp only [bX,dD,jH,QH,QE];omega,k⟩
theorem aO5:∀ (n:Nat)(l:List aB),l.length<n→1≤l.length→l.length≤40→∀ B,(∀ x∈l,bX x≤B)→dD l+2 * l.length≤B+2→∃ e,aHj l=some e∧bX e≤B
  | 0,l,h,_,_,_,_,_=>by omega
  | n+1,l,h,h1,h40,B,hB,hS=>by
    rw [aHj]
    by_cases h2:1<l.length
    case neg =>
      have e0:idx l 0=some l[0]:=bZ (i:=0) (by omega)
      rw [if_neg (by simp;omega),e0]
      exact ⟨l[0],rfl,hB _ (QF _)⟩
    rw [if_pos (by simp;omega)]
    have key:∀ (k i:Nat) (x:List aB),l.length≤k+i→2 * x.length=i→i≤l.length→(∀ y∈x,bX y≤B)→dD x+2 * x.length+(dD (l.drop i)+2 * (l.length - i))≤B+2→∃ e,aGg l x (i:Nat)=some e∧bX e≤B:=by
      intro k
      induction k with
      | zero =>
        intro i x hk hx hi hy hz
        rw [aGg,fM (n:=(i:Int)+1) (by omega) (by omega),if_neg (by simp;omega)]
        have:Int.tmod (l.length:Int) 2=(l.length:Int) % 2:=WX (by omega)
        rw [if_neg (by rw [this];simp;omega),aA0]
        exact aO5 n x (by omega) (by omega) (by omega) B hy (by omega)
      | succ k ih =>
        intro i x hk hx hi hy hz
        rw [aGg,fM (n:=(i:Int)+1) (by omega) (by omega)]
        by_cases h3:i+1<l.length
        · have ea:((i:Int)+1)=((i+1:Nat):Int):=by omega
          rw [if_pos (by simp;omega),ea,bZ (show i<l.length by omega),bZ h3]
          simp only [QB,QA]
          rw [iI (by simp;omega),QA,fM (n:=(i:Int)+2) (by omega) (by omega)]
          have e2:((i:Int)+2)=((i+2:Nat):Int):=by omega
          rw [e2]
          have hd:dD (l.drop i)=bX l[i]+(bX l[i+1]+dD (l.drop (i+2))):=by
            rw [aMh l i (by omega),aMh l (i+1) h3]
          have hn:bX (aB.mk 4 2 false (bP.mk 0 0 []) [] [] [l[i],l[i+1]] [])=2+(bX l[i]+bX l[i+1]):=by rw [zE];simp [dD,jH]
          have hz':dD (x++[aB.mk 4 2 false (bP.mk 0 0 []) [] [] [l[i],l[i+1]] []])=dD x+(2+(bX l[i]+bX l[i+1])):=by rw [aTh];simp only [dD,hn];omega
          refine ih (i+2) _ (by omega) (by simp;omega) (by omega) (fun y hy'=>?_) (by rw [hz'];simp only [QM,QE,QH];omega)
          rcases QT.1 hy' with hy' | hy'
          · exact hy y hy'
          · obtain rfl:y=_:=by simpa using hy'
            rw [hn];omega
        · rw [if_neg (by simp;omega)]
          have:Int.tmod (l.length:Int) 2=(l.length:Int) % 2:=WX (by omega)
          by_cases h4:l.length % 2=1
          · have el:((l.length:Int) - 1)=((l.length - 1:Nat):Int):=by omega
            rw [if_pos (by rw [this];simp;omega),fM (n:=(l.length:Int) - 1) (by omega) (by omega),el,bZ (show l.length - 1<l.length by omega)]
            simp only [QB,QA]
            rw [iI (by simp;omega),QA,aA0]
            have hi':i=l.length - 1:=by omega
            subst hi'
            have hd:=aMh l (l.length - 1) (by omega)
            have hz':dD (x++[l[l.length - 1]])=dD x+bX l[l.length - 1]:=by rw [aTh];simp only [dD];omega
            refine aO5 n _ (by simp;omega) (by simp) (by simp;omega) B (fun y hy'=>?_) (by rw [hz'];simp only [QM,QE,QH];omega)
            rcases QT.1 hy' with hy' | hy'
            · exact hy y hy'
            · obtain rfl:y=_:=by simpa using hy'
              exact hB _ (QF _)
          · rw [if_neg (by rw [this];simp;omega),aA0]
            exact aO5 n x (by omega) (by omega) (by omega) B hy (by omega)
    exact key l.length 0 [] (by omega) rfl (by omega) (by simp) (by simp [dD];omega)
theorem cFl (n:Int)(h0:1≤n)(h:n≤40):Yes (aLb n) fun e=>bX e≤1000:=by
  rw [aLb]
  have key:∀ (k:Nat) (i:Int) (x:List aB),n≤k+i→0≤i→i≤n→(x.length:Int)=i→(∀ y∈x,bX y=5)→Yes (T9 n x i) fun e=>bX e≤1000:=by
    intro k
    induction k with
    | zero =>
      intro i x hk hi hn hx hy
      rw [T9,if_neg (by simp;omega)]
      have hs:dD x=5 * x.length:=by
        clear hx
        induction x with
        | nil=>simp [dD]
        | cons a l ih=>simp only [dD,QE,hy a (by simp),ih fun y h=>hy y (by simp [h])];omega
      exact aO5 41 x (by omega) (by omega) (by omega) 1000 (fun y h=>by rw [hy y h];omega) (by omega)
    | succ k ih =>
      intro i x hk hi hn hx hy
      rw [T9]
      refine Yes.ite (fun hlt=>?_) fun hlt=>?_
      · have hlt:i<n:=by simpa using hlt
        rw [iI (by simp;omega),QB,QA,fM (n:=i+1) (by omega) (by omega)]
        refine ih (i+1) _ (by omega) (by omega) (by omega) (by simp;omega) fun y hy'=>?_
        rcases QT.1 hy' with hy' | hy'
        · exact hy y hy'
        · obtain rfl:y=_:=by simpa using hy'
          rw [zE];simp [dD,jH,zQ,iQ,mF,zE,iB,nN,mZ]
      · have hlt:¬ i<n:=by simpa using hlt
        have:=ih i x (by omega) hi hn hx hy
        rw [T9,if_neg (by simp;omega)] at this
        exact this
  exact key n.toNat 0 [] (by omega) (by omega) (by omega) rfl (by simp)
theorem bB9:∀ (l:List aB)(i:Nat)(y:aB),(∀ x,l[i]?=some x→bX y≤bX x)→dD (l.set i y)≤dD l
  | [],_,_,_=>by simp
  | a::l,0,y,h=>by have:=h a (by simp);simp only [WK,dD];omega
  | a::l,i+1,y,h=>by have:=bB9 l i y fun x hx=>h x (by simpa using hx);simp only [WM,dD];omega
theorem bHz:∀ (l:List bG)(i:Nat)(y:bG),(∀ x,l[i]?=some x→mF y≤mF x)→iQ (l.set i y)≤iQ l
  | [],_,_,_=>by simp
  | a::l,0,y,h=>by have:=h a (by simp);simp only [WK,iQ];omega
  | a::l,i+1,y,h=>by have:=bHz l i y fun x hx=>h x (by simpa using hx);simp only [WM,iQ];omega
theorem bP1:∀ (l:List bI)(i:Nat)(y:bI),(∀ x,l[i]?=some x→nN y≤nN x)→iB (l.set i y)≤iB l
  | [],_,_,_=>by simp
  | a::l,0,y,h=>by have:=h a (by simp);simp only [WK,iB];omega
  | a::l,i+1,y,h=>by have:=bP1 l i y fun x hx=>h x (by simpa using hx);simp only [WM,iB];omega
theorem bD6:∀ {l:List aB}{x:aB},x∈l→bX x≤dD l
  | a::l,x,h=>by
    rcases QO.1 h with rfl | h
    · simp only [dD];omega
    · have:=bD6 h;simp only [dD];omega
theorem bH8:∀ {l:List bG}{x:bG},x∈l→mF x≤iQ l
  | a::l,x,h=>by
    rcases QO.1 h with rfl | h
    · simp only [iQ];omega
    · have:=bH8 h;simp only [iQ];omega
abbrev UnD (e:aB)(r:aB×aA):Prop:=bX r.1≤bX e∧okCur r.2
theorem bEj:∀ (n:Nat)(e:aB)(c:aA),bX e<n→bX e≤1000000→okCur c→Yes (aDt c e) (UnD e)
  | 0,_,_,h,_,_=>by omega
  | n+1,e,c,hn,hz,hc=>by
    have hze:=zE e
    have L:∀ (q:List UInt8) (k i:Nat) (b:List Int) (j h:Int) (x:List aB),x.length≤k+i→x.length=e.kids.length→dD x≤dD e.kids→okCur ⟨b,j,h⟩→Yes (aAa e q (i:Nat) b j h x) (UnD e):=by
      intro q k
      induction k with
      | zero =>
        intro i b j h x hk hl hx hc
        rw [aAa]
        exact Yes.ite (fun hlt=>absurd hlt (by simp;omega)) fun _=>Yes.some ⟨by rw [zE];dsimp only;omega,hc⟩
      | succ k ih =>
        intro i b j h x hk hl hx hc
        rw [aAa]
        refine Yes.ite (fun hlt=>?_) fun _=>Yes.some ⟨by rw [zE];dsimp only;omega,hc⟩
        have hlt:i<x.length:=by simpa using hlt
        have hm:=bD6 (QF hlt)
        rw [bZ hlt,QB,QA,dU hlt (by omega)]
        refine Yes.bind (bEj n x[i] _ (by omega) (by omega) hc) fun r ⟨h1,h2⟩=>ih (i+1) _ _ _ _ (by simp;omega) (by simpa using hl) ?_ h2
        exact QW (bB9 x _ _ fun y hy=>by
          simp only [WF,QV hlt,QX] at hy
          subst hy;exact h1) hx
    have J:∀ (q:List UInt8) (b:List Int) (j h:Int),okCur ⟨b,j,h⟩→Yes (aHz e q b j h) (UnD e):=fun q b j h hc=>by
      rw [aHz]
      exact L q e.kids.length 0 b j h e.kids (by omega) rfl (QR _) hc
    rw [aDt]
    refine Yes.bind (aE7 _ _ _ _ hc) fun y1 k=>Yes.bind (Q:=fun _=>True) ⟨_,rfl,trivial⟩ fun y2 _=>Yes.ite (fun _=>?_) fun _=>J _ _ _ _ k
    exact Yes.bind (N8 _ _ (by decide) k) fun y3 k=>J _ _ _ _ k
abbrev QD (p:aL)(r:aL×aA):Prop:=gL r.1≤gL p∧okCur r.2
abbrev IL (p:aL)(l:List bG):Prop:=l.length=p.items.length∧iQ l≤iQ p.items
abbrev FL (p:aL)(l:List bI):Prop:=l.length=p.from_.length∧iB l≤iB p.from_
abbrev WL (p:aL)(l:List aB):Prop:=l.length=p.where_.length∧dD l≤dD p.where_
theorem IL.put {p:aL}{l:List bG}(h:IL p l){i:Nat}(hi:i<l.length){y:bG} (hy:mF y≤mF l[i]):IL p (l.set ((i:Nat):Int).toNat y) :=
  ⟨by simpa using h.1,QW (bHz l _ _ fun x hx=>by
    simp only [WF,QV hi,QX] at hx
    subst hx;exact hy) h.2⟩
theorem FL.put {p:aL}{l:List bI}(h:FL p l){i:Nat}(hi:i<l.length){y:bI} (hy:nN y≤nN l[i]):FL p (l.set ((i:Nat):Int).toNat y) :=
  ⟨by simpa using h.1,QW (bP1 l _ _ fun x hx=>by
    simp only [WF,QV hi,QX] at hx
    subst hx;exact hy) h.2⟩
theorem WL.put {p:aL}{l:List aB}(h:WL p l){i:Nat}(hi:i<l.length){y:aB} (hy:bX y≤bX l[i]):WL p (l.set ((i:Nat):Int).toNat y) :=
  ⟨by simpa using h.1,QW (bB9 l _ _ fun x hx=>by
    simp only [WF,QV hi,QX] at hx
    subst hx;exact hy) h.2⟩
section
variable {p:aL} (hz:gL p≤400000)
include hz
theorem bNf {fr:List bI}{wh:List aB}(hf:FL p fr)(hw:WL p wh):∀ (k i:Nat) (b:List Int) (j h:Int) (l:List bG),p.items.length≤k+i→IL p l→okCur ⟨b,j,h⟩→Yes (aB9 p fr wh (i:Nat) b j h l) (QD p):=by
  have hzq:=zQ p
  intro k
  induction k with
  | zero =>
    intro i b j h l hk hl hc
    rw [aB9]
    exact Yes.ite (fun hlt=>absurd hlt (by simp;omega)) fun _=>Yes.some ⟨by rw [zQ];dsimp only;omega,hc⟩
  | succ k ih =>
    intro i b j h l hk hl hc
    rw [aB9]
    refine Yes.ite (fun hlt=>?_) fun _=>Yes.some ⟨by rw [zQ];dsimp only;omega,hc⟩
    have hlt:i<l.length:=by simpa using hlt
    have hm:=bH8 (QF hlt)
    have hI:mF l[i]=bX l[i].expr:=by obtain ⟨a,b,c,d⟩:=l[i];simp only [mF]
    rw [bZ hlt,QB,QA,dU hlt (by omega)]
    exact Yes.bind (bEj _ l[i].expr _ (WY _) (by omega) hc) fun r ⟨h1,h2⟩=>ih (i+1) _ _ _ _ (by omega) (hl.put hlt (by rw [hI];simp only [mF];exact h1)) h2
theorem cE1 {fr:List bI}{it:List bG}(hf:FL p fr)(hi:IL p it):∀ (k i:Nat) (b:List Int) (j h:Int) (l:List aB),p.where_.length≤k+i→WL p l→okCur ⟨b,j,h⟩→Yes (aD6 p it fr (i:Nat) b j h l) (QD p):=by
  have hzq:=zQ p
  intro k
  induction k with
  | zero =>
    intro i b j h l hk hl hc
    rw [aD6]
    exact Yes.ite (fun hlt=>absurd hlt (by simp;omega)) fun _=>bNf hz hf hl p.items.length 0 _ _ _ _ (by omega) hi hc
  | succ k ih =>
    intro i b j h l hk hl hc
    rw [aD6]
    refine Yes.ite (fun hlt=>?_) fun _=>bNf hz hf hl p.items.length 0 _ _ _ _ (by omega) hi hc
    have hlt:i<l.length:=by simpa using hlt
    have hm:=bD6 (QF hlt)
    rw [bZ hlt,QB,QA,dU hlt (by omega)]
    exact Yes.bind (bEj _ l[i] _ (WY _) (by omega) hc) fun r ⟨h1,h2⟩=>ih (i+1) _ _ _ _ (by omega) (hl.put hlt h1) h2
theorem bCy {fr:List bI}{it:List bG}(hf:FL p fr)(hi:IL p it){b:List Int}{j h:Int}(hc:okCur ⟨b,j,h⟩):Yes (aFv p it b j h fr) (QD p):=by
  unfold aFv
  exact cE1 hz hf hi p.where_.length 0 _ _ _ _ (by omega) ⟨rfl,QR _⟩ hc
theorem bUs {it:List bG}(hi:IL p it):∀ (k i:Nat) (b:List Int) (j h:Int) (l:List bI),p.from_.length≤k+i→FL p l→okCur ⟨b,j,h⟩→Yes (aCr p it (i:Nat) b j h l) (QD p):=by
  have hzq:=zQ p
  intro k
  induction k with
  | zero =>
    intro i b j h l hk hl hc
    rw [aCr]
    exact Yes.ite (fun hlt=>absurd hlt (by simp;omega)) fun _=>bCy hz hl hi hc
  | succ k ih =>
    intro i b j h l hk hl hc
    rw [aCr]
    refine Yes.ite (fun hlt=>?_) fun _=>bCy hz hl hi hc
    have hlt:i<l.length:=by simpa using hlt
    rw [bZ hlt]
    refine Yes.bind (jP _ _ hc) fun y hc=>Yes.ite (fun _=>?_) fun _=>?_
    · rw [QB,QA,aEf,dU hlt (by omega)]
      exact ih (i+1) _ _ _ _ (by omega) (hl.put hlt (by obtain ⟨a,b,c⟩:=l[i];simp only [nN];omega)) hc
    · rw [aEf,dU hlt (by omega)]
      exact ih (i+1) _ _ _ _ (by omega) hl hc
theorem cG4:∀ (k i:Nat)(b:List Int)(j h:Int)(l:List bG),p.items.length≤k+i→IL p l→okCur ⟨b,j,h⟩→Yes (aEr p (i:Nat) b j h l) (QD p):=by
  have hzq:=zQ p
  have E:∀ (b:List Int) (j h:Int) (l:List bG),IL p l→okCur ⟨b,j,h⟩→Yes ((iC (aA.mk b j h) 3)>>=fun (y7:Bool×aA)=>if y7.1=true then (aCr p l 0 y7.2.b y7.2.i y7.2.h p.from_) else (aFv p l y7.2.b y7.2.i y7.2.h p.from_)) (QD p):=fun b j h l hl hc =>
    Yes.bind (jP _ _ hc) fun y hc=>Yes.ite (fun _=>bUs hz hl p.from_.length 0 _ _ _ _ (by omega) ⟨rfl,QR _⟩ hc) fun _=>bCy hz ⟨rfl,QR _⟩ hl hc
  intro k
  induction k with
  | zero =>
    intro i b j h l hk hl hc
    rw [aEr]
    exact Yes.ite (fun hlt=>absurd hlt (by simp;omega)) fun _=>E _ _ _ _ hl hc
  | succ k ih =>
    intro i b j h l hk hl hc
    rw [aEr]
    refine Yes.ite (fun hlt=>?_) fun _=>E _ _ _ _ hl hc
    have hlt:i<l.length:=by simpa using hlt
    have J4:∀ (b:List Int) (j h:Int) (m:List bG),IL p m→okCur ⟨b,j,h⟩→Yes (aEc (i:Nat) p b j h m) (QD p):=fun b j h m hm hc=>by
      rw [aEc,dU hlt (by omega)]
      exact ih (i+1) _ _ _ _ (by omega) hm hc
    have J1:∀ (y:Bool×aA) (m:List bG),IL p m→okCur y.2→Yes (aIx (i:Nat) p y m) (QD p):=fun y m hm hc=>by
      have hlm:i<m.length:=by have:=hm.1;have:=hl.1;omega
      rw [aIx]
      refine Yes.bind (jP _ _ hc) fun y hc=>Yes.ite (fun _=>?_) fun _=>J4 _ _ _ _ hm hc
      refine Yes.bind (N8 _ _ (by decide) hc) fun y hc=>?_
      rw [bZ hlm,QB,QA]
      exact J4 _ _ _ _ (hm.put hlm (by simp [mF,zE,dD,jH])) hc
    have G:∀ (q:Bool),Yes (if (true&&(q==true))=true then (some l[i]) else some default) fun _=>True:=fun q=>Yes.ite (fun _=>Yes.some trivial) fun _=>Yes.some trivial
    rw [bZ hlt]
    refine Yes.bind (jP _ _ hc) fun y hc=>Yes.bind (G _) fun _ _=>Yes.bind (G _) fun _ _=>Yes.bind (Q:=fun _=>True) ⟨_,rfl,trivial⟩ fun y4 _=>Yes.ite (fun _=>?_) fun _=>J1 _ _ hl hc
    rw [QB,QA]
    exact J1 _ _ (hl.put hlt (by obtain ⟨a,b,c,d⟩:=l[i];simp only [mF];omega)) hc
theorem bRc (c:aA)(hc:okCur c):Yes (aLk c p) (QD p):=by
  unfold aLk
  exact cG4 hz p.items.length 0 _ _ _ _ (by omega) ⟨rfl,QR _⟩ hc
end
theorem cDw (p:List Int)(hp:p.length≤1048576):Yes (aLx p 4) fun r=>0<r∧r≤4:=by
  unfold aLx
  have e:Int.tdiv (p.length:Int) 20=(p.length:Int) / 20:=Int.tdiv_eq_ediv_of_nonneg (by omega)
  rw [e,fM (n:=(p.length:Int) / 20) (by omega) (by omega),fM (by omega) (by omega)]
  refine Yes.ite (fun _=>Yes.some ⟨by omega,by omega⟩) fun h=>Yes.some ⟨by omega,by simp at h;omega⟩
theorem bSl {cat:aP}(hc:H5 cat){d:Int}(hd0:0≤d)(hd:d<4)(env:List (List Int))(hv:yH env)(hl:env.length≤10)(c:aA)(ty:Int)(h:okCur c):Yes (xM c cat env ty d) (FZ 25000) :=
  (bR8 hc 3 d c ty env (by omega) (by omega) (by omega) hv (by omega) h).mono fun r hr=>⟨QW hr.1 (by decide),hr.2⟩
theorem cDt (c:aA){d:Int}(hd0:0≤d)(hd:d<4)(h:okCur c):Yes (aM4 c d) fun r=>(CR r.1∧iR r.2.1≤300000)∧okCur r.2.2:=by
  have J:∀ (y1:aP×aA) (x7:List Int) b j g,CR y1.1→x7.length≤2→okCur ⟨b,j,g⟩→Yes (aHx d y1 x7 b j g) fun r=>(CR r.1∧iR r.2.1≤300000)∧okCur r.2.2:=fun y1 x7 b j g hC hl k=>by
    unfold aHx
    exact Yes.bind (bPg (B:=25000) hC.cat [] cAp (by simp) x7 hl (fun c ty env' he hel k=>bSl hC.cat hd0 hd env' he (by simp at hel;omega) c ty k) _ k) fun r ⟨hr,k⟩=>Yes.some ⟨⟨hC,by show iR r.1≤300000;omega⟩,k⟩
  unfold aM4
  refine Yes.bind (cIx _ h) fun y1 ⟨hC,k⟩=>Yes.bind (kT _ _ k) fun y2 ⟨_,_,k⟩=>Yes.bind (jP _ _ k) fun y3 k=>Yes.ite (fun _=>?_) fun _=>J _ _ _ _ _ hC (by simp) k
  refine Yes.bind (kT _ _ k) fun y4 ⟨_,_,k⟩=>Yes.bind (pW (by simp)) fun y e=>?_
  subst e
  exact J _ _ _ _ _ hC (by simp) k
abbrev CQ (r:aP×aL×aA):Prop:=(J5 r.1∧gL r.2.1≤300000)∧okCur r.2.2
theorem cEn (c:aA){d:Int}(hd0:0≤d)(hd:d<4)(h:okCur c):Yes (aLi c d) CQ:=by
  unfold aLi
  refine Yes.bind (cDt c hd0 hd h) fun y ⟨⟨hC,hz⟩,k⟩=>?_
  obtain ⟨r,e,hr⟩:=cAg hC.small (p:=y.2.1) (by omega)
  rw [e,QB,QA]
  exact Yes.bind (bRc (p:=r.1) (by omega) _ k) fun q ⟨h1,h2⟩=>Yes.some ⟨⟨hC.small,by dsimp only;omega⟩,h2⟩
abbrev okBd (r:aA×aP×aL):Prop:=J5 r.2.1∧gL r.2.2≤524287
theorem bT3 (p:List Int)(hp:p.length≤1048576):Yes (aLm p) okBd:=by
  unfold aLm
  obtain ⟨c,e,hc⟩:=cDa p hp
  rw [e]
  simp only [QB,QA]
  refine Yes.bind (cDw p hp) fun n ⟨n0,n3⟩=>Yes.bind (kT _ _ hc) fun y3 ⟨a0,a1,k⟩=>?_
  have a1:=a1 n0
  refine Yes.bind (cEn _ a0 (by omega) k) fun y4 ⟨⟨hS,hZ⟩,k⟩=>Yes.bind (kT _ _ k) fun y5 ⟨_,_,k5⟩=>?_
  have hq:=zQ y4.2.1
  have J:∀ T ds wh lm b j h it fr od,J5 ⟨T⟩→gL ⟨ds,it,fr,wh,od,lm⟩≤524287→Yes (xU T ds wh lm b j h it fr od) okBd:=fun T ds wh lm b j h it fr od h1 h2=>by
    unfold xU
    exact Yes.some ⟨h1,h2⟩
  have J1:∀ wh lm b j h it fr od,gL ⟨y4.2.1.distinct,it,fr,wh,od,lm⟩≤524287→Yes (xU y4.1.tables y4.2.1.distinct wh lm b j h it fr od) okBd:=fun wh lm b j h it fr od h2=>J _ _ _ _ _ _ _ _ _ _ hS h2
  have hx:∀ c,okCur c→Yes (uE c 2) (okE7 120):=fun c k=>cGm 2 2 c (by omega) (by omega) k
  have L:∀ (k:Nat) (l:List bG),7≤k+l.length→l.length+iQ l+k≤y4.2.1.items.length+iQ y4.2.1.items+7→Yes (aCm y4 y5 l) okBd:=by
    intro k
    induction k with
    | zero =>
      intro l h1 h2
      rw [aCm]
      exact Yes.ite (fun hlt=>absurd hlt (by simp;omega)) fun _=>J1 _ _ _ _ _ _ _ _ (by rw [zQ];dsimp only;omega)
    | succ k ih =>
      intro l h1 h2
      rw [aCm]
      refine Yes.ite (fun hlt=>?_) fun _=>J1 _ _ _ _ _ _ _ _ (by rw [zQ];dsimp only;omega)
      have hlt:(l.length:Int)<7:=by simpa using hlt
      rw [iI (by simp;omega),QB,QA]
      refine ih _ (by simp;omega) ?_
      rw [bDl]
      simp [iQ,mF,zE,dD,jH]
      omega
  refine Yes.ite (fun _=>?_) fun _=>Yes.ite (fun _=>?_) fun _=>Yes.ite (fun _=>?_) fun _=>Yes.ite (fun _=>?_) fun _=>Yes.ite (fun _=>?_) fun _=>Yes.ite (fun _=>?_) fun _=>Yes.ite (fun _=>Yes.bind (jP _ _ k5) fun y11 k=>Yes.ite (fun _=>?_) fun _=>?_) fun _=>?_
  · exact Yes.bind (cF8 _ k5) fun q ⟨⟨h1,h2⟩,_⟩=>J _ _ _ _ _ _ _ _ _ _ ⟨by show q.1.tables.length≤_;omega,fun t ht=>by have:=h2 t ht;omega⟩ (by rw [zQ];dsimp only;omega)
  · exact Yes.bind (bJr hx _ k5) fun q ⟨h1,_⟩=>J _ _ _ _ _ _ _ _ _ _ hS (by
      have:=zQ q.1
      rw [zQ];dsimp only;omega)
  · exact Yes.bind (hx _ k5) fun q ⟨h1,_⟩=>J1 _ _ _ _ _ _ _ _ (by rw [zQ];simp only [dD,QE,QH];omega)
  · refine Yes.bind (N8 _ _ (by decide) k5) fun y9 _=>Yes.bind (pW (by simp;omega)) fun y e=>?_
    subst e
    have:∀ (l:List bI) (x:bI),iB (l++[x])=iB l+nN x:=fun l x=>by
      induction l with
      | nil=>simp [iB]
      | cons a l ih=>simp only [List.cons_append,iB,ih];omega
    exact J1 _ _ _ _ _ _ _ _ (by rw [zQ];dsimp only;rw [this];simp only [QM,QE,QH,nN,dD];omega)
  · exact L 7 _ (by omega) (by omega)
  · exact J1 _ _ _ _ _ _ _ _ (by rw [zQ];dsimp only;omega)
  · refine Yes.bind (kT _ _ k) fun y12 ⟨b0,b1,k⟩=>?_
    have b1:=b1 (by decide)
    rw [fM (n:=20+y12.1) (by omega) (by omega)]
    exact Yes.bind (cFl _ (by omega) (by omega)) fun x hx=>J1 _ _ _ _ _ _ _ _ (by rw [zQ];simp only [dD,QE,QH];omega)
  · exact J1 _ _ _ _ _ _ _ _ (by rw [zQ];dsimp only;omega)
  · exact J1 _ _ _ _ _ _ _ _ (by rw [zQ];dsimp only;omega)
theorem cBr (p:List Int)(_:okL okU8 p):aNo p=some true:=by
  unfold aNo aQb aSe
  simp only [QB,QA]
  by_cases hb:1048576<(p.length:Int)
  · simp [hb]
  have hp:p.length≤1048576:=by omega
  rw [if_neg (by simpa using hb)]
  obtain ⟨⟨cu,cat,q⟩,e1,hcs,hz⟩:=bT3 p hp
  dsimp only at hcs hz
  obtain ⟨b,b1,b2,b3⟩:=cBi cat q hcs (by omega)
  obtain ⟨pl,f,r1,r2,r3⟩:=cG1 cat q hcs hz
  simp only [e1,b1,b2,r1,QA]
  cases b with
  | true =>
    have hD:=b3.1 rfl
    have hn:¬ aCh f.code:=fun h=>r3 h hD
    unfold aCh at hn
    simp only [not_or] at hn
    simp [hn]
  | false =>
    have hD:¬ f.code=0:=fun h=>by have:=b3.2 (r2 h);simp at this
    simp [hD]
end Go.Ab
