/- What the functions compute,in plain Lean. -/
import Derived.Test.YthcemdafchcehacGreatFRunLimit
namespace Go.Ab
open Go
open _root_.Option renaming bind_some→QA,bind_eq_bind→QB,some.injEq→QH,bind_assoc→WT
open Go.IntKind renaming wrap→QC,bits→WS,wrap_i64→XZ
open _root_.Bool renaming false_eq_true→QD,not_true→QF,and_assoc→QI,and_eq_true→QK,true_and→QM,eq_iff_iff→QR,not_false→QS,or_false→QT,and_true→QW,false_or→QX,false_and→WA,and_false→WB,true_or→WC,or_true→WD,and_self→WK,not_eq_true'→WP,or_self→XK
open _root_.List renaming getElem_mem→QE,drop_eq_getElem_cons→QG,length_append→QJ,map_cons→QL,nil_append→QN,mem_append→QO,zipWith→QP,length_singleton→QQ,getElem?_eq_getElem→QU,length_cons→QY,length_pos_of_mem→QZ,append_assoc→WE,length_nil→WF,drop_zero→WG,flatMap_cons→WH,sum_cons→WI,replicate→WL,mem_map→WM,mem_cons_of_mem→WN,drop_length→WO,mem_cons→WQ,singleton_append→WR,length→WU,append_nil→WV,length_map→WW,mem_flatMap→WX,map_nil→WY,zipWith_cons_cons→WZ,all_cons→XA,length_take→XC,map_append→XD,map_map→XF,nil_sublist→XG,eq_nil_of_length_eq_zero→XL,getElem_of_mem→XM,sum_append→XN,sum_nil→XO,getElem_map→XP,zipWith_nil_left→XQ
open _root_.Nat renaming le_trans→QV,lt_irrefl→WJ,le_refl→XB,mul_le_mul_right→XI,succ_mul→XJ,lt_succ_self→XU,one_mul→XV,mul_le_mul→XW,pow_succ→XX,pow_le_pow_right→XY
open _root_.Int renaming tdiv_one→XH,mul_comm→XR,natAbs_tmod→XS,tdiv_neg→XT
theorem dR {n:Int} (h1 : -9223372036854775808≤n) (h2:n≤9223372036854775807):QC .i64 n=n:=by rw [XZ]; omega
theorem dI {i n:Nat} (h:i<n) (hn:n≤4611686018427387904):QC .i64 ((i:Int)+1)=((i+1:Nat):Int):=by rw [dR] <;> omega
theorem bZ (i n:Nat):decide ((i:Int)<(n:Int))=decide (i<n):=by simp
theorem bIu {α:Type} (l:List α) (i:Nat):idx l (i:Int)=l[i]?:=by simp [idx]
theorem bM {α:Type} {l:List α} {i:Nat} (h:i<l.length):idx l (i:Int)=some l[i]:=by rw [bIu]; simp [h]
theorem dZ {M:Nat→Prop} {n:Nat} (h0:M n) (h:∀ i,i<n→M (i+1)→M i):∀ i,i≤n→M i:=by
  have:∀ k i,i+k=n→M i:=by
    intro k
    induction k with
    | zero => intro i hi; have : i = n := by omega
              subst this; exact h0
    | succ k ih=>intro i hi; exact h i (by omega) (ih (i+1) (by omega))
  exact fun i hi=>this (n - i) i (by omega)
theorem bAt {α:Type} {by':Nat} {n:Nat} {z:α} (h:(n:Int) * by'≤140737488355328):mkG by' (n:Int) z=some (WL n z):=by
  unfold mkG; rw [if_pos ⟨by omega,h⟩]; simp
def zL {α:Type} (z:α→Nat) (l:List α):Nat:=l.length+(l.map z).sum
def z0 {α:Type} (_:α):Nat:=0
theorem aK5 {α:Type} (z:α→Nat) (x:α) (l:List α):((x::l).map z).sum=z x+(l.map z).sum:=by simp
theorem aMc {α:Type} {z:α→Nat}:∀ {p:List α} {y:α},y∈p→z y≤(p.map z).sum
  | x::p,y,h=>by
    rw [aK5]
    rcases WQ.1 h with rfl | h
    · omega
    · have:=aMc (z:=z) h; omega
def zTb (l:List Int):Nat:=1000000000 * (l.length - 2)
instance (n:Int):Decidable (okI n):=inferInstanceAs (Decidable (_∧_))
def zN (n:Int):Nat:=if okI n then 0 else 1000000000
theorem zN0 {n:Int} (h:okI n):zN n=0:=if_pos h
def xG:aA→Nat
  | ⟨_,a1,a2⟩=>a2.length+zN a1
mutual
def O3:cZ→Nat
  | ⟨a0,a1⟩=>bG a0
def eF:aP→Nat
  | ⟨a0,a1,a2,a3,a4,a5,a6,a7⟩=>zTb a0+(zL z0) a0+(a1.length+aF8 a1)+(a2.length+G8 a2)+(a3.length+aF0 a3)+(a4.length+G8 a4)+(zL WU) a5
def bG:aJ→Nat
  | ⟨a0,a1,a2,a3,a4,a5,a6,a7⟩=>xG a3+(a6.length+G8 a6)+(a7.length+aIz a7)
def aIz:List aP→Nat
  | []=>0
  | x::l=>eF x+aIz l
def G8:List aJ→Nat
  | []=>0
  | x::l=>bG x+G8 l
def aF0:List cZ→Nat
  | []=>0
  | x::l=>O3 x+aF0 l
def aF8:List (List aJ)→Nat
  | []=>0
  | x::l=>(x.length+G8 x)+aF8 l
end
theorem aQq:∀ l:List aP,aIz l=(l.map eF).sum
  | []=>by simp [aIz]
  | x::l=>by rw [aK5,← aQq l]; simp only [aIz]
theorem aA5:∀ l:List aJ,G8 l=(l.map bG).sum
  | []=>by simp [G8]
  | x::l=>by rw [aK5,← aA5 l]; simp only [G8]
theorem aL9:∀ l:List cZ,aF0 l=(l.map O3).sum
  | []=>by simp [aF0]
  | x::l=>by rw [aK5,← aL9 l]; simp only [aF0]
theorem aPb:∀ l:List (List aJ),aF8 l=(l.map (zL bG)).sum
  | []=>by simp [aF8]
  | x::l=>by rw [aK5,← aPb l]; simp only [aF8,zL,aA5]
theorem nP {α:Type} {b:Nat} {l m:List α} (h:(l.length+m.length) * b≤140737488355328):appG b l m=some (l++m):=by unfold appG; rw [if_pos h]
theorem gather {α β γ:Type} {p:List α} {f:α→List β} {G:α→List β→Option (List β)} {L:List β→Int→Option γ} {K:List β→Option γ} {c:Nat} (hp:p.length≤4194304)
    (hG:∀ y∈p,∀ acc:List β,acc.length+(f y).length≤c→G y acc=some (acc++f y))
    (hL:∀ (i:Nat) acc,L acc (i:Int)=if (decide ((i:Int)<(p.length:Int)))=true then ((idx p (i:Int))>>=fun y=>(G y acc)>>=fun z=>L z (QC .i64 ((i:Int)+1))) else K acc) :
    ∀ acc:List β,acc.length+(p.flatMap f).length≤c→L acc 0=K (acc++p.flatMap f):=by
  have key:∀ i,i≤p.length→∀ acc:List β,acc.length+((p.drop i).flatMap f).length≤c→L acc (i:Nat)=K (acc++(p.drop i).flatMap f):=by
    refine dZ ?_ ?_
    · intro acc _
      rw [hL]; simp
    · intro i hi ih acc ha
      rw [QG hi,WH,QJ] at ha
      rw [hL,bM hi,dI hi (by omega)]
      simp only [bZ,hi,decide_true,if_true,QB,QA,hG _ (QE hi) acc (by omega)]
      rw [ih _ (by rw [QJ]; omega),QG hi,WH,WE]
  intro acc ha
  simpa using key 0 (by omega) acc (by simpa using ha)
theorem folded {α β γ:Type} {p:List α} {g:α→β→Option β} {h:α→β→β} {L:β→Int→Option γ} {K:β→Option γ} (hp:p.length≤1048576)
    (hg:∀ y∈p,∀ b,g y b=some (h y b))
    (hL:∀ (i:Nat) b,L b (i:Int)=if (decide ((i:Int)<(p.length:Int)))=true then ((idx p (i:Int))>>=fun y=>(g y b)>>=fun z=>L z (QC .i64 ((i:Int)+1))) else K b) :
    ∀ b,L b 0=K (p.foldl (fun b y=>h y b) b):=by
  have key:∀ i,i≤p.length→∀ b,L b (i:Nat)=K ((p.drop i).foldl (fun b y=>h y b) b):=by
    refine dZ ?_ ?_
    · intro b; rw [hL]; simp
    · intro i hi ih b
      rw [hL,bM hi,dI hi (by omega)]
      simp only [bZ,hi,decide_true,if_true,QB,QA,hg _ (QE hi)]
      rw [ih,QG hi,List.foldl_cons]
  intro b
  simpa using key 0 (by omega) b
theorem U1 {α:Type} {z:α→Nat} {l:List α} {x:α} (h:x∈l):z x+l.length≤zL z l:=by
  have:=aMc (z:=z) h
  unfold zL; omega
theorem aFl (x:aJ):bG x=xG x.value+zL bG x.kids+zL eF x.sub:=by
  obtain ⟨a0,a1,a2,⟨b0,b1,b2⟩,a4,a5,a6,a7⟩:=x
  simp only [bG,xG,aA5,aQq,zL]
theorem I4 (q:aP):eF q=zTb q.tables+zL z0 q.tables+zL (zL bG) q.on_+zL bG q.where_+(q.order.length+(q.order.map fun k=>bG k.expr).sum)+zL bG q.items+zL WU q.names:=by
  obtain ⟨a0,a1,a2,a3,a4,a5,a6,a7⟩:=q
  simp only [eF,aA5,aL9,aPb,zL]
  have:(a3.map O3)=a3.map fun k=>bG k.expr:=List.map_congr_left fun k _=>by obtain ⟨k0,k1⟩:=k; simp only [O3]
  rw [this]
theorem wS {α:Type} {z:α→Nat} (l:List α):l.length≤zL z l:=by unfold zL; omega
theorem aJo {x k:aJ} (h:k∈x.kids):bG k+x.kids.length≤bG x:=by have:=aFl x; have:=U1 (z:=bG) h; omega
theorem aGh {x:aJ} {p:aP} (h:p∈x.sub):eF p+x.sub.length≤bG x:=by have:=aFl x; have:=U1 (z:=eF) h; omega
theorem aV5 (x:aJ):x.kids.length+x.sub.length≤bG x:=by have:=aFl x; have:=wS (z:=bG) x.kids; have:=wS (z:=eF) x.sub; omega
theorem onZ {q:aP} {l:List aJ} {e:aJ} (h:l∈q.on_) (he:e∈l):bG e+l.length+q.on_.length≤eF q:=by have:=I4 q; have:=U1 (z:=zL bG) h; have:=U1 (z:=bG) he; omega
theorem bFe {q:aP} {e:aJ} (h:e∈q.where_):bG e+q.where_.length≤eF q:=by have:=I4 q; have:=U1 (z:=bG) h; omega
theorem bIb {q:aP} {e:aJ} (h:e∈q.items):bG e+q.items.length≤eF q:=by have:=I4 q; have:=U1 (z:=bG) h; omega
theorem bAx {q:aP} {k:cZ} (h:k∈q.order):bG k.expr+q.order.length≤eF q:=by have:=I4 q; have:=aMc (z:=fun k:cZ=>bG k.expr) h; omega
theorem aJt (q:aP):q.tables.length+q.on_.length+q.where_.length+q.order.length+q.items.length+q.names.length≤eF q:=by
  have:=I4 q; have:=wS (z:=z0) q.tables; have:=wS (z:=zL bG) q.on_; have:=wS (z:=bG) q.where_; have:=wS (z:=bG) q.items; have:=wS (z:=WU) q.names; omega
theorem aNz (s:List UInt8):∃ b,nU s=some b∧qF s=some b:=by
  unfold qF nU fE
  exact ⟨_,rfl,rfl⟩
theorem bYe (s:List UInt8):∃ b,G5 s=some b:=by
  obtain ⟨b,h1,h2⟩:=aNz s
  unfold G5
  by_cases h:s=[]
  · exact ⟨true,by simp [h]⟩
  · exact ⟨b,by simp [h,h1]⟩
theorem bDg (x:aA):pX x=kY x∧∃ b,kY x=some b:=by
  unfold pX kY fE
  simp only [QB,QA]
  by_cases h0:x.kind=0
  · simp [h0]
  by_cases h1:x.kind=1
  · simp [h1]
  by_cases h2:x.kind=2
  · simp [h2]
  by_cases h3:x.kind=3
  · by_cases n0:x.num=0
    · simp [h3,n0]
    by_cases n1:x.num=1
    · simp [h3,n1]
    have e:(if decide (0≤x.num)=true then decide (x.num≤1) else false)=false:=by
      by_cases p:0≤x.num
      · simp [p]; omega
      · simp [p]
    rw [e]
    simp [h3,n0,n1]
  · simp [h0,h1,h2,h3]
theorem bEt (x:aA):∃ b,M9 x=some b∧aAq x=some b:=by
  obtain ⟨h1,b,h2⟩:=bDg x
  unfold M9 aAq
  rw [h1,h2]
  cases b <;> simp
theorem orB (b c:Bool):(if b=true then true else c)=(b||c):=by cases b <;> rfl
theorem uI (b c:Bool):(if b=true then c else false)=(b&&c):=by cases b <;> rfl
theorem cC7 (b c:Bool):(if b=true then (!c) else false)=(b&&!c):=by cases b <;> rfl
def zvE (x:eH):Bool:=((decide (x.value.kind=0))&&((decide (x.value.num=0))&&((decide (x.value.text=[]))&&true)))
theorem bVr (x:eH):aBd x=(if ((!decide (x.kind=2)&&(!decide (x.qual=[])||!decide (x.name=[])))||(!decide (x.kind=1)&&!zvE x))=true then some false else
    if ((!decide (x.kind=3)&&!decide (x.kind=4))&&!decide (x.op=0)||(x.not_&&!(decide (5≤x.kind)&&decide (x.kind≤8))))=true then some false else
    (if (decide (x.kind=1))=true then ((M9 x.value)>>=fun (y10:Bool)=>some (y10&&decide ((QC .i64 ((x.kids.length:Int)+(x.sub.length:Int)))=0)))
     else if (decide (x.kind=2))=true then ((nU x.name)>>=fun (y12:Bool)=>(if y12=true then G5 x.qual else some false)>>=fun (y14:Bool)=>some (y14&&decide ((QC .i64 ((x.kids.length:Int)+(x.sub.length:Int)))=0)))
     else some (if x.kind=3 then (decide (x.op=15)||decide (x.op=16))&&decide ((x.kids.length:Int)=1)&&decide ((x.sub.length:Int)=0)
      else if x.kind=4 then (decide (1≤x.op)&&decide (x.op≤14))&&decide ((x.kids.length:Int)=2)&&decide ((x.sub.length:Int)=0)
      else if x.kind=5 then decide ((x.kids.length:Int)=1)&&decide ((x.sub.length:Int)=0)
      else if x.kind=6 then decide ((x.kids.length:Int)=3)&&decide ((x.sub.length:Int)=0)
      else if x.kind=7 then (decide (2≤(x.kids.length:Int))&&decide ((x.kids.length:Int)≤9))&&decide ((x.sub.length:Int)=0)
      else if x.kind=8 then decide ((x.kids.length:Int)=1)&&decide ((x.sub.length:Int)=1)
      else if x.kind=9 then decide ((x.kids.length:Int)=0)&&decide ((x.sub.length:Int)=1)
      else false))):=by
  unfold aBd fE
  simp only [QB]
  simp only [QA]
  simp only [uI,orB]
  obtain ⟨k,o,no,v,q,nm,ks,sb⟩:=x
  obtain ⟨bl,l1,l2⟩:=bEt v
  obtain ⟨bn,n1,n2⟩:=aNz nm
  obtain ⟨bq,q1⟩:=bYe q
  have hz:zvE ⟨k,o,no,v,q,nm,ks,sb⟩=((decide (v.kind=0))&&((decide (v.num=0))&&((decide (v.text=[]))&&true))):=rfl
  simp only [l1,n1,q1,hz,QA]
  generalize ((decide (v.kind=0))&&((decide (v.num=0))&&((decide (v.text=[]))&&true)))=zv
  generalize decide (q=[])=q0
  generalize decide (nm=[])=n0
  by_cases k1:k=1
  · subst k1; cases q0 <;> cases n0 <;> cases no <;> by_cases o0:o=0 <;> cases bl <;> simp [o0]
  by_cases k2:k=2
  · subst k2; cases zv <;> cases no <;> by_cases o0:o=0 <;> cases bn <;> simp [o0]
  by_cases k3:k=3
  · subst k3; cases q0 <;> cases n0 <;> cases zv <;> cases no <;> simp
  by_cases k4:k=4
  · subst k4; cases q0 <;> cases n0 <;> cases zv <;> cases no <;> simp
  have kk:¬ (k=3∨k=4):=by omega
  by_cases k5:k=5
  · subst k5; cases q0 <;> cases n0 <;> cases zv <;> cases no <;> by_cases o0:o=0 <;> simp [o0]
  by_cases k6:k=6
  · subst k6; cases q0 <;> cases n0 <;> cases zv <;> cases no <;> by_cases o0:o=0 <;> simp [o0]
  by_cases k7:k=7
  · subst k7; cases q0 <;> cases n0 <;> cases zv <;> cases no <;> by_cases o0:o=0 <;> simp [o0]
  by_cases k8:k=8
  · subst k8; cases q0 <;> cases n0 <;> cases zv <;> cases no <;> by_cases o0:o=0 <;> simp [o0]
  by_cases k9:k=9
  · subst k9; cases q0 <;> cases n0 <;> cases zv <;> cases no <;> by_cases o0:o=0 <;> simp [o0]
  have kr:(decide (5≤k)&&decide (k≤8))=false:=by
    by_cases h:5≤k
    · have:¬ k≤8:=by omega
      simp [this]
    · simp [h]
  cases q0 <;> cases n0 <;> cases zv <;> cases no <;> by_cases o0:o=0 <;> simp [o0,k1,k2,k3,k4,k5,k6,k7,k8,k9]
theorem bJn (x:eH) (bl bc:Bool) (h1:aAq x.value=some bl) (h2:(nU x.name>>=fun (y12:Bool)=>(if y12=true then G5 x.qual else some false))=some bc):F5 x=some (
    if x.kind=1 then (⟨false,false,true,false,0,0,0⟩,bl)
    else if x.kind=2 then (⟨false,false,false,true,0,0,0⟩,bc)
    else if x.kind=3 then (⟨true,false,false,false,1,1,0⟩,decide (x.op=15)||decide (x.op=16))
    else if x.kind=4 then (⟨true,false,false,false,2,2,0⟩,decide (1≤x.op)&&decide (x.op≤14))
    else if x.kind=5 then (⟨false,true,false,false,1,1,0⟩,true)
    else if x.kind=6 then (⟨false,true,false,false,3,3,0⟩,true)
    else if x.kind=7 then (⟨false,true,false,false,2,9,0⟩,true)
    else if x.kind=8 then (⟨false,true,false,false,1,1,1⟩,true)
    else if x.kind=9 then (⟨false,false,false,false,0,0,1⟩,true)
    else (⟨false,false,false,false,0,0,0⟩,false)):=by
  obtain ⟨k,o,no,v,q,nm,ks,sb⟩:=x
  obtain ⟨bn,n1,n2⟩:=aNz nm
  obtain ⟨bo,o1,o2⟩:=aNz q
  unfold F5
  dsimp only at h1 h2 ⊢
  have h3:((if ((true&&(bn==true))&&((decide (q=[]))==false))=true then qF q else some default).bind fun (y3:Bool)=>(if (true&&(bn==true))=true then some (if (decide (q=[]))=true then true else y3) else some default).bind fun (y4:Bool)=>(some (if bn=true then y4 else false)).bind fun y5=>some ((kR.mk false false false true 0 0 0),y5))=some ((kR.mk false false false true 0 0 0),bc):=by
    unfold G5 at h2
    rw [n1,o1] at h2
    rw [o2]
    cases bn
    · simp at h2; simp [h2]
    · by_cases q0:q=[]
      · simp [q0] at h2; simp [q0,h2]
      · simp [q0] at h2; simp [q0,h2]
  simp only [h1,n2,QB,QA]
  by_cases k1:k=1
  · simp [k1]
  by_cases k2:k=2
  · subst k2; simp only [QA] at h3; simpa using h3
  by_cases k3:k=3
  · simp [k3]
  by_cases k4:k=4
  · simp [k4]
  by_cases k5:k=5
  · simp [k5]
  by_cases k6:k=6
  · simp [k6]
  by_cases k7:k=7
  · simp [k7]
  by_cases k8:k=8
  · simp [k8]
  by_cases k9:k=9
  · simp [k9]
  simp [k1,k2,k3,k4,k5,k6,k7,k8,k9]
theorem bGx:aDn=V3:=by
  funext p q
  unfold aDn V3 aKg zT fE
  rfl
def okT (p:Int):Prop:=0≤p∧p≤3
theorem aMw {p:Int} (h:okT p):zT p=some true:=by
  unfold zT fE
  have h1:=h.1
  have h2:=h.2
  simp [h1,h2]
theorem bF7 {p q:Int} (hp:okT p) (hq:okT q):∃ r,V3 p q=some r∧okT r.1:=by
  unfold V3
  rw [aMw hp,aMw hq]
  simp only [QF,beq_self_eq_true,WK,if_true,QD,if_false,QB,QA]
  have h0:okT 0:=⟨by omega,by omega⟩
  by_cases p0:p=0
  · exact ⟨(q,true),by simp [p0],hq⟩
  · by_cases q0:q=0∨p=q
    · refine ⟨(p,true),?_,hp⟩
      rcases q0 with h | h <;> simp [p0,h]
    · have a1:¬ q=0:=fun h=>q0 (.inl h)
      have a2:¬ p=q:=fun h=>q0 (.inr h)
      exact ⟨(0,false),by simp [p0,a1,a2],h0⟩
theorem aY8:aBx=K3:=rfl
theorem aLn (p:Int):∃ b,K3 p=some b:=⟨_,rfl⟩
theorem bH5 (p q:Int):aA4 p q=some (decide (p=0)||decide (p=q)):=by
  unfold aA4
  by_cases h:p=0 <;> simp [h]
theorem bA7 (a p q:Int):aBf a p q=some ((decide (p=0)||decide (p=a))&&(decide (q=0)||decide (q=a))):=by
  unfold aBf
  by_cases h1:p=a <;> by_cases h2:p=0 <;> by_cases h3:q=a <;> by_cases h4:q=0 <;> simp [h1,h2,h3,h4]
theorem bU9 (o p q:Int) (hp:okT p) (hq:okT q):∃ r,aJb o p q=some r∧aJy o p q=some r∧okT r.1:=by
  have h0:okT 0:=⟨by omega,by omega⟩
  have h3:okT 3:=⟨by omega,by omega⟩
  have h2:okT 2:=⟨by omega,by omega⟩
  have h1:okT 1:=⟨by omega,by omega⟩
  obtain ⟨m,m1,m2⟩:=bF7 hp hq
  obtain ⟨t1,e1⟩:=aLn p
  obtain ⟨t2,e2⟩:=aLn q
  unfold aJb aJy U6 aJ5 rJ fE
  simp only [bGx,aY8,m1,e1,e2,aMw hp,aMw hq,bH5,bA7,QB,QA]
  by_cases a:1≤o
  · by_cases b:o≤14
    · have c1:¬ o<1:=by omega
      have c2:¬ 14<o:=by omega
      by_cases d:o≤2
      · cases t1 <;> cases t2
        · exact ⟨(0,false),by simp [c1,c2,d],by simp [a,b,d],h0⟩
        · exact ⟨(0,false),by simp [c1,c2,d],by simp [a,b,d],h0⟩
        · exact ⟨(0,false),by simp [c1,c2,d],by simp [a,b,d],h0⟩
        · exact ⟨(3,true),by simp [c1,c2,d],by simp [a,b,d],h3⟩
      by_cases d2:o≤8
      · cases hm:m.2
        · exact ⟨(0,false),by simp [c1,c2,d,d2,hm],by simp [a,b,d,d2,hm],h0⟩
        · exact ⟨(3,true),by simp [c1,c2,d,d2,hm],by simp [a,b,d,d2,hm],h3⟩
      by_cases d3:o=9
      · subst d3
        generalize (decide (p=0)||decide (p=2))=b1
        generalize (decide (q=0)||decide (q=2))=b2
        cases b1 <;> cases b2
        · exact ⟨(0,false),by simp,by simp,h0⟩
        · exact ⟨(0,false),by simp,by simp,h0⟩
        · exact ⟨(0,false),by simp,by simp,h0⟩
        · exact ⟨(2,true),by simp,by simp,h2⟩
      · generalize (decide (p=0)||decide (p=1))=b1
        generalize (decide (q=0)||decide (q=1))=b2
        cases b1 <;> cases b2
        · exact ⟨(0,false),by simp [c1,c2,d,d2,d3],by simp [a,b,d,d2,d3],h0⟩
        · exact ⟨(0,false),by simp [c1,c2,d,d2,d3],by simp [a,b,d,d2,d3],h0⟩
        · exact ⟨(0,false),by simp [c1,c2,d,d2,d3],by simp [a,b,d,d2,d3],h0⟩
        · exact ⟨(1,true),by simp [c1,c2,d,d2,d3],by simp [a,b,d,d2,d3],h1⟩
    · have c2:14<o:=by omega
      exact ⟨(0,false),by simp [c2],by simp [b],h0⟩
  · have c1:o<1:=by omega
    exact ⟨(0,false),by simp [c1],by simp [a],h0⟩
theorem bUw (o p:Int):∃ r,aHn o p=some r∧aId o p=some r∧okT r.1:=by
  have h0:okT 0:=⟨by omega,by omega⟩
  have h3:okT 3:=⟨by omega,by omega⟩
  have h1:okT 1:=⟨by omega,by omega⟩
  obtain ⟨t1,e1⟩:=aLn p
  unfold aHn aId rJ
  simp only [aY8,e1,bH5,bA7,QB,QA]
  by_cases a:o=15
  · subst a
    cases t1
    · exact ⟨(0,false),by simp,by simp,h0⟩
    · exact ⟨(3,true),by simp,by simp,h3⟩
  by_cases b:o=16
  · subst b
    generalize (decide (p=0)||decide (p=1))=b1
    cases b1
    · exact ⟨(0,false),by simp,by simp,h0⟩
    · exact ⟨(1,true),by simp,by simp,h1⟩
  · exact ⟨(0,false),by simp [a,b],by simp [a,b],h0⟩
theorem bKj (l:List Int) (hl:l.length≤1048576) (h:∀ p∈l,okT p):∃ r,aHz l=some r∧X8 l=some r.2:=by
  have key:∀ i,i≤l.length→∀ x,okT x→∃ r,L9 l x (i:Nat)=some r∧D6 l x (i:Nat)=some r.2:=by
    refine dZ ?_ ?_
    · intro x hx
      rw [L9,D6]
      exact ⟨(x,true),by simp,by simp⟩
    · intro i hi ih x hx
      rw [L9,D6]
      obtain ⟨m,m1,m2⟩:=bF7 hx (h _ (QE hi))
      simp only [bZ,hi,decide_true,if_true,bM hi,dI hi (by omega),bGx,m1,QB,QA]
      cases hm:m.2
      · exact ⟨(0,false),by simp,by simp⟩
      · simpa using ih m.1 m2
  unfold aHz X8
  exact key 0 (by omega) 0 ⟨by omega,by omega⟩
theorem bP8 {v:aA} (h:M9 v=some true):okT v.kind:=by
  unfold M9 at h
  have hv:kY v=some true:=by
    obtain ⟨_,b,e2⟩:=bDg v
    rw [e2] at h ⊢
    cases b with
    | true=>rfl
    | false=>simp at h
  unfold kY at hv
  unfold okT
  by_cases k0:v.kind=0
  · omega
  by_cases k1:v.kind=1
  · omega
  by_cases k2:v.kind=2
  · omega
  by_cases k3:v.kind=3
  · omega
  simp [k0,k1,k2,k3] at hv
def bAa (p:aJ):Prop:=(p.kind=1∧p.kids.length=0∧p.sub.length=0∧okT p.value.kind)∨(p.kind=2∧p.kids.length=0∧p.sub.length=0)∨(p.kind=3∧p.kids.length=1∧p.sub.length=0)∨(p.kind=4∧p.kids.length=2∧p.sub.length=0) ∨
  (p.kind=5∧p.kids.length=1∧p.sub.length=0)∨(p.kind=6∧p.kids.length=3∧p.sub.length=0)∨(p.kind=7∧(2≤p.kids.length∧p.kids.length≤9)∧p.sub.length=0)∨(p.kind=8∧p.kids.length=1∧p.sub.length=1)∨(p.kind=9∧p.kids.length=0∧p.sub.length=1)
theorem bHk {β:Type} {b:Bool} {m:Option Bool} {K:Bool→Option β}:((if (true&&(b==true))=true then m else some (default:Bool)).bind fun y=>(some (if b=true then y else false)).bind K)=((if b=true then m else some false).bind K):=by cases b <;> cases m <;> rfl
theorem bGn (b c:Bool):(if b=true then some c else some false)=some (b&&c):=by cases b <;> rfl
theorem cA4 {β:Type} {b n u:Bool} {K:Bool→Option β}:((if ((true&&(b==true))&&(n==false))=true then some u else some (default:Bool)).bind fun y8=>(if (true&&(b==true))=true then some (if n=true then true else y8) else some (default:Bool)).bind fun y9=>(some (if b=true then y9 else false)).bind K)=K (b&&(n||u)):=by cases b <;> cases n <;> rfl
theorem or3 {β:Type} {b n u:Bool} {K:Bool→Option β}:((if ((true&&(b==true))&&(n==false))=true then some u else some (default:Bool)).bind fun y8=>K (b&&(n||y8)))=K (b&&(n||u)):=by cases b <;> cases n <;> rfl
theorem bQ2 (p:aJ) (f:kR) (ok:Bool) (h:F5 (eH.mk p.kind p.op false p.value [] [120] [] [])=some (f,ok)):aF7 p=some (ok&&(f.op||decide (p.op=0))&&(f.not_||!p.not_)&&(f.value||((decide (p.value.kind=0))&&((decide (p.value.num=0))&&((decide (p.value.text=[]))&&true))))&&(f.name||(decide (p.up=0)&&decide (p.at_=0)))&&decide (f.least≤(p.kids.length:Int))&&decide ((p.kids.length:Int)≤f.most)&&decide ((p.sub.length:Int)=f.subs)):=by
  rw [aF7,h]
  simp only [QB]
  rw [show ∀ K:kR×Bool→Option Bool,(some (f,ok)).bind K=K (f,ok) from fun _=>rfl]
  simp only [bHk,cA4]
  simp only [bGn,QA,uI,orB]
  exact or3 (K:=fun z=>some (z&&decide (f.least≤(p.kids.length:Int))&&decide ((p.kids.length:Int)≤f.most)&&decide ((p.sub.length:Int)=f.subs)))
theorem bPq (p:aJ) (hk:p.kids.length≤1048576) (hs:p.sub.length≤1048576):∃ b,aE2 p=some b∧aF7 p=some b∧(b=true→bAa p):=by
  obtain ⟨bl,l1,l2⟩:=bEt p.value
  have hlk:bl=true→okT p.value.kind:=fun h=>bP8 (by rw [l1,h])
  have e1:mkG 136 (p.kids.length:Int) (eH.mk 0 0 false (aA.mk 0 0 []) [] [] [] [])=some (WL p.kids.length (eH.mk 0 0 false (aA.mk 0 0 []) [] [] [] [])):=bAt (by omega)
  have e2:mkG 112 (p.sub.length:Int) (jH.mk false [] [] [] [] 0)=some (WL p.sub.length (jH.mk false [] [] [] [] 0)):=bAt (by omega)
  have hw:QC .i64 ((p.kids.length:Int)+(p.sub.length:Int))=(p.kids.length:Int)+(p.sub.length:Int):=dR (by omega) (by omega)
  have hF:=bJn (eH.mk p.kind p.op false p.value [] [120] [] []) bl true l2 rfl
  obtain ⟨⟨f,ok⟩,hfo⟩:∃ r,F5 (eH.mk p.kind p.op false p.value [] [120] [] [])=some r:=⟨_,hF⟩
  rw [bQ2 p f ok hfo]
  rw [hfo] at hF
  have n97:nU [97]=some true:=rfl
  have m0:G5 []=some true:=rfl
  have hS:aE2 p=if (!decide (p.kind=2)&&(!decide (p.up=0)||!decide (p.at_=0)))=true then some false else (if decide (p.kind=2)=true then aBd (eH.mk p.kind p.op p.not_ p.value [] [97] (WL p.kids.length (eH.mk 0 0 false (aA.mk 0 0 []) [] [] [] [])) (WL p.sub.length (jH.mk false [] [] [] [] 0))) else aBd (eH.mk p.kind p.op p.not_ p.value [] [] (WL p.kids.length (eH.mk 0 0 false (aA.mk 0 0 []) [] [] [] [])) (WL p.sub.length (jH.mk false [] [] [] [] 0)))):=by
    unfold aE2 aJx
    simp only [QB]
    simp only [bHk]
    simp only [e1,e2,bGn,QA,Option.bind_fun_some,uI,orB]
  rw [hS]
  unfold bAa
  simp only [bVr,zvE,List.length_replicate,hw,l1,n97,m0]
  obtain ⟨k,o,no,v,up,at_,ks,sb⟩:=p
  dsimp only at hk hs hF hlk ⊢
  generalize ((decide (v.kind=0))&&((decide (v.num=0))&&((decide (v.text=[]))&&true)))=zv
  have fin:∀ (a b:Bool) (P:Prop),a=b→(b=true→P)→∃ c,(some a:Option Bool)=some c∧(some b:Option Bool)=some c∧(c=true→P):=by
    rintro a b P rfl h; exact ⟨a,rfl,rfl,h⟩
  have hif:∀ (a b:Bool) (X:Bool),(if a=true then some false else if b=true then some false else some X)=some (!a&&(!b&&X)):=by intro a b X; cases a <;> cases b <;> rfl
  have hif1:∀ (a:Bool) (X:Bool),(if a=true then some false else some X)=some (!a&&X):=by intro a X; cases a <;> rfl
  clear hS hfo e1 e2 hw l1 l2 n97 m0
  have eN:∀ n:Int,(decide (n≤(ks.length:Int))&&decide ((ks.length:Int)≤n))=decide ((ks.length:Int)=n):=fun n=>by rw [QR]; simp only [QK,decide_eq_true_eq]; omega
  have e0:decide ((ks.length:Int)+(sb.length:Int)=0)=(decide ((ks.length:Int)=0)&&decide ((sb.length:Int)=0)):=by rw [QR]; simp only [QK,decide_eq_true_eq]; omega
  by_cases k1:k=1
  · subst k1
    simp only [Int.reduceEq,if_true,if_false,QH,Prod.mk.injEq] at hF
    obtain ⟨rfl,rfl⟩:=hF
    simp only [Int.reduceEq,Int.reduceLE,if_true,if_false,decide_true,decide_false,QF,QS,QM,WA,QW,WB,QX,QT,WC,WD,QD,QB,QA,hif,hif1]
    refine fin _ _ _ ?_ fun h=>?_
    · simp only [e0,QI]
      try simp only [← QI (decide (_≤(ks.length:Int))),eN]
      generalize decide ((ks.length:Int)=0)=c0
      generalize decide ((sb.length:Int)=0)=d0
      generalize decide (up=0)=u0
      generalize decide (at_=0)=a0
      generalize decide (o=0)=o0
      cases ok <;> cases no <;> cases u0 <;> cases a0 <;> cases o0 <;> cases c0 <;> cases d0 <;> rfl
    · simp only [QK,decide_eq_true_eq] at h
      exact .inl ⟨trivial,by omega,by omega,hlk h.1.1.1.1.1.1⟩
  by_cases k2:k=2
  · subst k2
    simp only [Int.reduceEq,if_true,if_false,QH,Prod.mk.injEq] at hF
    obtain ⟨rfl,rfl⟩:=hF
    simp only [Int.reduceEq,Int.reduceLE,if_true,if_false,decide_true,decide_false,QF,QS,QM,WA,QW,WB,QX,QT,WC,WD,QD,QB,QA,hif,hif1]
    refine fin _ _ _ ?_ fun h=>?_
    · simp only [e0,QI]
      try simp only [← QI (decide (_≤(ks.length:Int))),eN]
      generalize decide ((ks.length:Int)=0)=c0
      generalize decide ((sb.length:Int)=0)=d0
      generalize decide (o=0)=o0
      cases no <;> cases zv <;> cases o0 <;> cases c0 <;> cases d0 <;> rfl
    · simp only [QK,decide_eq_true_eq] at h
      simp only [Int.reduceEq,false_and,false_or,true_and,or_false]
      omega
  by_cases k3:k=3
  · subst k3
    simp only [Int.reduceEq,if_true,if_false,QH,Prod.mk.injEq] at hF
    obtain ⟨rfl,rfl⟩:=hF
    simp only [Int.reduceEq,Int.reduceLE,if_true,if_false,decide_true,decide_false,QF,QS,QM,WA,QW,WB,QX,QT,WC,WD,QD,QB,QA,hif,hif1]
    refine fin _ _ _ ?_ fun h=>?_
    · simp only [e0,QI]
      try simp only [← QI (decide (_≤(ks.length:Int))),eN]
      generalize decide ((ks.length:Int)=1)=c1
      generalize decide ((sb.length:Int)=0)=d0
      generalize decide (up=0)=u0
      generalize decide (at_=0)=a0
      generalize decide (o=15)=o5
      generalize decide (o=16)=o6
      cases no <;> cases zv <;> cases u0 <;> cases a0 <;> cases o5 <;> cases o6 <;> cases c1 <;> cases d0 <;> rfl
    · simp only [QK,decide_eq_true_eq] at h
      simp only [Int.reduceEq,false_and,false_or,true_and,or_false]
      omega
  by_cases k4:k=4
  · subst k4
    simp only [Int.reduceEq,if_true,if_false,QH,Prod.mk.injEq] at hF
    obtain ⟨rfl,rfl⟩:=hF
    simp only [Int.reduceEq,Int.reduceLE,if_true,if_false,decide_true,decide_false,QF,QS,QM,WA,QW,WB,QX,QT,WC,WD,QD,QB,QA,hif,hif1]
    refine fin _ _ _ ?_ fun h=>?_
    · simp only [e0,QI]
      try simp only [← QI (decide (_≤(ks.length:Int))),eN]
      generalize decide ((ks.length:Int)=2)=c2
      generalize decide ((sb.length:Int)=0)=d0
      generalize decide (up=0)=u0
      generalize decide (at_=0)=a0
      generalize decide (1≤o)=o7
      generalize decide (o≤14)=o8
      cases no <;> cases zv <;> cases u0 <;> cases a0 <;> cases o7 <;> cases o8 <;> cases c2 <;> cases d0 <;> rfl
    · simp only [QK,decide_eq_true_eq] at h
      simp only [Int.reduceEq,false_and,false_or,true_and,or_false]
      omega
  by_cases k5:k=5
  · subst k5
    simp only [Int.reduceEq,if_true,if_false,QH,Prod.mk.injEq] at hF
    obtain ⟨rfl,rfl⟩:=hF
    simp only [Int.reduceEq,Int.reduceLE,if_true,if_false,decide_true,decide_false,QF,QS,QM,WA,QW,WB,QX,QT,WC,WD,QD,QB,QA,hif,hif1]
    refine fin _ _ _ ?_ fun h=>?_
    · simp only [e0,QI]
      try simp only [← QI (decide (_≤(ks.length:Int))),eN]
      generalize decide ((ks.length:Int)=1)=c1
      generalize decide ((sb.length:Int)=0)=d0
      generalize decide (up=0)=u0
      generalize decide (at_=0)=a0
      generalize decide (o=0)=o0
      cases zv <;> cases u0 <;> cases a0 <;> cases o0 <;> cases c1 <;> cases d0 <;> rfl
    · simp only [QK,decide_eq_true_eq] at h
      simp only [Int.reduceEq,false_and,false_or,true_and,or_false]
      omega
  by_cases k6:k=6
  · subst k6
    simp only [Int.reduceEq,if_true,if_false,QH,Prod.mk.injEq] at hF
    obtain ⟨rfl,rfl⟩:=hF
    simp only [Int.reduceEq,Int.reduceLE,if_true,if_false,decide_true,decide_false,QF,QS,QM,WA,QW,WB,QX,QT,WC,WD,QD,QB,QA,hif,hif1]
    refine fin _ _ _ ?_ fun h=>?_
    · simp only [e0,QI]
      try simp only [← QI (decide (_≤(ks.length:Int))),eN]
      generalize decide ((ks.length:Int)=3)=c3
      generalize decide ((sb.length:Int)=0)=d0
      generalize decide (up=0)=u0
      generalize decide (at_=0)=a0
      generalize decide (o=0)=o0
      cases zv <;> cases u0 <;> cases a0 <;> cases o0 <;> cases c3 <;> cases d0 <;> rfl
    · simp only [QK,decide_eq_true_eq] at h
      simp only [Int.reduceEq,false_and,false_or,true_and,or_false]
      omega
  by_cases k7:k=7
  · subst k7
    simp only [Int.reduceEq,if_true,if_false,QH,Prod.mk.injEq] at hF
    obtain ⟨rfl,rfl⟩:=hF
    simp only [Int.reduceEq,Int.reduceLE,if_true,if_false,decide_true,decide_false,QF,QS,QM,WA,QW,WB,QX,QT,WC,WD,QD,QB,QA,hif,hif1]
    refine fin _ _ _ ?_ fun h=>?_
    · simp only [e0,QI]
      try simp only [← QI (decide (_≤(ks.length:Int))),eN]
      generalize decide (2≤(ks.length:Int))=c4
      generalize decide ((ks.length:Int)≤9)=c5
      generalize decide ((sb.length:Int)=0)=d0
      generalize decide (up=0)=u0
      generalize decide (at_=0)=a0
      generalize decide (o=0)=o0
      cases zv <;> cases u0 <;> cases a0 <;> cases o0 <;> cases c4 <;> cases c5 <;> cases d0 <;> rfl
    · simp only [QK,decide_eq_true_eq] at h
      simp only [Int.reduceEq,false_and,false_or,true_and,or_false]
      omega
  by_cases k8:k=8
  · subst k8
    simp only [Int.reduceEq,if_true,if_false,QH,Prod.mk.injEq] at hF
    obtain ⟨rfl,rfl⟩:=hF
    simp only [Int.reduceEq,Int.reduceLE,if_true,if_false,decide_true,decide_false,QF,QS,QM,WA,QW,WB,QX,QT,WC,WD,QD,QB,QA,hif,hif1]
    refine fin _ _ _ ?_ fun h=>?_
    · simp only [e0,QI]
      try simp only [← QI (decide (_≤(ks.length:Int))),eN]
      generalize decide ((ks.length:Int)=1)=c1
      generalize decide ((sb.length:Int)=1)=d1
      generalize decide (up=0)=u0
      generalize decide (at_=0)=a0
      generalize decide (o=0)=o0
      cases zv <;> cases u0 <;> cases a0 <;> cases o0 <;> cases c1 <;> cases d1 <;> rfl
    · simp only [QK,decide_eq_true_eq] at h
      simp only [Int.reduceEq,false_and,false_or,true_and,or_false]
      omega
  by_cases k9:k=9
  · subst k9
    simp only [Int.reduceEq,if_true,if_false,QH,Prod.mk.injEq] at hF
    obtain ⟨rfl,rfl⟩:=hF
    simp only [Int.reduceEq,Int.reduceLE,if_true,if_false,decide_true,decide_false,QF,QS,QM,WA,QW,WB,QX,QT,WC,WD,QD,QB,QA,hif,hif1]
    refine fin _ _ _ ?_ fun h=>?_
    · simp only [e0,QI]
      try simp only [← QI (decide (_≤(ks.length:Int))),eN]
      generalize decide ((ks.length:Int)=0)=c0
      generalize decide ((sb.length:Int)=1)=d1
      generalize decide (up=0)=u0
      generalize decide (at_=0)=a0
      generalize decide (o=0)=o0
      cases no <;> cases zv <;> cases u0 <;> cases a0 <;> cases o0 <;> cases c0 <;> cases d1 <;> rfl
    · simp only [QK,decide_eq_true_eq] at h
      simp only [Int.reduceEq,false_and,false_or,true_and,or_false]
      omega
  simp only [k1,k2,k3,k4,k5,k6,k7,k8,k9,if_false,QH,Prod.mk.injEq] at hF
  obtain ⟨rfl,rfl⟩:=hF
  simp only [k1,k2,k3,k4,k5,k6,k7,k8,k9,Int.reduceEq,Int.reduceLE,if_true,if_false,decide_true,decide_false,QF,QS,QM,WA,QW,WB,QX,QT,WC,WD,QD,QB,QA,hif,hif1]
  refine ⟨false,?_,rfl,by simp⟩
  repeat' split
  all_goals first | rfl | simp
theorem aTe {n:Nat} {L:Int→Option Bool} {good:Nat→Prop} {KP:Prop}
    (hstep:∀ i,i<n→(good i→L (i:Nat)=L ((i+1:Nat):Int))∧(¬ good i→L (i:Nat)=some false))
    (hend:∃ b,L (n:Nat)=some b∧(b=true↔KP)):∃ b,L 0=some b∧(b=true↔(∀ i,i<n→good i)∧KP):=by
  have key:∀ i,i≤n→∃ b,L (i:Nat)=some b∧(b=true↔(∀ k,i≤k→k<n→good k)∧KP):=by
    refine dZ ?_ ?_
    · obtain ⟨b,h1,h2⟩:=hend
      exact ⟨b,h1,h2.trans ⟨fun h=>⟨fun k h1 h2=>by omega,h⟩,fun h=>h.2⟩⟩
    · intro i hi ih
      obtain ⟨b,h1,h2⟩:=ih
      obtain ⟨s1,s2⟩:=hstep i hi
      by_cases hg:good i
      · refine ⟨b,(s1 hg).trans h1,h2.trans ⟨fun h=>⟨fun k k1 k2=>?_,h.2⟩,fun h=>⟨fun k k1 k2=>h.1 k (by omega) k2,h.2⟩⟩⟩
        by_cases e:k=i
        · subst e; exact hg
        · exact h.1 k (by omega) k2
      · refine ⟨false,s2 hg,?_⟩
        simp only [QD,false_iff,not_and]
        intro h
        exact absurd (h i (by omega) hi) hg
  obtain ⟨b,h1,h2⟩:=key 0 (by omega)
  exact ⟨b,h1,h2.trans ⟨fun h=>⟨fun k hk=>h.1 k (by omega) hk,h.2⟩,fun h=>⟨fun k _ hk=>h.1 k hk,h.2⟩⟩⟩
theorem bR2 {a b:Bool} {P Q:Prop} (h1:a=true↔P) (h2:b=true↔Q) (h:P↔Q):a=b:=by
  rw [QR]; exact h1.trans (h.trans h2.symm)
theorem aO1 {γ:Type} {n:Nat} {L M:Int→Option γ} (hstep:∀ i,i<n→L ((i+1:Nat):Int)=M ((i+1:Nat):Int)→(∃ r,L ((i+1:Nat):Int)=some r)→L (i:Nat)=M (i:Nat)∧∃ r,L (i:Nat)=some r)
    (hend:L (n:Nat)=M (n:Nat)∧∃ r,L (n:Nat)=some r):L 0=M 0∧∃ r,L 0=some r:=by
  have key:∀ i,i≤n→L (i:Nat)=M (i:Nat)∧∃ r,L (i:Nat)=some r :=
    dZ hend fun i hi ih=>hstep i hi ih.1 ih.2
  exact key 0 (by omega)
theorem aO8 (s:List UInt8):qF s=nU s∧∃ b,nU s=some b∧(b=true↔1≤s.length∧s.length≤20):=by
  unfold qF nU fE
  simp only [QB,QA]
  refine ⟨by simp,_,rfl,?_⟩
  by_cases h1:(1:Int)≤(s.length:Int)
  · simp [h1]; omega
  · simp [h1]; omega
theorem aYw (t:eD) (s:List UInt8) (hl:t.cols.length≤1048576):aGt t s=wW t s∧∃ r,wW t s=some r:=by
  have:=aO1 (n:=t.cols.length) (L:=fun i=>R6 t.cols s i) (M:=fun i=>yY s t i) ?_ ?_
  · unfold aGt aOl wW
    obtain ⟨h1,r,h2⟩:=this
    try simp only at h1 h2
    rw [← h1,h2]
    exact ⟨rfl,r,rfl⟩
  · intro i hi h1 h2
    try dsimp only at h1 h2 ⊢
    rw [R6,yY]
    simp only [bZ,bM hi,dI hi (by omega),hi,decide_true,if_true,aMi,QB,QA]
    by_cases hc:t.cols[i].name=s
    · simp [hc]
    · simp only [hc,decide_false,QD,if_false]
      exact ⟨h1,h2⟩
  · try dsimp only
    rw [R6,yY]
    simp
theorem bIo (c:aQ) (s:List UInt8) (hl:c.tables.length≤1048576):aJe c s=vU c s∧∃ r,vU c s=some r:=by
  have:=aO1 (n:=c.tables.length) (L:=fun i=>J5 c.tables s i) (M:=fun i=>K9 s c i) ?_ ?_
  · unfold aJe aL4 vU
    obtain ⟨h1,r,h2⟩:=this
    try simp only at h1 h2
    rw [← h1,h2]
    exact ⟨rfl,r,rfl⟩
  · intro i hi h1 h2
    try dsimp only at h1 h2 ⊢
    rw [J5,K9]
    simp only [bZ,bM hi,dI hi (by omega),hi,decide_true,if_true,aL2,QB,QA]
    by_cases hc:c.tables[i].name=s
    · simp [hc]
    · simp only [hc,decide_false,QD,if_false]
      exact ⟨h1,h2⟩
  · try dsimp only
    rw [J5,K9]
    simp
def uT (t:eD) (j:Nat):Prop:=∃ c,t.cols[j]?=some c∧(1≤c.name.length∧c.name.length≤20)∧(1≤c.type∧c.type≤3)∧wW t c.name=some (j:Int)
def xJ (t:eD):Prop:=(∀ j,j<t.cols.length→uT t j)∧((1≤t.name.length∧t.name.length≤20)∧1≤t.cols.length∧t.cols.length≤4)
theorem bPu (t:eD) (hl:t.cols.length≤1048576):∃ b,aJ4 t=some b∧(b=true↔xJ t):=by
  unfold aJ4 xJ
  refine aTe (n:=t.cols.length) (L:=fun i=>R7 t i) (good:=uT t) ?_ ?_
  · intro i hi
    try dsimp only
    rw [R7]
    obtain ⟨n1,b,n2,n3⟩:=aO8 t.cols[i].name
    obtain ⟨c1,k,c2⟩:=aYw t t.cols[i].name hl
    simp only [bZ,bM hi,dI hi (by omega),hi,decide_true,if_true,n1,n2,c1,c2,QB,QA]
    have hP:uT t i↔(1≤t.cols[i].name.length∧t.cols[i].name.length≤20)∧(1≤t.cols[i].type∧t.cols[i].type≤3)∧k=(i:Int):=by
      unfold uT
      constructor
      · rintro ⟨c,h1,h2,h3,h4⟩
        rw [QU hi] at h1
        simp only [QH] at h1; subst h1
        rw [c2] at h4
        exact ⟨h2,h3,by simpa using h4⟩
      · rintro ⟨h2,h3,h4⟩
        exact ⟨_,QU hi,h2,h3,by rw [c2,h4]⟩
    rw [hP,← n3]
    cases b with
    | false=>simp
    | true =>
      by_cases t1:t.cols[i].type<1
      · simp [t1] <;> omega
      by_cases t3:3<t.cols[i].type
      · simp [t1,t3] <;> omega
      by_cases hk:k=(i:Int)
      · simp [t1,t3,hk] <;> omega
      · simp [t1,t3,hk]
  · try dsimp only
    rw [R7]
    obtain ⟨n1,b,n2,n3⟩:=aO8 t.name
    simp only [bZ,WJ,decide_false,QD,if_false,n1,n2,QB,QA]
    refine ⟨_,rfl,?_⟩
    rw [← n3]
    cases b with
    | false=>simp
    | true =>
      by_cases l1:(1:Int)≤(t.cols.length:Int)
      · simp [l1] <;> omega
      · simp [l1] <;> omega
def aCz (c:aQ):Prop:=(∀ i,i<c.tables.length→∃ t,c.tables[i]?=some t∧xJ t∧vU c t.name=some (i:Int))∧c.tables.length≤4
def wQ (c:aQ):Prop:=c.tables.length≤1048576∧∀ t∈c.tables,t.cols.length≤1048576
theorem bC6 (c:aQ) (hs:wQ c):∃ b,aD8 c=some b∧(b=true↔aCz c):=by
  unfold aD8 aCz
  refine aTe (n:=c.tables.length) (L:=fun i=>S9 c i) (good:=fun i=>∃ t,c.tables[i]?=some t∧xJ t∧vU c t.name=some (i:Int)) ?_ ?_
  · intro i hi
    try dsimp only
    rw [S9]
    obtain ⟨b,n2,n3⟩:=bPu c.tables[i] (hs.2 _ (QE hi))
    obtain ⟨c1,k,c2⟩:=bIo c c.tables[i].name hs.1
    have:=hs.1
    simp only [bZ,bM hi,dI hi (by omega),hi,decide_true,if_true,n2,c1,c2,QB,QA]
    have hP:(∃ t,c.tables[i]?=some t∧xJ t∧vU c t.name=some (i:Int))↔xJ c.tables[i]∧k=(i:Int):=by
      constructor
      · rintro ⟨t,h1,h2,h3⟩
        rw [QU hi] at h1
        simp only [QH] at h1; subst h1
        rw [c2] at h3
        exact ⟨h2,by simpa using h3⟩
      · rintro ⟨h2,h3⟩
        exact ⟨_,QU hi,h2,by rw [c2,h3]⟩
    rw [hP,← n3]
    cases b with
    | false=>simp
    | true =>
      by_cases hk:k=(i:Int)
      · simp [hk]
      · simp [hk]
  · try dsimp only
    rw [S9]
    refine ⟨decide ((c.tables.length:Int)≤4),by simp,?_⟩
    simp only [decide_eq_true_eq]; omega
theorem aTs (c:aQ) (hs:wQ c):∃ b,aE6 c=some b∧(b=true↔aCz c):=by
  unfold aE6
  by_cases h4:(4:Int)<(c.tables.length:Int)
  · rw [if_pos (by simpa using h4)]
    refine ⟨false,rfl,?_⟩
    unfold aCz
    simp only [QD,false_iff,not_and]
    intro _; omega
  rw [if_neg (by simpa using h4)]
  have:=aTe (n:=c.tables.length) (L:=fun i=>U5 c i) (good:=fun i=>∃ t,c.tables[i]?=some t∧xJ t∧vU c t.name=some (i:Int)) (KP:=True) ?_ ?_
  · obtain ⟨b,h1,h2⟩:=this
    exact ⟨b,h1,h2.trans ⟨fun h=>⟨h.1,by omega⟩,fun h=>⟨h.1,trivial⟩⟩⟩
  · intro i hi
    try dsimp only
    rw [U5]
    obtain ⟨n1,b,n2,n3⟩:=aO8 c.tables[i].name
    obtain ⟨c1,k,c2⟩:=bIo c c.tables[i].name hs.1
    have:=hs.1
    have hcl:=hs.2 _ (QE hi)
    have inner:∀ (j:Nat),j≤c.tables[i].cols.length→((∀ m,j≤m→m<c.tables[i].cols.length→uT c.tables[i] m)→zJ (i:Int) c c.tables[i] (j:Nat)=U5 c ((i+1:Nat):Int))∧(¬ (∀ m,j≤m→m<c.tables[i].cols.length→uT c.tables[i] m)→zJ (i:Int) c c.tables[i] (j:Nat)=some false):=by
      refine dZ ?_ ?_
      · rw [zJ]
        simp only [bZ,WJ,decide_false,QD,if_false,dI hi (by omega)]
        refine ⟨fun _=>trivial,fun h=>absurd (fun m h1 h2=>by omega) h⟩
      · intro j hj ih
        rw [zJ]
        obtain ⟨_,b',m2,m3⟩:=aO8 c.tables[i].cols[j].name
        obtain ⟨_,k',d2⟩:=aYw c.tables[i] c.tables[i].cols[j].name hcl
        simp only [bZ,bM hj,dI hj (by omega),hj,decide_true,if_true,m2,d2,fE,QB,QA]
        have hP:uT c.tables[i] j↔b'=true∧(1≤c.tables[i].cols[j].type∧c.tables[i].cols[j].type≤3)∧k'=(j:Int):=by
          unfold uT
          constructor
          · rintro ⟨c',h1,h2,h3,h4⟩
            rw [QU hj] at h1
            simp only [QH] at h1; subst h1
            rw [d2] at h4
            exact ⟨m3.2 h2,h3,by simpa using h4⟩
          · rintro ⟨h2,h3,h4⟩
            exact ⟨_,QU hj,m3.1 h2,h3,by rw [d2,h4]⟩
        have hall:(∀ m,j≤m→m<c.tables[i].cols.length→uT c.tables[i] m)↔uT c.tables[i] j∧∀ m,j+1≤m→m<c.tables[i].cols.length→uT c.tables[i] m:=by
          constructor
          · intro h; exact ⟨h j (by omega) hj,fun m h1 h2=>h m (by omega) h2⟩
          · rintro ⟨h1,h2⟩ m h3 h4
            by_cases e:m=j
            · subst e; exact h1
            · exact h2 m (by omega) h4
        rw [hall,hP]
        cases b' with
        | false=>simp
        | true =>
          by_cases hk:k'=(j:Int)
          · by_cases t1:1≤c.tables[i].cols[j].type
            · by_cases t3:c.tables[i].cols[j].type≤3
              · have t3':¬ 3<c.tables[i].cols[j].type:=by omega
                simpa [hk,t1,t3,t3',d2] using ih
              · simp [hk,t1,t3,d2]
            · simp [hk,t1,d2]
          · simp [hk,d2]
    obtain ⟨i1,i2⟩:=inner 0 (by omega)
    rw [show ((0:Nat):Int)=0 from rfl] at i1 i2
    simp only [bZ,bM hi,dI hi (by omega),hi,decide_true,if_true,n2,c2,fE,QB,QA]
    have hP:(∃ t,c.tables[i]?=some t∧xJ t∧vU c t.name=some (i:Int))↔xJ c.tables[i]∧k=(i:Int):=by
      constructor
      · rintro ⟨t,h1,h2,h3⟩
        rw [QU hi] at h1
        simp only [QH] at h1; subst h1
        rw [c2] at h3
        exact ⟨h2,by simpa using h3⟩
      · rintro ⟨h2,h3⟩
        exact ⟨_,QU hi,h2,by rw [c2,h3]⟩
    rw [hP]
    unfold xJ
    rw [← n3]
    cases b with
    | false=>simp
    | true =>
      by_cases hk:k=(i:Int)
      · by_cases l1:(1:Int)≤(c.tables[i].cols.length:Int)
        · by_cases l4:(c.tables[i].cols.length:Int)≤4
          · have l1':1≤c.tables[i].cols.length:=by omega
            have l4':c.tables[i].cols.length≤4:=by omega
            simp only [hk,l1,l4,l1',l4']
            simp only [Nat.zero_le,true_implies] at i1 i2
            simpa using And.intro i1 (fun (x:Nat) (hx:x<c.tables[i].cols.length) (hn:¬ uT c.tables[i] x)=>i2 fun h=>hn (h x hx))
          · have l4':¬ c.tables[i].cols.length≤4:=by omega
            simp [hk,l1,l4,l4']
        · have l1':¬ 1≤c.tables[i].cols.length:=by omega
          simp [hk,l1,l1']
      · simp [hk]
  · try dsimp only
    rw [U5]
    exact ⟨true,by simp,by simp⟩
def qB (t:eD):List Int:=t.cols.map gG.type
theorem cBa (t:eD) (hl:t.cols.length≤1048576):O7 t=some (qB t)∧D5 t=some (qB t):=by
  have key:∀ i,i≤t.cols.length→∀ l:List Int,l.length≤i→wC t l (i:Nat)=some (l++(t.cols.drop i).map gG.type)∧vE t l (i:Nat)=some (l++(t.cols.drop i).map gG.type):=by
    refine dZ ?_ ?_
    · intro l _
      rw [wC,vE]; simp
    · intro i hi ih l hl2
      rw [wC,vE]
      have ea:appG 8 l [t.cols[i].type]=some (l++[t.cols[i].type]):=by unfold appG; rw [if_pos (by simp; omega)]
      simp only [bZ,bM hi,dI hi (by omega),hi,decide_true,if_true,ea,QB,QA]
      have:=ih (l++[t.cols[i].type]) (by simp; omega)
      rw [QG hi,QL]
      simpa using this
  unfold O7 D5 qB
  have:=key 0 (by omega) [] (by simp)
  simpa using this
def kJ (c:aQ):List Int→List Int→List Int×Bool
  | acc,[]=>(acc,true)
  | acc,i::l=>if 0≤i∧i<(c.tables.length:Int) then kJ c (acc++qB (c.tables[i.toNat]?.getD default)) l else ([],false)
def rD (c:aQ):Prop:=c.tables.length≤4∧∀ t∈c.tables,t.cols.length≤4∧∀ x∈qB t,okT x
theorem aB2 (c:aQ) (hc:rD c) (l:List Int) (hl:l.length≤1048576):aEu c l=some (kJ c [] l)∧yG c l=some (kJ c [] l):=by
  have key:∀ i,i≤l.length→∀ acc:List Int,acc.length≤4 * i→Y5 l c acc (i:Nat)=some (kJ c acc (l.drop i))∧H5 l c acc (i:Nat)=some (kJ c acc (l.drop i)):=by
    refine dZ ?_ ?_
    · intro acc _
      rw [Y5,H5]; simp [kJ]
    · intro i hi ih acc ha
      rw [Y5,H5,QG hi,kJ]
      have hw:QC .i64 ((c.tables.length:Int) - 1)=(c.tables.length:Int) - 1:=by have:=hc.1; exact dR (by omega) (by omega)
      unfold fE
      simp only [bZ,bM hi,dI hi (by omega),hi,decide_true,if_true,hw,QB,QA]
      by_cases h0:0≤l[i]
      · by_cases h1:l[i]<(c.tables.length:Int)
        · have n0:¬ l[i]<0:=by omega
          have n1:¬ (c.tables.length:Int)≤l[i]:=by omega
          have n2:l[i]≤(c.tables.length:Int) - 1:=by omega
          have hj:l[i].toNat<c.tables.length:=by omega
          have hx:idx c.tables l[i]=some c.tables[l[i].toNat]:=by
            have:=bM hj
            rwa [show ((l[i].toNat:Nat):Int)=l[i] by omega] at this
          obtain ⟨t1,t2⟩:=hc.2 _ (QE hj)
          obtain ⟨e1,e2⟩:=cBa c.tables[l[i].toNat] (by omega)
          have tl:(qB c.tables[l[i].toNat]).length≤4:=by unfold qB; simpa using t1
          have ea:appG 8 acc (qB c.tables[l[i].toNat])=some (acc++qB c.tables[l[i].toNat]):=by unfold appG; rw [if_pos (by omega)]
          have hg:c.tables[l[i].toNat]?.getD default=c.tables[l[i].toNat]:=by simp [hj]
          have hp:0≤l[i]∧l[i]<(c.tables.length:Int):=⟨h0,h1⟩
          rw [if_pos hp,hg]
          simp only [h0,n0,n1,n2,hx,e1,e2,ea,decide_true,decide_false,if_true,if_false,QD,QF,QA]
          exact ih _ (by rw [QJ]; omega)
        · have n1:(c.tables.length:Int)≤l[i]:=by omega
          have n2:¬ l[i]≤(c.tables.length:Int) - 1:=by omega
          have hn:¬ (0≤l[i]∧l[i]<(c.tables.length:Int)):=by omega
          rw [if_neg hn]
          simp [h0,n1,n2]
      · have n0:l[i]<0:=by omega
        have hn:¬ (0≤l[i]∧l[i]<(c.tables.length:Int)):=by omega
        rw [if_neg hn]
        simp [h0,n0]
  unfold aEu yG
  have:=key 0 (by omega) [] (by simp)
  simpa using this
theorem aKj (c:aQ) (hc:rD c):∀ (l acc:List Int),(∀ x∈acc,okT x)→(∀ x∈(kJ c acc l).1,okT x)∧(kJ c acc l).1.length≤acc.length+4 * l.length
  | [],acc,h=>⟨h,by simp [kJ]⟩
  | i::l,acc,h=>by
    rw [kJ]
    split
    · rename_i hi
      have hj:i.toNat<c.tables.length:=by omega
      have hg:c.tables[i.toNat]?.getD default=c.tables[i.toNat]:=by simp [hj]
      rw [hg]
      obtain ⟨t1,t2⟩:=hc.2 _ (QE hj)
      have tl:(qB c.tables[i.toNat]).length≤4:=by unfold qB; simpa using t1
      obtain ⟨a1,a2⟩:=aKj c hc l (acc++qB c.tables[i.toNat]) (fun x hx=>by
        rcases QO.1 hx with hx | hx
        · exact h x hx
        · exact t2 x hx)
      exact ⟨a1,by rw [QJ] at a2; simp only [QY]; omega⟩
    · exact ⟨by simp,by simp⟩
def aHj (p:aP):Bool:=(decide (1≤p.tables.length)&&decide (p.tables.length≤3))&&decide (p.on_.length=p.tables.length)&&decide ((p.on_[0]?.getD []).length=0)&&decide (p.where_.length≤1)&&decide (p.order.length≤12)&&(decide (1≤p.items.length)&&decide (p.items.length≤12))&&decide (p.names.length=p.items.length)&&decide (-1≤p.limit)
def onB (p:aP):Bool:=p.on_.all fun l=>decide (l.length≤1)
def nmB (s:List UInt8):Bool:=decide (1≤s.length)&&decide (s.length≤20)
theorem bX3 (s:List UInt8):qF s=some (nmB s):=by
  unfold qF nmB
  by_cases h:1≤s.length <;> by_cases h2:s.length≤20 <;> simp [h,h2] <;> omega
theorem bTe (s:List UInt8):nU s=some (nmB s):=by
  unfold nU fE nmB
  by_cases h:1≤s.length <;> by_cases h2:s.length≤20 <;> simp [h,h2] <;> omega
theorem onI (l:List (List aJ)) (hl:l.length≤1048576):aGg l=some (!l.all fun l=>decide (l.length≤1)):=by
  have key:∀ i,i≤l.length→∃ k:Int,Q9 l (i:Nat)=some k∧decide (0≤k)=!(l.drop i).all fun l=>decide (l.length≤1):=by
    refine dZ ?_ ?_
    · rw [Q9]
      exact ⟨-1,by simp,by simp⟩
    · intro i hi ih
      rw [Q9,QG hi]
      simp only [bZ,bM hi,dI hi (by omega),hi,decide_true,if_true,aIg,QB,QA,XA]
      by_cases h:l[i].length≤1
      · have h1:¬ (1:Int)<(l[i].length:Int):=by omega
        simpa [h,h1] using ih
      · have h1:(1:Int)<(l[i].length:Int):=by omega
        exact ⟨(i:Int),by simp [h1],by simp [h]⟩
  obtain ⟨k,h1,h2⟩:=key 0 (by omega)
  rw [show ((0:Nat):Int)=0 from rfl] at h1
  rw [aGg,aMo,h1]
  simpa using h2
theorem nmI (l:List (List UInt8)) (hl:l.length≤1048576):aK2 l=some (!l.all nmB):=by
  have key:∀ i,i≤l.length→∃ k:Int,O4 l (i:Nat)=some k∧decide (0≤k)=!(l.drop i).all nmB:=by
    refine dZ ?_ ?_
    · rw [O4]
      exact ⟨-1,by simp,by simp⟩
    · intro i hi ih
      rw [O4,QG hi]
      simp only [bZ,bM hi,dI hi (by omega),hi,decide_true,if_true,aHu,bX3,QB,QA,XA]
      cases h:nmB l[i] with
      | true=>simpa using ih
      | false=>exact ⟨(i:Int),by simp,by simp⟩
  obtain ⟨k,h1,h2⟩:=key 0 (by omega)
  rw [show ((0:Nat):Int)=0 from rfl] at h1
  rw [aK2,aP2,h1]
  simpa using h2
theorem bOs (c:aQ) (hc:rD c) (p:aP) (hn:p.names.length≤1048576) (ht:p.tables.length≤1048576):qP c p 0=some (p.names.all nmB&&(kJ c [] p.tables).2):=by
  have key:∀ i,i≤p.names.length→qP c p (i:Nat)=some ((p.names.drop i).all nmB&&(kJ c [] p.tables).2):=by
    refine dZ ?_ ?_
    · rw [qP]; simp [(aB2 c hc p.tables ht).2]
    · intro i hi ih
      rw [qP,QG hi,XA]
      simp only [bZ,bM hi,dI hi (by omega),hi,decide_true,if_true,bTe,ih,QB,QA]
      cases nmB p.names[i] <;> simp
  simpa using key 0 (by omega)
theorem bUh (c:aQ) (hc:rD c) (p:aP) (ho:p.on_.length≤1048576) (hn:p.names.length≤1048576) (ht:p.tables.length≤1048576):qA c p 0=some (onB p&&(p.names.all nmB&&(kJ c [] p.tables).2)):=by
  have key:∀ i,i≤p.on_.length→qA c p (i:Nat)=some (((p.on_.drop i).all fun l=>decide (l.length≤1))&&(p.names.all nmB&&(kJ c [] p.tables).2)):=by
    refine dZ ?_ ?_
    · rw [qA]; simp [bOs c hc p hn ht]
    · intro i hi ih
      rw [qA,QG hi,XA]
      simp only [bZ,bM hi,dI hi (by omega),hi,decide_true,if_true,ih,QB,QA]
      by_cases h:p.on_[i].length≤1
      · have h1:¬ (1:Int)<(p.on_[i].length:Int):=by omega
        simp [h,h1]
      · have h1:(1:Int)<(p.on_[i].length:Int):=by omega
        simp [h,h1]
  unfold onB
  simpa using key 0 (by omega)
theorem bVq (c:aQ) (hc:rD c) (p:aP) (ho:p.on_.length≤1048576) (hn:p.names.length≤1048576) (ht:p.tables.length≤1048576) :
    X4 c p=some (aHj p&&(onB p&&(p.names.all nmB&&(kJ c [] p.tables).2)))∧aIb p=some (aHj p&&(onB p&&p.names.all nmB)):=by
  unfold X4 aIb fE aHj
  simp only [bUh c hc p ho hn ht,onI p.on_ ho,nmI p.names hn,QB,QA]
  have hon:(!p.on_.all fun l=>decide (l.length≤1))=!onB p:=rfl
  rw [hon]
  generalize onB p=b1
  generalize p.names.all nmB=b2
  generalize (kJ c [] p.tables).2=b3
  by_cases t1:1≤p.tables.length
  case neg =>
    have c1:¬ (1:Int)≤(p.tables.length:Int):=by omega
    have c2:(p.tables.length:Int)<1:=by omega
    simp only [t1,c1,c2,decide_true,decide_false,if_true,if_false,QF,QS,QD,WA,QA,beq_self_eq_true]
    simp
  by_cases t2:p.tables.length≤3
  case neg =>
    have c1:¬ (p.tables.length:Int)≤3:=by omega
    have c2:(3:Int)<(p.tables.length:Int):=by omega
    simp [t2,c1,c2]
  by_cases t3:p.on_.length=p.tables.length
  case neg =>
    have c1:¬ (p.on_.length:Int)=(p.tables.length:Int):=by omega
    simp [t3,c1]
  have a1:(1:Int)≤(p.tables.length:Int):=by omega
  have a2:(p.tables.length:Int)≤3:=by omega
  have a3:¬ (p.tables.length:Int)<1:=by omega
  have a4:¬ (3:Int)<(p.tables.length:Int):=by omega
  have a5:(p.on_.length:Int)=(p.tables.length:Int):=by omega
  have h0:0<p.on_.length:=by omega
  have hi:idx p.on_ 0=some p.on_[0]:=bM h0
  have hg:p.on_[0]?.getD []=p.on_[0]:=by simp [h0]
  rw [hg,hi]
  generalize p.on_[0]=l0
  have e0:decide ((0:Int)<(l0.length:Int))=!decide (l0.length=0):=by rw [QR]; simp only [WP,decide_eq_true_eq,decide_eq_false_iff_not]; omega
  have e1:decide ((1:Int)<(p.where_.length:Int))=!decide (p.where_.length≤1):=by rw [QR]; simp only [WP,decide_eq_true_eq,decide_eq_false_iff_not]; omega
  have e2:decide ((12:Int)<(p.order.length:Int))=!decide (p.order.length≤12):=by rw [QR]; simp only [WP,decide_eq_true_eq,decide_eq_false_iff_not]; omega
  have e3:decide ((1:Int)≤(p.items.length:Int))=decide (1≤p.items.length):=by rw [QR]; simp only [decide_eq_true_eq]; omega
  have e4:decide ((p.items.length:Int)≤12)=decide (p.items.length≤12):=by rw [QR]; simp only [decide_eq_true_eq]; omega
  have e5:decide ((p.names.length:Int)=(p.items.length:Int))=decide (p.names.length=p.items.length):=by rw [QR]; simp only [decide_eq_true_eq]; omega
  have e6:decide (p.limit < -1)=!decide (-1≤p.limit):=by rw [QR]; simp only [WP,decide_eq_true_eq,decide_eq_false_iff_not]; omega
  simp only [a1,a2,a3,a4,a5,t1,t2,t3,e0,e1,e2,e3,e4,e5,e6,decide_true,decide_false,if_true,if_false,QF,QS,QD,beq_self_eq_true,WK,QM,QA]
  generalize decide (l0.length=0)=x0
  generalize decide (p.where_.length≤1)=x1
  generalize decide (p.order.length≤12)=x2
  generalize decide (1≤p.items.length)=x3
  generalize decide (p.items.length≤12)=x4
  generalize decide (p.names.length=p.items.length)=x5
  generalize decide (-1≤p.limit)=x6
  cases x0 <;> cases x1 <;> cases x2 <;> cases x3 <;> cases x4 <;> cases x5 <;> cases x6 <;> cases b1 <;> cases b2 <;> exact ⟨rfl,rfl⟩
def TyE (c:aQ) (env:List (List Int)) (e:aJ):Prop:=∃ r:Int×Bool,J9 c env e=some r∧V4 c env e=some r∧okT r.1
def PlE (c:aQ) (env:List (List Int)) (p:aP):Prop:=∃ r:List Int×Bool,aE0 c env p=some r∧wM c env p=some r∧∀ x∈r.1,okT x
def kX (env:List (List Int)):Prop:=∀ row∈env,row.length≤4194304∧∀ x∈row,okT x
theorem okT0:okT 0:=⟨by omega,by omega⟩
theorem okT3:okT 3:=⟨by omega,by omega⟩
theorem bDm (c:aQ) (env:List (List Int)) (l:List aJ) (hl:l.length≤1048576) (H:∀ e∈l,TyE c env e):∃ b,aE5 c env l=some b∧aFb c env l=some b:=by
  have key:∀ i,i≤l.length→∃ (k:Int) (b:Bool),aAh l c env (i:Nat)=some k∧aC6 env l c (i:Nat)=some b∧decide (0≤k)=!b:=by
    refine dZ ?_ ?_
    · rw [aAh,aC6]
      exact ⟨-1,true,by simp,by simp,by simp⟩
    · intro i hi ih
      rw [aAh,aC6]
      obtain ⟨r,h1,h2,h3⟩:=H _ (QE hi)
      obtain ⟨t,e1⟩:=aLn r.1
      simp only [bZ,hi,decide_true,if_true,bM hi,dI hi (by omega),aOc,h1,h2,aY8,e1,QB,QA]
      cases hr:r.2
      · exact ⟨(i:Int),false,by simp,by simp,by simp⟩
      · cases t
        · exact ⟨(i:Int),false,by simp,by simp,by simp⟩
        · simpa using ih
  obtain ⟨k,b,h1,h2,h3⟩:=key 0 (by omega)
  rw [show ((0:Nat):Int)=0 from rfl] at h1 h2
  rw [aE5,aNx,aLe,h1,aFb,h2]
  exact ⟨b,by simp [h3],rfl⟩
theorem aEq (row:List Int) (env:List (List Int)) (h:env.length≤4194304):aDc row env=some (row::env)∧Z6 row env=some (row::env):=by
  have e:appG 24 ([row]:List (List Int)) env=some (row::env):=by unfold appG; rw [if_pos (by simp; omega)]; rfl
  unfold aDc Z6
  rw [e]; exact ⟨rfl,rfl⟩
theorem bO1 (c:aQ) (env:List (List Int)) (e:aJ) (hk:e.kids.length≤1048576) (H:∀ k∈e.kids,TyE c env k) :
    (uY env e c [] 0=some (0,false)∧qZ env c e [] 0=some (0,false))∨∃ acc:List Int,acc.length=e.kids.length∧(∀ x∈acc,okT x)∧uY env e c [] 0=yV env acc e c [] 0∧qZ env c e [] 0=qZ env c e acc (e.kids.length:Int):=by
  have key:∀ i,i≤e.kids.length→∀ acc:List Int,acc.length=i→(∀ x∈acc,okT x)→(uY env e c acc (i:Nat)=some (0,false)∧qZ env c e acc (i:Nat)=some (0,false))∨∃ a:List Int,a.length=e.kids.length∧(∀ x∈a,okT x)∧uY env e c acc (i:Nat)=yV env a e c [] 0∧qZ env c e acc (i:Nat)=qZ env c e a (e.kids.length:Int):=by
    refine dZ ?_ ?_
    · intro acc ha hx
      right
      refine ⟨acc,ha,hx,?_,rfl⟩
      rw [uY]
      simp
    · intro i hi ih acc ha hx
      obtain ⟨r,h1,h2,h3⟩:=H _ (QE hi)
      have ea:appG 8 acc [r.1]=some (acc++[r.1]):=by unfold appG; rw [if_pos (by simp; omega)]
      have f1:uY env e c acc (i:Nat)=if (!r.2)=true then some (0,false) else uY env e c (acc++[r.1]) ((i+1:Nat):Int):=by
        rw [uY]
        simp only [bZ,hi,decide_true,if_true,bM hi,dI hi (by omega),h1,ea,QB,QA]
      have f2:qZ env c e acc (i:Nat)=if (!r.2)=true then some (0,false) else qZ env c e (acc++[r.1]) ((i+1:Nat):Int):=by
        rw [qZ]
        simp only [bZ,hi,decide_true,if_true,bM hi,dI hi (by omega),h2,ea,QB,QA]
      rw [f1,f2]
      cases hr:r.2
      · left; exact ⟨by simp,by simp⟩
      · have:=ih (acc++[r.1]) (by simp [ha]) (by intro x hx2; rcases QO.1 hx2 with h | h; exact hx x h; simp at h; rw [h]; exact h3)
        simpa using this
  simpa using key 0 (by omega) [] rfl (by simp)
theorem aNh {α:Type} {l:List α} (h:0<l.length):idx l 0=some l[0]:=bM h
theorem bE6 {α:Type} {l:List α} (h:1<l.length):idx l 1=some l[1]:=bM h
theorem bRt (l:List Int) (h:l.length≤4194304):aI7 l=some l:=by
  unfold aI7
  by_cases h0:l=[]
  · simp [h0]
  · have e:appG 8 ([]:List Int) l=some l:=by unfold appG; rw [if_pos (by simp; omega)]; simp
    have h1:¬ (l.length:Int)=0:=by
      have:=List.length_pos_iff.2 h0
      omega
    simp [h1,e]
theorem aXz (a b:List Int) (ha:a.length≤1000000) (hb:b.length≤1000) (oa:∀ x∈a,okT x) (ob:∀ x∈b,okT x):∃ m:Bool,X8 (a++b)=some m∧N7 a b false=some (if m=true then 3 else 0,m):=by
  obtain ⟨r,h1,h2⟩:=bKj (a++b) (by simp; omega) (by intro x hx; rcases QO.1 hx with h | h; exact oa x h; exact ob x h)
  refine ⟨r.2,h2,?_⟩
  have e:appG 8 a b=some (a++b):=by unfold appG; rw [if_pos (by omega)]
  unfold N7
  rw [bRt a (by omega)]
  simp only [e,h1,QD,if_false,QB,QA]
  cases r.2 <;> simp
theorem bX4 (c:aQ) (env:List (List Int)) (hv:kX env) (hl:env.length≤4194304) (e:aJ) (hk:e.kids.length≤1048576) (hs:e.sub.length≤1048576) (H:∀ k∈e.kids,TyE c env k) (HP:∀ p∈e.sub,PlE c env p):TyE c env e:=by
  unfold TyE
  obtain ⟨b,s1,i1,hf⟩:=bPq e hk hs
  rw [J9,V4,s1,i1]
  simp only [QB,QA]
  cases b with
  | false=>exact ⟨(0,false),by simp,by simp,okT0⟩
  | true =>
  simp only [QF,QD,if_false]
  have hF:=hf rfl
  by_cases k2:e.kind=2
  · have hk0:e.kids.length=0:=by
      rcases hF with h | h | h | h | h | h | h | h | h <;> first | exact h.2.1 | (exact absurd h.1 (by omega))
    rw [if_pos (by simpa using k2),qZ]
    have n1:¬ e.kind=1:=by omega
    have hw:QC .i64 ((env.length:Int) - 1)=(env.length:Int) - 1:=dR (by omega) (by omega)
    unfold fE
    simp only [hk0,k2,n1,hw,decide_true,decide_false,if_true,if_false,QD,QB,QA,Int.reduceEq]
    by_cases u0:0≤e.up
    case neg => exact ⟨(0, false), by have : e.up < 0 := by omega
                                      simp [this],by simp [u0],okT0⟩
    by_cases u1:e.up<(env.length:Int)
    case neg => exact ⟨(0, false), by have : (env.length : Int) ≤ e.up := by omega
                                      simp [this], by have : ¬ e.up ≤ (env.length : Int) - 1 := by omega
                                                      simp [u0,this],okT0⟩
    have hj:e.up.toNat<env.length:=by omega
    have hx:idx env e.up=some env[e.up.toNat]:=by
      have:=bM hj
      rwa [show ((e.up.toNat:Nat):Int)=e.up by omega] at this
    obtain ⟨r1,r2⟩:=hv _ (QE hj)
    have a1:¬ e.up<0:=by omega
    have a2:¬ (env.length:Int)≤e.up:=by omega
    have a3:e.up≤(env.length:Int) - 1:=by omega
    have hw2:QC .i64 ((env[e.up.toNat].length:Int) - 1)=(env[e.up.toNat].length:Int) - 1:=dR (by omega) (by omega)
    simp only [u0,a1,a2,a3,hx,hw2,decide_true,decide_false,if_true,if_false,QF,QD,beq_self_eq_true,WK,QA,QM]
    by_cases t0:0≤e.at_
    case neg => exact ⟨(0, false), by have : e.at_ < 0 := by omega
                                      simp [this],by simp [t0],okT0⟩
    by_cases t1:e.at_<(env[e.up.toNat].length:Int)
    case neg => exact ⟨(0, false), by have h1 : (env[e.up.toNat].length : Int) ≤ e.at_ := by omega
                                      have h2:¬ e.at_<0:=by omega
                                      simp [h1, h2], by have : ¬ e.at_ ≤ (env[e.up.toNat].length : Int) - 1 := by omega
                                                        simp [t0,this],okT0⟩
    have hj2:e.at_.toNat<env[e.up.toNat].length:=by omega
    have hx2:idx env[e.up.toNat] e.at_=some env[e.up.toNat][e.at_.toNat]:=by
      have:=bM hj2
      rwa [show ((e.at_.toNat:Nat):Int)=e.at_ by omega] at this
    have b1:¬ e.at_<0:=by omega
    have b2:¬ (env[e.up.toNat].length:Int)≤e.at_:=by omega
    have b3:e.at_≤(env[e.up.toNat].length:Int) - 1:=by omega
    exact ⟨(env[e.up.toNat][e.at_.toNat],true),by simp [b1,b2,hx2],by simp [t0,b3,hx2],r2 _ (QE hj2)⟩
  rw [if_neg (by simpa using k2)]
  rcases bO1 c env e hk H with ⟨h1,h2⟩ | ⟨acc,ha,hx,h1,h2⟩
  · exact ⟨(0,false),h1,h2,okT0⟩
  rw [h1,h2,qZ,yV]
  have nk:decide ((e.kids.length:Int)<(e.kids.length:Int))=false:=by simp
  simp only [nk,k2,decide_false,QD,if_false]
  rcases hF with ⟨k,f1,f2,f3⟩ | ⟨k,f1⟩ | ⟨k,f1,f2⟩ | ⟨k,f1,f2⟩ | ⟨k,f1,f2⟩ | ⟨k,f1,f2⟩ | ⟨k,⟨f1,f3⟩,f2⟩ | ⟨k,f1,f2⟩ | ⟨k,f1,f2⟩
  · refine ⟨(e.value.kind,true),?_,?_,f3⟩
    · unfold vW; simp [f2,k]
    · simp [k]
  · exact absurd k k2
  · obtain ⟨r,r1,r2,r3⟩:=bUw e.op (acc[0]'(by omega))
    refine ⟨r,?_,?_,r3⟩
    · unfold vW; simp [f2,k,aNh (show 0<acc.length by omega),r1]
    · simp [k,aNh (show 0<acc.length by omega),r2]
  · obtain ⟨r,r1,r2,r3⟩:=bU9 e.op (acc[0]'(by omega)) (acc[1]'(by omega)) (hx _ (QE _)) (hx _ (QE _))
    refine ⟨r,?_,?_,r3⟩
    · unfold vW; simp [f2,k,aNh (show 0<acc.length by omega),bE6 (show 1<acc.length by omega),r1]
    · simp [k,aNh (show 0<acc.length by omega),bE6 (show 1<acc.length by omega),r2]
  · refine ⟨(3,true),?_,?_,okT3⟩
    · unfold vW N7; simp [f2,k]
    · unfold xC; simp [f2,k]
  · obtain ⟨m,m1,m2⟩:=aXz acc [] (by omega) (by simp) hx (by simp)
    refine ⟨(if m=true then 3 else 0,m),?_,?_,by cases m; exact okT0; exact okT3⟩
    · unfold vW; simp [f2,k,m2]
    · rw [WV] at m1
      unfold xC rJ; cases m <;> simp [f2,k,m1]
  · obtain ⟨m,m1,m2⟩:=aXz acc [] (by omega) (by simp) hx (by simp)
    refine ⟨(if m=true then 3 else 0,m),?_,?_,by cases m; exact okT0; exact okT3⟩
    · unfold vW; simp [f2,k,m2]
    · rw [WV] at m1
      unfold xC rJ; cases m <;> simp [f2,k,m1]
  · obtain ⟨p,hp⟩:∃ p,e.sub=[p]:=by
      match hh:e.sub,f2 with
      | [p],_=>exact ⟨p,rfl⟩
    obtain ⟨r,r1,r2,r3⟩:=HP p (by rw [hp]; simp)
    have ip:idx e.sub 0=some p:=by rw [hp]; rfl
    rw [ip]
    simp only [f2,k,r1,r2,QB,QA]
    obtain ⟨out,ok⟩:=r
    cases ok with
    | false=>exact ⟨(0,false),by simp,by simp,okT0⟩
    | true =>
    by_cases ho:out.length=1
    case neg =>
      have h3:¬ (out.length:Int)=1:=by omega
      exact ⟨(0,false),by simp [h3],by simp [h3],okT0⟩
    obtain ⟨t,ht⟩:∃ t,out=[t]:=by
      match out,ho with
      | [t],_=>exact ⟨t,rfl⟩
    subst ht
    have iw:QC .i64 (0+1)=1:=rfl
    have i0:idx [t] 0=some t:=rfl
    have ea:appG 8 acc [t]=some (acc++[t]):=by unfold appG; rw [if_pos (by simp; omega)]
    obtain ⟨m,m1,m2⟩:=aXz acc [t] (by omega) (by simp) hx (by intro x hx2; exact r3 x hx2)
    have h8:¬ e.kind=1:=by omega
    refine ⟨(if m=true then 3 else 0,m),?_,?_,by cases m; exact okT0; exact okT3⟩
    · rw [iw,yV]
      unfold vW
      simp [f2,k,m2]
    · unfold xC rJ; cases m <;> simp [k,i0,ea,m1]
  · obtain ⟨p,hp⟩:∃ p,e.sub=[p]:=by
      match hh:e.sub,f2 with
      | [p],_=>exact ⟨p,rfl⟩
    obtain ⟨r,r1,r2,r3⟩:=HP p (by rw [hp]; simp)
    have ip:idx e.sub 0=some p:=by rw [hp]; rfl
    rw [ip]
    simp only [f2,k,r1,r2,QB,QA]
    obtain ⟨out,ok⟩:=r
    cases ok with
    | false=>exact ⟨(0,false),by simp,by simp,okT0⟩
    | true =>
    have iw:QC .i64 (0+1)=1:=rfl
    have ha0:acc=[]:=XL (by omega)
    subst ha0
    have hm:X8 []=some true:=by unfold X8; rw [D6]; simp
    refine ⟨(3,true),?_,?_,okT3⟩
    · simp only [iw]
      rw [yV]
      unfold vW N7
      simp [f2,k]
    · unfold xC rJ; simp [k,hm]
theorem aHg {α:Type} {l:List α} {n:Nat} (h:n≤l.length):iM l 0 (n:Int)=some (l.take n):=by
  unfold iM
  rw [if_pos (by omega)]
  simp
theorem bNk (c:aQ) (env:List (List Int)) (p:aP) (hn:p.items.length≤1048576) (H:∀ e∈p.items,TyE c env e):∃ r:List Int×Bool,yN env p c [] 0=some r∧pY env c p [] 0=some r∧∀ x∈r.1,okT x:=by
  have key:∀ i,i≤p.items.length→∀ acc:List Int,acc.length=i→(∀ x∈acc,okT x)→∃ r:List Int×Bool,yN env p c acc (i:Nat)=some r∧pY env c p acc (i:Nat)=some r∧∀ x∈r.1,okT x:=by
    refine dZ ?_ ?_
    · intro acc _ hx
      rw [yN,pY]
      exact ⟨(acc,true),by simp,by simp,hx⟩
    · intro i hi ih acc ha hx
      obtain ⟨r,h1,h2,h3⟩:=H _ (QE hi)
      have ea:appG 8 acc [r.1]=some (acc++[r.1]):=by unfold appG; rw [if_pos (by simp; omega)]
      rw [yN,pY]
      simp only [bZ,hi,decide_true,if_true,bM hi,dI hi (by omega),h1,h2,ea,QB,QA]
      cases hr:r.2
      · exact ⟨([],false),by simp,by simp,by simp⟩
      · have:=ih (acc++[r.1]) (by simp [ha]) (by intro x hx2; rcases QO.1 hx2 with h | h; exact hx x h; simp at h; rw [h]; exact h3)
        simpa using this
  simpa using key 0 (by omega) [] rfl (by simp)
theorem bXg (c:aQ) (env:List (List Int)) (p:aP) (hn:p.items.length≤1048576) (ho:p.order.length≤1048576) (H:∀ e∈p.items,TyE c env e) (HO:∀ k∈p.order,TyE c env k.expr):∃ r:List Int×Bool,Q3 env p c 0=some r∧rG env c p 0=some r∧∀ x∈r.1,okT x:=by
  have key:∀ i,i≤p.order.length→∃ r:List Int×Bool,Q3 env p c (i:Nat)=some r∧rG env c p (i:Nat)=some r∧∀ x∈r.1,okT x:=by
    refine dZ ?_ ?_
    · rw [Q3,rG]
      simpa using bNk c env p hn H
    · intro i hi ih
      obtain ⟨r,h1,h2,h3⟩:=HO _ (QE hi)
      rw [Q3,rG]
      simp only [bZ,hi,decide_true,if_true,bM hi,dI hi (by omega),h1,h2,QB,QA]
      cases hr:r.2
      · exact ⟨([],false),by simp,by simp,by simp⟩
      · simpa using ih
  simpa using key 0 (by omega)
theorem aXa {row:List Int} {env:List (List Int)} (hr:row.length≤4194304) (hx:∀ x∈row,okT x) (hv:kX env):kX (row::env):=by
  intro r h
  rcases WQ.1 h with rfl | h
  · exact ⟨hr,hx⟩
  · exact hv r h
theorem bUo (c:aQ) (hc:rD c) (env:List (List Int)) (hv:kX env) (hl:env.length<4194304) (p:aP) (ho:p.on_.length≤1048576) (hn:p.names.length≤1048576) (ht:p.tables.length≤1048576)
    (H:∀ env',kX env'→env'.length=env.length+1→(∀ l∈p.on_,∀ e∈l,TyE c env' e)∧(∀ e∈p.where_,TyE c env' e)∧(∀ k∈p.order,TyE c env' k.expr)∧(∀ e∈p.items,TyE c env' e)):PlE c env p:=by
  unfold PlE
  obtain ⟨f1,f2⟩:=bVq c hc p ho hn ht
  obtain ⟨r1,r2⟩:=aB2 c hc p.tables ht
  rw [aE0,wM,f1,f2,r1]
  simp only [QB,QA]
  cases hr:(kJ c [] p.tables).2 with
  | false=>exact ⟨([],false),by simp,by simp,by simp⟩
  | true =>
  cases hP:aHj p with
  | false=>exact ⟨([],false),by simp,by simp,by simp⟩
  | true =>
  cases hO:onB p with
  | false=>exact ⟨([],false),by simp,by simp,by simp⟩
  | true =>
  cases hN:p.names.all nmB with
  | false=>exact ⟨([],false),by simp,by simp,by simp⟩
  | true =>
  simp only [QF,QM,WK,beq_self_eq_true,if_true,QD,if_false,QA]
  have hB:p.tables.length≤3∧p.on_.length=p.tables.length∧p.where_.length≤1∧p.order.length≤12∧p.items.length≤12:=by
    unfold aHj at hP
    simp only [QK,decide_eq_true_eq] at hP
    omega
  obtain ⟨b1,b2,b3,b4,b5⟩:=hB
  have hO1:∀ l∈p.on_,l.length≤1:=by
    unfold onB at hO
    simpa using hO
  obtain ⟨q1,q2⟩:=aKj c hc p.tables [] (by simp)
  simp only [WF] at q2
  obtain ⟨w1,w2⟩:=aEq (kJ c [] p.tables).1 env (by omega)
  obtain ⟨-,m2,m3,m4⟩:=H ((kJ c [] p.tables).1::env) (aXa (by omega) q1 hv) (by simp)
  have key:∀ i,i≤p.on_.length→∃ r:List Int×Bool,aCv env (kJ c [] p.tables) p c (i:Nat)=some r∧uH env c p (i:Nat)=some r∧∀ x∈r.1,okT x:=by
    refine dZ ?_ ?_
    · obtain ⟨t,t1,t2⟩:=bDm c ((kJ c [] p.tables).1::env) p.where_ (by omega) m2
      rw [aCv,uH]
      simp only [bZ,WJ,decide_false,QD,if_false,r2,w1,w2,t1,t2,QB,QA]
      cases t
      · exact ⟨([],false),by simp,by simp,by simp⟩
      · simpa using bXg c _ p (by omega) (by omega) m4 m3
    · intro i hi ih
      obtain ⟨a1,a2⟩:=aKj c hc (p.tables.take (i+1)) [] (by simp)
      simp only [WF] at a2
      obtain ⟨a3,a4⟩:=aB2 c hc (p.tables.take (i+1)) (by rw [XC]; omega)
      have a5:(p.tables.take (i+1)).length≤3:=by rw [XC]; omega
      obtain ⟨a6,a7⟩:=aEq (kJ c [] (p.tables.take (i+1))).1 env (by omega)
      obtain ⟨a8,-⟩:=H ((kJ c [] (p.tables.take (i+1))).1::env) (aXa (by omega) a1 hv) (by simp)
      obtain ⟨t,t1,t2⟩:=bDm c _ p.on_[i] (by have:=hO1 _ (QE hi); omega) (a8 _ (QE hi))
      have hs:iM p.tables 0 ((i+1:Nat):Int)=some (p.tables.take (i+1)):=aHg (by omega)
      rw [aCv,uH]
      simp only [bZ,hi,decide_true,if_true,bM hi,dI hi (by omega),hs,a3,a4,a6,a7,t1,t2,QB,QA]
      cases t
      · exact ⟨([],false),by simp,by simp,by simp⟩
      · simpa using ih
  simpa using key 0 (by omega)
theorem bIi (c:aQ) (hc:rD c):∀ n:Nat,(∀ (e:aJ) (env:List (List Int)),bG e<n→n≤1048577→kX env→env.length+n≤4000000→TyE c env e)∧(∀ (p:aP) (env:List (List Int)),eF p<n→n≤1048577→kX env→env.length+n≤4000000→PlE c env p)
  | 0=>⟨fun _ _ h=>absurd h (by omega),fun _ _ h=>absurd h (by omega)⟩
  | n+1=>by
    obtain ⟨i1,i2⟩:=bIi c hc n
    refine ⟨fun e env he hn hv hl=>?_,fun p env hp hn hv hl=>?_⟩
    · have:=aV5 e
      exact bX4 c env hv (by omega) e (by omega) (by omega) (fun k hk=>i1 k env (by have:=aJo hk; have:=QZ hk; omega) (by omega) hv (by omega)) fun p hp=>i2 p env (by have:=aGh hp; have:=QZ hp; omega) (by omega) hv (by omega)
    · have:=aJt p
      refine bUo c hc env hv (by omega) p (by omega) (by omega) (by omega) fun env' hv' hl'=>⟨fun l hm e he=>i1 e env' ?_ (by omega) hv' (by omega),fun e he=>i1 e env' ?_ (by omega) hv' (by omega),fun k hk=>i1 k.expr env' ?_ (by omega) hv' (by omega),fun e he=>i1 e env' ?_ (by omega) hv' (by omega)⟩
      · have:=onZ hm he; have:=QZ he; omega
      · have:=bFe he; have:=QZ he; omega
      · have:=bAx hk; have:=QZ hk; omega
      · have:=bIb he; have:=QZ he; omega
theorem bDz (c:aQ) (hc:rD c) (p:aP) (env:List (List Int)) (hz:eF p≤1048576) (hv:kX env) (hl:env.length≤1000):PlE c env p:=(bIi c hc (eF p+1)).2 p env (by omega) (by omega) hv (by omega)
theorem bBf {c:aQ} (h:aCz c):rD c:=by
  refine ⟨h.2,fun t ht=>?_⟩
  obtain ⟨i,hi,rfl⟩:=XM ht
  obtain ⟨t,h1,⟨h2,h3⟩,-⟩:=h.1 i hi
  rw [QU hi] at h1
  simp only [QH] at h1; subst h1
  refine ⟨h3.2.2,fun x hx=>?_⟩
  unfold qB at hx
  obtain ⟨k,hk,rfl⟩:=WM.1 hx
  obtain ⟨j,hj,rfl⟩:=XM hk
  obtain ⟨k,k1,-,k2,-⟩:=h2 j hj
  rw [QU hj] at k1
  simp only [QH] at k1; subst k1
  exact ⟨by omega,k2.2⟩
theorem summed {α γ:Type} {p:List α} {f:α→Option Int} {s:α→Int} {L:Int→Int→Option γ} {K:Int→Option γ} (hp:p.length≤1048576)
    (hf:∀ y∈p,f y=some (s y)∧0≤s y)
    (hL:∀ (i:Nat) (x:Int),L x (i:Int)=if (decide ((i:Int)<(p.length:Int)))=true then ((idx p (i:Int))>>=fun y=>(f y)>>=fun z=>L (QC .i64 (x+z)) (QC .i64 ((i:Int)+1))) else K x) :
    ∀ x:Int,0≤x→x+(p.map s).sum≤9223372036854775807→L x 0=K (x+(p.map s).sum):=by
  have nn:∀ l:List α,(∀ y∈l,0≤s y)→0≤(l.map s).sum:=by
    intro l
    induction l with
    | nil=>intro _; simp
    | cons y l ih=>intro h; have h1:=h y (by simp); have h2:=ih fun z hz=>h z (by simp [hz]); simp only [QL,WI]; omega
  have key:∀ i,i≤p.length→∀ x:Int,0≤x→x+((p.drop i).map s).sum≤9223372036854775807→L x (i:Nat)=K (x+((p.drop i).map s).sum):=by
    refine dZ ?_ ?_
    · intro x _ _
      rw [hL]; simp
    · intro i hi ih x h0 hx
      obtain ⟨f1,f2⟩:=hf _ (QE hi)
      have hn:=nn (p.drop (i+1)) fun y hy=>(hf y (List.mem_of_mem_drop hy)).2
      rw [QG hi] at hx ⊢
      simp only [QL,WI] at hx ⊢
      rw [hL,bM hi,dI hi (by omega)]
      simp only [bZ,hi,decide_true,if_true,f1,QB,QA]
      rw [dR (by omega) (by omega),ih _ (by omega) (by omega),Int.add_assoc]
  intro x h0 hx
  simpa using key 0 (by omega) x h0 (by simpa using hx)
theorem aO3 {α:Type} {s:α→Int}:∀ l:List α,(∀ y∈l,0≤s y)→0≤(l.map s).sum
  | [],_=>by simp
  | y::l,h=>by have h1:=h y (by simp); have h2:=aO3 l fun z hz=>h z (by simp [hz]); simp only [QL,WI]; omega
theorem aCl {α:Type} {s:α→Int} {z:α→Nat}:∀ l:List α,(∀ y∈l,s y≤(z y:Int)+1)→(l.map s).sum≤(zL z l:Int)
  | [],_=>by simp [zL]
  | y::l,h=>by
    have h1:=h y (by simp); have h2:=aCl l fun w hw=>h w (by simp [hw])
    unfold zL at *
    simp only [QL,WI,QY] at *; omega
def mx {α:Type} (d:α→Int) (l:List α) (x:Int):Int:=l.foldl (fun b y=>if d y>b then d y else b) x
theorem aZo (a b:Int):xH a b=some (if b>a then b else a):=by
  unfold xH
  by_cases h:b<a
  · have:¬ a<b:=by omega
    simp [h,this]
  · by_cases h2:a<b
    · simp [h,h2]
    · have:a=b:=by omega
      subst this; simp
def iE (p:aP):List aJ:=p.on_.flatMap (fun l=>l)++p.where_++p.order.flatMap (fun k=>[k.expr])++p.items
theorem bCx {α β:Type} {f:α→List β} {z:α→Nat}:∀ l:List α,(∀ y∈l,(f y).length≤z y+1)→(l.flatMap f).length≤zL z l
  | [],_=>by simp [zL]
  | y::l,h=>by
    have h1:=h y (by simp); have h2:=bCx l fun w hw=>h w (by simp [hw])
    unfold zL at *
    simp only [WH,QJ,QL,WI,QY] at *; omega
theorem aZe (l:List cZ):(l.flatMap fun k=>[k.expr])=l.map fun k=>k.expr:=by
  induction l with
  | nil=>rfl
  | cons x l ih=>rw [WH,ih]; rfl
theorem aSn (p:aP):(iE p).length≤eF p:=by
  have h1:=I4 p
  have h2:=bCx (f:=fun l:List aJ=>l) (z:=zL bG) p.on_ fun y _=>by have:=wS (z:=bG) y; omega
  have h3:=wS (z:=bG) p.where_
  have h4:=wS (z:=bG) p.items
  unfold iE
  simp only [QJ,aZe,WW]
  omega
theorem aGs {p:aP} {e:aJ} (h:e∈iE p):bG e<eF p:=by
  unfold iE at h
  simp only [QO,WX,List.mem_singleton] at h
  rcases h with ((⟨l,h1,h2⟩ | h) | ⟨k,h1,rfl⟩) | h
  · have:=onZ h1 h2; have:=QZ h2; omega
  · have:=bFe h; have:=QZ h; omega
  · have:=bAx h1; have:=QZ h1; omega
  · have:=bIb h; have:=QZ h; omega
theorem bCk {s:aJ→Int}:∀ l:List (List aJ),(∀ r∈l,∀ y∈r,s y≤(bG y:Int)+1)→((l.flatMap (fun r=>r)).map s).sum≤(zL (zL bG) l:Int)
  | [],_=>by simp [zL]
  | r::l,h=>by
    have h1:=aCl (s:=s) (z:=bG) r (h r (by simp)); have h2:=bCk (s:=s) l fun w hw=>h w (by simp [hw])
    rw [WH,XD,XN]
    have:(zL (zL bG) (r::l):Int)=1+zL bG r+zL (zL bG) l:=by unfold zL; simp only [QY,QL,WI]; omega
    omega
theorem bCe {s:aJ→Int} (p:aP) (h:∀ y∈iE p,s y≤(bG y:Int)+1):((iE p).map s).sum≤(eF p:Int):=by
  have h1:=I4 p
  unfold iE at *
  have a1:=bCk (s:=s) p.on_ fun r hr y hy=>h y (by simp only [QO,WX]; exact .inl (.inl (.inl ⟨r,hr,hy⟩)))
  have a2:=aCl (s:=s) (z:=bG) p.where_ fun y hy=>h y (by simp only [QO]; exact .inl (.inl (.inr hy)))
  have a3:=aCl (s:=fun k:cZ=>s k.expr) (z:=fun k=>bG k.expr) p.order fun y hy=>h y.expr (by rw [aZe]; simp only [QO,WM]; exact .inl (.inr ⟨y,hy,rfl⟩))
  have a4:=aCl (s:=s) (z:=bG) p.items fun y hy=>h y (by simp only [QO]; exact .inr hy)
  rw [aZe]
  simp only [XD,XN,XF]
  have:(p.order.map (s ∘ fun k=>k.expr))=p.order.map fun k:cZ=>s k.expr:=rfl
  rw [this]
  unfold zL at a3
  omega
theorem R5 {l m:List aJ} (h:l.length+m.length≤4194304):appG 120 l m=some (l++m):=nP (by omega)
theorem parts_eq (p:aP) (hz:eF p≤1048576):aFa p=some (iE p)∧aFd p=some (iE p):=by
  have hl:=aJt p
  have hp:=aSn p
  unfold iE at hp
  simp only [QJ] at hp
  have o1:∀ acc:List aJ,acc.length+(p.order.flatMap fun k=>[k.expr]).length+p.items.length≤4194304→E9 p acc 0=some (acc++(p.order.flatMap fun k=>[k.expr])++p.items):=by
    intro acc ha
    rw [gather (p:=p.order) (f:=fun k=>[k.expr]) (c:=4194304) (G:=fun y acc=>appG 120 acc ([y.expr]:List aJ)) (L:=fun acc i=>E9 p acc i) (K:=fun x=>(appG 120 x p.items)>>=fun (y7:List aJ)=>some y7) (by omega) (fun y _ acc h=>R5 h) (fun i acc=>by rw [E9]) acc (by omega)]
    rw [R5 (by rw [QJ]; omega)]; rfl
  have o2:∀ acc:List aJ,acc.length+(p.order.flatMap fun k=>[k.expr]).length+p.items.length≤4194304→zA p acc 0=some (acc++(p.order.flatMap fun k=>[k.expr])++p.items):=by
    intro acc ha
    rw [gather (p:=p.order) (f:=fun k=>[k.expr]) (c:=4194304) (G:=fun y acc=>appG 120 acc ([y.expr]:List aJ)) (L:=fun acc i=>zA p acc i) (K:=fun x=>(appG 120 x p.items)>>=fun (y7:List aJ)=>some y7) (by omega) (fun y _ acc h=>R5 h) (fun i acc=>by rw [zA]) acc (by omega)]
    rw [R5 (by rw [QJ]; omega)]; rfl
  constructor
  · rw [aFa,gather (p:=p.on_) (f:=fun l=>l) (c:=4194304) (G:=fun y acc=>appG 120 acc y) (L:=fun acc i=>aAe p acc i) (K:=fun x=>(appG 120 x p.where_)>>=fun (y3:List aJ)=>E9 p y3 0) (by omega) (fun y _ acc h=>R5 h) (fun i acc=>by rw [aAe]) [] (by simp only [WF]; omega)]
    rw [R5 (by simp only [QN]; omega)]
    simp only [QB,QA,QN]
    rw [o1 _ (by simp only [QJ]; omega)]; rfl
  · rw [aFd,gather (p:=p.on_) (f:=fun l=>l) (c:=4194304) (G:=fun y acc=>appG 120 acc y) (L:=fun acc i=>aAu p acc i) (K:=fun x=>(appG 120 x p.where_)>>=fun (y3:List aJ)=>zA p y3 0) (by omega) (fun y _ acc h=>R5 h) (fun i acc=>by rw [aAu]) [] (by simp only [WF]; omega)]
    rw [R5 (by simp only [QN]; omega)]
    simp only [QB,QA,QN]
    rw [o2 _ (by simp only [QJ]; omega)]; rfl
def dE (e:aJ):Int:=(N8 e).getD 0
def sE (e:aJ):Int:=(yP e).getD 0
def dP (p:aP):Int:=(wJ p).getD 0
def sP (p:aP):Int:=(vX p).getD 0
def DsE (e:aJ):Prop:=N8 e=some (dE e)∧zG e=some (dE e)∧yP e=some (sE e)∧yE e=some (sE e)∧0≤sE e∧sE e≤(bG e:Int)+1
def DsP (p:aP):Prop:=wJ p=some (dP p)∧aBn p=some (dP p)∧vX p=some (sP p)∧aA7 p=some (sP p)∧0≤sP p∧sP p≤(eF p:Int)
theorem aZj (l:List aJ) (hl:l.length≤1048576) (H:∀ e∈l,DsE e) (x:Int):aAm l x 0=some (mx dE l x)∧aBy l x 0=some (mx dE l x):=by
  constructor
  · exact folded (p:=l) (g:=fun y b=>(N8 y)>>=fun z=>some (if z>b then z else b)) (h:=fun y b=>if dE y>b then dE y else b) (L:=fun b i=>aAm l b i) (K:=fun b=>some b) hl (fun y hy b=>by rw [(H y hy).1]; rfl) (fun i b=>by rw [aAm]; simp only [QB,WT,QA]) x
  · exact folded (p:=l) (g:=fun y b=>(zG y)>>=fun z=>xH b z) (h:=fun y b=>if dE y>b then dE y else b) (L:=fun b i=>aBy l b i) (K:=fun b=>some b) hl (fun y hy b=>by rw [(H y hy).2.1]; exact aZo _ _) (fun i b=>by rw [aBy]; simp only [QB,WT]) x
theorem aRj (l:List aJ) (hl:l.length≤1048576) (hz:(l.map sE).sum≤4194304) (H:∀ e∈l,DsE e):aFf l=some ((l.map sE).sum)∧aBi l 0 0=some ((l.map sE).sum):=by
  constructor
  · rw [aFf,summed (p:=l) (f:=yP) (s:=sE) (L:=fun x i=>aEb l x i) (K:=fun x=>some x) hl (fun y hy=>⟨(H y hy).2.2.1,(H y hy).2.2.2.2.1⟩) (fun i x=>by rw [aEb]) 0 (by omega) (by omega)]
    simp
  · rw [summed (p:=l) (f:=yE) (s:=sE) (L:=fun x i=>aBi l x i) (K:=fun x=>some x) hl (fun y hy=>⟨(H y hy).2.2.2.1,(H y hy).2.2.2.2.1⟩) (fun i x=>by rw [aBi]) 0 (by omega) (by omega)]
    simp
theorem bRf (p:aP) (hz:eF p≤1048576) (H:∀ e∈iE p,DsE e):DsP p:=by
  obtain ⟨p1,p2⟩:=parts_eq p hz
  have hl:=aSn p
  have hs:=bCe (s:=sE) p fun y hy=>(H y hy).2.2.2.2.2
  have hn:=aO3 (s:=sE) (iE p) fun y hy=>(H y hy).2.2.2.2.1
  obtain ⟨a1,a2⟩:=aZj _ (by omega) H 0
  obtain ⟨b1,b2⟩:=aRj _ (by omega) (by omega) H
  have e1:wJ p=some (mx dE (iE p) 0):=by rw [wJ,p1]; simp only [QB,QA,aAk,a1]
  have e2:vX p=some (((iE p).map sE).sum):=by rw [vX,p1]; simp only [QB,QA,b1]
  have d1:dP p=mx dE (iE p) 0:=by unfold dP; rw [e1]; rfl
  have d2:sP p=((iE p).map sE).sum:=by unfold sP; rw [e2]; rfl
  unfold DsP
  rw [d1,d2]
  exact ⟨e1,by rw [aBn,p2]; exact a2,e2,by rw [aA7,p2]; exact b2,hn,hs⟩
theorem bZ9 (e:aJ) (hz:bG e≤1048576) (HK:∀ k∈e.kids,DsE k) (HS:∀ p∈e.sub,DsP p):DsE e:=by
  have hl:=aV5 e
  have hzz:=aFl e
  have s1:=aCl (s:=sE) (z:=bG) e.kids fun y hy=>(HK y hy).2.2.2.2.2
  have s2:=aCl (s:=sP) (z:=eF) e.sub fun y hy=>by have:=(HS y hy).2.2.2.2.2; omega
  have n1:=aO3 (s:=sE) e.kids fun y hy=>(HK y hy).2.2.2.2.1
  have n2:=aO3 (s:=sP) e.sub fun y hy=>(HS y hy).2.2.2.2.1
  obtain ⟨a1,-⟩:=aZj e.kids (by omega) HK 0
  obtain ⟨b1,-⟩:=aRj e.kids (by omega) (by omega) HK
  have e1:N8 e=some (QC .i64 (1+mx dP e.sub (mx dE e.kids 0))):=by
    rw [N8,aAk,a1]
    exact folded (p:=e.sub) (g:=fun y b=>(wJ y)>>=fun z=>some (if z>b then z else b)) (h:=fun y b=>if dP y>b then dP y else b) (L:=fun b i=>aCc e b i) (K:=fun b=>some (QC .i64 (1+b))) (by omega) (fun y hy b=>by rw [(HS y hy).1]; rfl) (fun i b=>by rw [aCc]; simp only [QB,WT,QA]) _
  have e2:zG e=some (QC .i64 (1+mx dP e.sub (mx dE e.kids 0))):=by
    rw [zG,folded (p:=e.kids) (g:=fun y b=>(zG y)>>=fun z=>xH b z) (h:=fun y b=>if dE y>b then dE y else b) (L:=fun b i=>aFo e b i) (K:=fun b=>P7 e b 0) (by omega) (fun y hy b=>by rw [(HK y hy).2.1]; exact aZo _ _) (fun i b=>by rw [aFo]; simp only [QB,WT]) 0]
    rw [Int.add_comm 1]
    exact folded (p:=e.sub) (g:=fun y b=>(aBn y)>>=fun z=>xH b z) (h:=fun y b=>if dP y>b then dP y else b) (L:=fun b i=>P7 e b i) (K:=fun b=>some (QC .i64 (b+1))) (by omega) (fun y hy b=>by rw [(HS y hy).2.1]; exact aZo _ _) (fun i b=>by rw [P7]; simp only [QB,WT]) _
  have e3:yP e=some (1+(e.kids.map sE).sum+(e.sub.map sP).sum):=by
    rw [yP,b1]
    simp only [QB,QA]
    rw [dR (by omega) (by omega)]
    exact summed (p:=e.sub) (f:=vX) (s:=sP) (L:=fun x i=>aAt e x i) (K:=fun x=>some x) (by omega) (fun y hy=>⟨(HS y hy).2.2.1,(HS y hy).2.2.2.2.1⟩) (fun i x=>by rw [aAt]) _ (by omega) (by omega)
  have e4:yE e=some (1+(e.kids.map sE).sum+(e.sub.map sP).sum):=by
    rw [yE,summed (p:=e.kids) (f:=yE) (s:=sE) (L:=fun x i=>aFs e x i) (K:=fun x=>H6 e x 0) (by omega) (fun y hy=>⟨(HK y hy).2.2.2.1,(HK y hy).2.2.2.2.1⟩) (fun i x=>by rw [aFs]) 1 (by omega) (by omega)]
    exact summed (p:=e.sub) (f:=aA7) (s:=sP) (L:=fun x i=>H6 e x i) (K:=fun x=>some x) (by omega) (fun y hy=>⟨(HS y hy).2.2.2.1,(HS y hy).2.2.2.2.1⟩) (fun i x=>by rw [H6]) _ (by omega) (by omega)
  have d1:dE e=QC .i64 (1+mx dP e.sub (mx dE e.kids 0)):=by unfold dE; rw [e1]; rfl
  have d2:sE e=1+(e.kids.map sE).sum+(e.sub.map sP).sum:=by
    have:sE e=(yP e).getD 0:=rfl
    rw [this,e3]; rfl
  unfold DsE
  rw [← d1] at e1 e2
  rw [← d2] at e3 e4
  exact ⟨e1,e2,e3,e4,by omega,by omega⟩
theorem aTz:∀ n:Nat,(∀ e:aJ,bG e<n→bG e≤1048576→DsE e)∧(∀ p:aP,eF p<n→eF p≤1048576→DsP p)
  | 0=>⟨fun _ h=>absurd h (by omega),fun _ h=>absurd h (by omega)⟩
  | n+1=>by
    obtain ⟨i1,i2⟩:=aTz n
    exact ⟨fun e he hz=>bZ9 e hz (fun k hk=>i1 k (by have:=aJo hk; have:=QZ hk; omega) (by have:=aJo hk; omega)) fun p hp=>i2 p (by have:=aGh hp; have:=QZ hp; omega) (by have:=aGh hp; omega),
      fun p hp hz=>bRf p hz fun e he=>i1 e (by have:=aGs he; omega) (by have:=aGs he; omega)⟩
theorem bSe (e:aJ) (hz:bG e≤1048576):DsE e:=(aTz _).1 e (XU _) hz
theorem bBl (p:aP) (hz:eF p≤1048576):DsP p:=(aTz _).2 p (XU _) hz
theorem bS0 (c:aQ) (hs:wQ c) (p:aP) (hz:eF p≤1048576):∃ b,aFt c p=some b∧J8 c p=some b:=by
  obtain ⟨a,a1,a2⟩:=bC6 c hs
  obtain ⟨b,b1,b2⟩:=aTs c hs
  have hab:a=b:=by rw [QR,a2,b2]
  subst hab
  obtain ⟨d1,d2,d3,d4,-⟩:=bBl p hz
  unfold aFt J8 aP9
  simp only [a1,b1,d1,d2,d3,d4,QB,QA]
  cases a with
  | false=>exact ⟨false,by simp,by simp⟩
  | true =>
  obtain ⟨r,r1,r2,r3⟩:=bDz c (bBf (a2.1 rfl)) p [] hz (by intro r hr; simp at hr) (by simp)
  have q1:decide (24<dP p)=!decide (dP p≤24):=by rw [QR]; simp only [WP,decide_eq_true_eq,decide_eq_false_iff_not]; omega
  have q2:decide (200<sP p)=!decide (sP p≤200):=by rw [QR]; simp only [WP,decide_eq_true_eq,decide_eq_false_iff_not]; omega
  rw [r1,r2]
  simp only [q1,QF,beq_self_eq_true,WK,if_true,if_false,QD,QA]
  generalize decide (dP p≤24)=x
  cases x with
  | false=>exact ⟨false,by simp,by simp⟩
  | true =>
  simp only [QF,beq_self_eq_true,WK,if_true,if_false,QD,QA,q2]
  generalize decide (sP p≤200)=y
  cases y with
  | false=>exact ⟨false,by simp,by simp⟩
  | true=>exact ⟨r.2,by simp,by simp⟩
theorem aLg (a:Int):0≤QC .i64 ((BitVec.ofInt (WS .i64) a &&& BitVec.ofInt (WS .i64) 255).toNat:Int)∧QC .i64 ((BitVec.ofInt (WS .i64) a &&& BitVec.ofInt (WS .i64) 255).toNat:Int)≤255:=by
  have h:(BitVec.ofInt (WS .i64) a &&& BitVec.ofInt (WS .i64) 255).toNat≤255:=by
    rw [BitVec.toNat_and]
    exact QV Nat.and_le_right (by decide)
  rw [dR (by omega) (by omega)]
  omega
def okCur (c:aL):Prop:=0≤c.i∧c.i≤(c.b.length:Int)∧c.b.length≤1048576
theorem aIc (c:aL) (h:okCur c):∃ x c',zH c=some (x,c')∧0≤x∧x≤255∧okCur c':=by
  obtain ⟨h1,h2,h3⟩:=h
  unfold zH aJh
  by_cases hi:c.i<(c.b.length:Int)
  · have e:∃ v,idx c.b c.i=some v:=by
      unfold idx
      rw [if_pos h1]
      exact ⟨_,QU (by omega)⟩
    obtain ⟨v,hv⟩:=e
    rw [if_pos (by simpa using hi),hv]
    simp only [QB,QA]
    refine ⟨_,_,rfl,(aLg _).1,(aLg _).2,?_⟩
    refine ⟨?_,?_,h3⟩
    · show 0≤QC .i64 (c.i+1); rw [dR (by omega) (by omega)]; omega
    · show QC .i64 (c.i+1)≤(c.b.length:Int); rw [dR (by omega) (by omega)]; omega
  · rw [if_neg (by simpa using hi)]
    exact ⟨_,_,rfl,(aLg _).1,(aLg _).2,h1,h2,h3⟩
theorem bFq {a b:Int} (h0:0≤a) (hb:0<b):∃ r,xY a b=some r∧0≤r∧r<b:=by
  unfold xY
  rw [if_neg (by omega)]
  exact ⟨_,rfl,Int.tmod_nonneg _ h0,Int.tmod_lt_of_pos _ hb⟩
theorem aBp (c:aL) (n:Int) (h:okCur c):∃ x c',gZ c n=some (x,c')∧0≤x∧(0<n→x<n)∧okCur c':=by
  unfold gZ
  by_cases h0:n≤0
  · rw [if_pos (by simpa using h0)]; exact ⟨0,c,rfl,by omega,by omega,h⟩
  rw [if_neg (by simpa using h0)]
  by_cases h1:n≤256
  · rw [if_pos (by simpa using h1)]
    obtain ⟨x,c1,e1,a1,b1,o1⟩:=aIc c h
    obtain ⟨r,er,r0,r1⟩:=bFq a1 (b:=n) (by omega)
    simp only [e1,QB,QA,er]
    exact ⟨r,c1,rfl,r0,fun _=>r1,o1⟩
  · rw [if_neg (by simpa using h1)]
    obtain ⟨x1,c1,e1,a1,b1,o1⟩:=aIc c h
    obtain ⟨x2,c2,e2,a2,b2,o2⟩:=aIc c1 o1
    obtain ⟨x3,c3,e3,a3,b3,o3⟩:=aIc c2 o2
    obtain ⟨x4,c4,e4,a4,b4,o4⟩:=aIc c3 o3
    simp only [e1,e2,e3,e4,QB,QA]
    rw [dR (n:=x1 * 16777216) (by omega) (by omega),dR (n:=x2 * 65536) (by omega) (by omega),dR (n:=x3 * 256) (by omega) (by omega),dR (n:=x1 * 16777216+x2 * 65536) (by omega) (by omega),dR (n:=x1 * 16777216+x2 * 65536+x3 * 256) (by omega) (by omega),dR (n:=x1 * 16777216+x2 * 65536+x3 * 256+x4) (by omega) (by omega)]
    obtain ⟨r,er,r0,r1⟩:=bFq (a:=x1 * 16777216+x2 * 65536+x3 * 256+x4) (by omega) (b:=n) (by omega)
    rw [er]
    exact ⟨r,c4,rfl,r0,fun _=>r1,o4⟩
theorem cA3 (c:aL) (n:Int) (h:okCur c):∃ x c',iB c n=some (x,c')∧okCur c':=by
  obtain ⟨x,c1,e1,_,_,o1⟩:=aBp c n h
  unfold iB
  simp only [e1,QB,QA]
  exact ⟨_,_,rfl,o1⟩
theorem aQj {α:Type} {l:List α} {x:Int} (h0:0≤x) (h1:x<(l.length:Int)):∃ v,v∈l∧idx l x=some v:=by
  unfold idx
  rw [if_pos h0]
  exact ⟨_,QE (by omega),QU (by omega)⟩
theorem bEi (c:aL) (l:List (List UInt8)) (hl:0<l.length) (h:okCur c):∃ x c',uE c l=some (x,c')∧x∈l∧okCur c':=by
  obtain ⟨x,c1,e1,h0,h1,o1⟩:=aBp c l.length h
  obtain ⟨v,hv,ev⟩:=aQj h0 (h1 (by omega))
  unfold uE
  simp only [e1,ev,QB,QA]
  exact ⟨_,_,rfl,hv,o1⟩
theorem aYx (c:aL) (l:List Int) (hl:0<l.length) (h:okCur c):∃ x c',M6 c l=some (x,c')∧x∈l∧okCur c':=by
  obtain ⟨x,c1,e1,h0,h1,o1⟩:=aBp c l.length h
  obtain ⟨v,hv,ev⟩:=aQj h0 (h1 (by omega))
  unfold M6
  simp only [e1,ev,QB,QA]
  exact ⟨_,_,rfl,hv,o1⟩
theorem cCz (p:List Int) (hp:p.length≤1048576):∃ c,aI2 p=some c∧okCur c:=by
  unfold aI2
  have key:∀ i,i≤p.length→∀ h,∃ c,M4 p h (i:Nat)=some c∧okCur c:=by
    refine dZ ?_ ?_
    · intro h
      rw [M4]
      refine ⟨⟨p,0,h⟩,by simp,?_⟩
      exact ⟨by show (0:Int)≤0; omega,by show (0:Int)≤(p.length:Int); omega,hp⟩
    · intro i hi ih h
      rw [M4]
      by_cases h4:(i:Int)<4000
      · simp only [bZ,hi,h4,decide_true,if_true,bM hi,dI hi (by omega),QB,QA]
        exact ih _
      · simp only [bZ,hi,h4,decide_true,decide_false,if_true,QD,if_false]
        exact ⟨⟨p,0,h⟩,rfl,by show (0:Int)≤0; omega,by show (0:Int)≤(p.length:Int); omega,hp⟩
  exact key 0 (by omega) _
def Yes {α:Type} (m:Option α) (Q:α→Prop):Prop:=∃ r,m=some r∧Q r
theorem Yes.bind {α β:Type} {m:Option α} {k:α→Option β} {Q:α→Prop} {R:β→Prop} (h:Yes m Q) (hk:∀ x,Q x→Yes (k x) R):Yes (m>>=k) R:=by
  obtain ⟨x,e,hx⟩:=h
  obtain ⟨r,e2,hr⟩:=hk x hx
  exact ⟨r,by rw [e]; exact e2,hr⟩
theorem Yes.some {α:Type} {x:α} {Q:α→Prop} (h:Q x):Yes (some x) Q:=⟨x,rfl,h⟩
theorem Yes.mono {α:Type} {m:Option α} {Q R:α→Prop} (h:Yes m Q) (hk:∀ x,Q x→R x):Yes m R:=by
  obtain ⟨x,e,hx⟩:=h; exact ⟨x,e,hk x hx⟩
theorem Yes.ite {α:Type} {c:Prop} [Decidable c] {m m':Option α} {Q:α→Prop} (h:c→Yes m Q) (h':¬ c→Yes m' Q):Yes (if c then m else m') Q:=by
  split
  · exact h (by assumption)
  · exact h' (by assumption)
theorem jW (c:aL) (n:Int) (h:okCur c):Yes (gZ c n) fun r=>0≤r.1∧(0<n→r.1<n)∧okCur r.2:=by
  obtain ⟨x,c',e,h1,h2,h3⟩:=aBp c n h; exact ⟨_,e,h1,h2,h3⟩
theorem kG (c:aL) (n:Int) (h:okCur c):Yes (iB c n) fun r=>okCur r.2:=by
  obtain ⟨x,c',e,h1⟩:=cA3 c n h; exact ⟨_,e,h1⟩
theorem aFn (p:Bool) (b:Bool) (c:aL) (n:Int) (h:okCur c):Yes (if (true&&(p==b))=true then iB c n else some ((default:Bool),c)) fun r=>okCur r.2:=Yes.ite (fun _=>kG c n h) fun _=>Yes.some h
theorem bWy (c:aL) (l:List (List UInt8)) (hl:0<l.length) (h:okCur c):Yes (uE c l) fun r=>okCur r.2:=by
  obtain ⟨x,c',e,_,h1⟩:=bEi c l hl h; exact ⟨_,e,h1⟩
theorem lH {α:Type} {b:Nat} {l m:List α} (h:(l.length+m.length) * b≤140737488355328):Yes (appG b l m) fun r=>r=l++m:=⟨_,nP h,rfl⟩
theorem aCk (c:aL) (l:List (List UInt8)) (hl:0<l.length) (h:okCur c):Yes (uE c l) fun r=>r.1∈l∧okCur r.2:=by
  obtain ⟨x,c',e,h0,h1⟩:=bEi c l hl h; exact ⟨_,e,h0,h1⟩
theorem cAn (c:aL) (h:okCur c):Yes (aHy c) fun r=>r.1.length≤8∧okCur r.2:=by
  unfold aHy
  refine Yes.bind (kG _ _ h) fun r k=>Yes.ite (fun _=>?_) fun _=>?_
  · refine Yes.bind (aCk _ _ (by decide) k) fun r ⟨hm,k⟩=>Yes.some ⟨?_,k⟩
    have:∀ v∈([[97,32,98],[102,114,111,109],[83,101,108,101,99,116],[49,120],[113,34,113],[0],[34],[105,116,39,115],[120,46,121],[45]]:List (List UInt8)),v.length≤8:=by decide
    exact this _ hm
  · refine Yes.bind (aCk _ _ (by decide) k) fun r ⟨hm,k⟩=>Yes.some ⟨?_,k⟩
    have:∀ v∈([[97],[98],[99],[116],[117],[118],[105,100],[110,97,109,101],[65],[95,120,49]]:List (List UInt8)),v.length≤8:=by decide
    exact this _ hm
theorem aBt (c:aL) (h:okCur c):Yes (wF c) fun r=>okI r.1∧okCur r.2:=by
  obtain ⟨x,c1,e1,_,_,o1⟩:=aBp c 3 h
  obtain ⟨y,c2,e2,hy,o2⟩:=aYx c1 [0,1,(-1),63,64,(-64),(-65),127,128,16383,16384,9223372036854775807,(-9223372036854775808),4611686018427387904] (by decide) o1
  obtain ⟨z,c3,e3,z0,z1,o3⟩:=aBp c1 1000000 o1
  obtain ⟨w,c4,e4,w0,w1,o4⟩:=aBp c1 20 o1
  have hyI:okI y:=by
    have:∀ v∈([0,1,(-1),63,64,(-64),(-65),127,128,16383,16384,9223372036854775807,(-9223372036854775808),4611686018427387904]:List Int),-9223372036854775808≤v∧v≤9223372036854775807:=by decide
    exact this y hy
  have hz:=z1 (by decide)
  have hw:=w1 (by decide)
  unfold wF
  simp only [e1,e2,e3,e4,QB,QA]
  split
  · exact ⟨_,rfl,hyI,o2⟩
  split
  · refine ⟨_,rfl,?_,o3⟩
    unfold okI; dsimp only; rw [dR (by omega) (by omega)]; omega
  · refine ⟨_,rfl,?_,o4⟩
    unfold okI; dsimp only; omega
def okV (B:Nat) (r:aA×aL):Prop:=okGValue r.1∧r.1.text.length≤B∧okCur r.2
theorem okV_mk {B:Nat} {k n:Int} {t:List UInt8} {c:aL} (h1:okI k) (h2:okI n) (h3:t.length≤B) (hB:B≤1000) (h:okCur c):okV B (⟨k,n,t⟩,c):=⟨⟨h1,h2,by unfold okS; dsimp only; omega⟩,h3,h⟩
theorem okI_small {n:Int} (h0 : -1000≤n) (h1:n≤1000):okI n:=by unfold okI; omega
theorem bRl (c:aL) (h:okCur c):Yes (aJw c) (okV 4):=by
  unfold aJw
  refine Yes.bind (jW _ _ h) fun r ⟨_,_,k⟩=>Yes.ite (fun _=>?_) fun _=>Yes.ite (fun _=>?_) fun _=>Yes.ite (fun _=>?_) fun _=>Yes.ite (fun _=>?_) fun _=>?_
  · exact Yes.some (okV_mk (okI_small (by omega) (by omega)) (okI_small (by omega) (by omega)) (by simp) (by omega) k)
  · refine Yes.bind (aCk _ _ (by decide) k) fun r ⟨hm,k⟩=>?_
    have:∀ v∈([[],[97],[98],[105,116,39,115],[97,98],[255]]:List (List UInt8)),v.length≤4:=by decide
    exact Yes.bind (Q:=fun v=>v=⟨2,0,r.1⟩) ⟨_,rfl,rfl⟩ fun v hv=>Yes.some (by subst hv; exact okV_mk (okI_small (by omega) (by omega)) (okI_small (by omega) (by omega)) (this _ hm) (by omega) k)
  · refine Yes.bind (kG _ _ k) fun r k=>?_
    have:Yes (qR r.1) fun v=>okI v.kind∧okI v.num∧v.text=[]:=by
      cases r.1
      · exact ⟨_,rfl,okI_small (by decide) (by decide),okI_small (by decide) (by decide),rfl⟩
      · exact ⟨_,rfl,okI_small (by decide) (by decide),okI_small (by decide) (by decide),rfl⟩
    refine Yes.bind this fun v ⟨h1,h2,h3⟩=>Yes.some ?_
    obtain ⟨a,b,t⟩:=v
    dsimp only at h1 h2 h3
    subst h3
    exact okV_mk h1 h2 (by simp) (by omega) k
  · refine Yes.bind (aBt _ k) fun r ⟨h1,k⟩=>?_
    exact Yes.bind (Q:=fun v=>v=⟨1,r.1,[]⟩) ⟨_,rfl,rfl⟩ fun v hv=>Yes.some (by subst hv; exact okV_mk (okI_small (by omega) (by omega)) h1 (by simp) (by omega) k)
  · refine Yes.bind (jW _ _ k) fun r ⟨h0,h1,k⟩=>?_
    have:=h1 (by decide)
    exact Yes.bind (Q:=fun v=>v=⟨1,QC .i64 (r.1 - 2),[]⟩) ⟨_,rfl,rfl⟩ fun v hv=>Yes.some (by subst hv; exact okV_mk (okI_small (by omega) (by omega)) (by rw [dR (by omega) (by omega)]; exact okI_small (by omega) (by omega)) (by simp) (by omega) k)
theorem aFg (a b:Int) (q:Bool) (v:aA) (u t:Int) (ks:List aJ) (ss:List aP):bG (aJ.mk a b q v u t ks ss)=xG v+zL bG ks+zL eF ss:=by
  obtain ⟨v0,v1,v2⟩:=v
  simp only [bG,xG,aA5,aQq,zL]
theorem F4 {α:Type} {z:α→Nat} {B n:Nat}:∀ {l:List α},l.length≤n→(∀ y∈l,z y≤B)→zL z l≤n * (1+B):=by
  have key:∀ l:List α,(∀ y∈l,z y≤B)→zL z l≤l.length * (1+B):=fun l=>by
    induction l with
    | nil=>simp [zL]
    | cons x l ih =>
      intro h
      have h1:=ih fun y hy=>h y (WN _ hy)
      have h2:=h x (by simp)
      simp only [zL,QY,QL,WI,Nat.add_mul,XV] at h1 ⊢
      omega
  intro l hl h
  exact QV (key l h) (XI _ hl)
def pN (n:Int) (l:List (List UInt8)):Prop:=(l.length:Int)≤n∧∀ s∈l,s.length≤8
theorem mem1 {α:Type} {x:α} {p:α→Prop} (hx:p x):∀ y∈[x],p y:=fun y hy=>by
  have:y=x:=by simpa using hy
  rw [this]; exact hx
theorem sV {α:Type} {l:List α} {x:α} {p:α→Prop} (h:∀ y∈l,p y) (hx:p x):∀ y∈l++[x],p y:=fun y hy=>by
  rcases QO.1 hy with hy | hy
  · exact h y hy
  · have:y=x:=by simpa using hy
    rw [this]; exact hx
def Zb:Nat→Nat
  | 0=>10
  | n+1=>60+11 * Zb n
theorem bLd (n:Nat):10≤Zb n:=by cases n <;> simp only [Zb] <;> omega
def FZ (B:Nat) (r:aJ×aL):Prop:=bG r.1≤B∧okCur r.2
def KZ (B m:Nat) (r:List aJ×aL):Prop:=(r.1.length≤m∧∀ y∈r.1,bG y≤B)∧okCur r.2
def PZ (B:Nat) (r:aP×aL):Prop:=eF r.1≤40+8 * B∧okCur r.2
theorem zV {v:aA} {B:Nat} (h:v.text.length≤B) (hn:okI v.num):xG v≤B:=by
  obtain ⟨a,b,c⟩:=v
  show c.length+zN b≤B
  rw [zN0 hn]; exact h
theorem bLq {v:aA} (h:xG v≤1048576):okI v.num:=by
  obtain ⟨a,b,c⟩:=v
  change c.length+zN b≤_ at h
  unfold zN at h
  split at h
  · assumption
  · omega
theorem bC9 (c:aL) (ty:Int) (h:okCur c):Yes (aDj c ty) fun r=>(r.1.text.length≤4∧okI r.1.num)∧okCur r.2:=by
  have o0:okI 0:=by decide
  have o1:okI 1:=by decide
  unfold aDj
  refine Yes.bind (kG _ _ h) fun r k=>Yes.ite (fun _=>Yes.some ⟨⟨by simp,o0⟩,k⟩) fun _=>Yes.ite (fun _=>?_) fun _=>Yes.ite (fun _=>?_) fun _=>?_
  · refine Yes.bind (aCk _ _ (by decide) k) fun r ⟨hm,k⟩=>?_
    have:∀ v∈([[],[97],[98],[97,98]]:List (List UInt8)),v.length≤4:=by decide
    exact Yes.bind (Q:=fun v=>v.text.length≤4∧okI v.num) ⟨_,rfl,this _ hm,o0⟩ fun v hv=>Yes.some ⟨hv,k⟩
  · refine Yes.bind (kG _ _ k) fun r k=>Yes.bind (Q:=fun v:aA=>v.text.length≤4∧okI v.num) ?_ fun v hv=>Yes.some ⟨hv,k⟩
    unfold qR
    exact Yes.ite (fun _=>Yes.some ⟨by simp,o1⟩) fun _=>Yes.some ⟨by simp,o0⟩
  · exact Yes.bind (aBt _ k) fun r ⟨hi,k⟩=>Yes.bind (Q:=fun v:aA=>v.text.length≤4∧okI v.num) ⟨_,rfl,by simp,hi⟩ fun v hv=>Yes.some ⟨hv,k⟩
theorem bK9 (c:aL) (l:List Int) (hl:0<l.length) (h:okCur c):Yes (M6 c l) fun r=>r.1∈l∧okCur r.2:=by
  obtain ⟨x,c',e,hm,k⟩:=aYx c l hl h
  exact ⟨_,e,hm,k⟩
theorem bEc (c:aL) (ty:Int) (h:okCur c):Yes (aC3 c ty) fun r=>(r.1.text.length≤4∧okI r.1.num)∧okCur r.2:=by
  unfold aC3 aHv
  refine Yes.bind (bC9 c ty h) fun r ⟨h1,k⟩=>Yes.ite (fun _=>Yes.bind (bK9 _ _ (by decide) k) fun q ⟨hm,k⟩=>Yes.some ⟨⟨h1.1,?_⟩,k⟩) fun _=>Yes.some ⟨h1,k⟩
  have:∀ v∈([0,1,2,3,5,1,2,9223372036854775807]:List Int),okI v:=by decide
  exact this _ hm
theorem bQ1 (c:aL) (env:List (List Int)) (hv:kX env) (hl:env.length≤4194304) (ty:Int) (h:okCur c):Yes (aEk c env ty) (FZ 10):=by
  have key:∀ i,i≤env.length→∀ x b0 b3 b4 (t:List UInt8) u a b j g,(t.length≤4∧okI b4)→okCur ⟨b,j,g⟩→Yes (aAd env ty x (i:Nat) b0 b3 b4 (t,u,a,b,j,g)) (FZ 10):=by
    refine dZ ?_ ?_
    · intro x b0 b3 b4 t u a b j g ht k
      rw [aAd,if_neg (by simp)]
      refine Yes.some ⟨?_,k⟩
      have:=zV (v:=⟨b3,b4,t⟩) ht.1 ht.2
      rw [aFg]; simp [zL]; omega
    · intro i hi ih x b0 b3 b4 t u a b j g ht k
      rw [aAd,if_pos (by simpa using hi)]
      have hr:=(hv _ (QE hi)).1
      have inner:∀ m,m≤env[i].length→∀ x b0 b3 b4 (t:List UInt8) u a b j g,(t.length≤4∧okI b4)→okCur ⟨b,j,g⟩→Yes (aCa env ty (i:Nat) x (m:Nat) b0 b3 b4 (t,u,a,b,j,g)) (FZ 10):=by
        refine dZ ?_ ?_
        · intro x b0 b3 b4 t u a b j g ht k
          rw [aCa]
          simp only [bM hi,bZ,WJ,decide_false,QD,if_false,dI hi (by omega),QB,QA]
          exact ih _ _ _ _ _ _ _ _ _ _ ht k
        · intro m hm im x b0 b3 b4 t u a b j g ht k
          have J2:∀ x b0 b3 b4 (t:List UInt8) u a b j g,(t.length≤4∧okI b4)→okCur ⟨b,j,g⟩→Yes (aA1 env ty (i:Nat) (m:Nat) x b0 b3 b4 (t,u,a,b,j,g)) (FZ 10):=by
            intro x b0 b3 b4 t u a b j g ht k
            rw [aA1,dI hm (by omega)]
            exact im _ _ _ _ _ _ _ _ _ _ ht k
          rw [aCa]
          simp only [bM hi,bZ,hm,decide_true,if_true,bM hm,QB,QA]
          refine Yes.ite (fun _=>?_) fun _=>J2 _ _ _ _ _ _ _ _ _ _ ht k
          exact Yes.bind (kG _ _ k) fun r k=>Yes.ite (fun _=>J2 _ _ _ _ _ _ _ _ _ _ ⟨by simp,by decide⟩ k) fun _=>J2 _ _ _ _ _ _ _ _ _ _ ht k
      simpa using inner 0 (by omega) x b0 b3 b4 t u a b j g ht k
  unfold aEk
  refine Yes.bind (bEc c ty h) fun r ⟨h1,k⟩=>?_
  simpa using key 0 (by omega) _ _ _ _ _ _ _ _ _ _ h1 k
theorem cA1 (B:Nat) (cat:aQ) (env:List (List Int)) (ty d:Int) (m:Int) (hm:m≤4) (H:∀ c,okCur c→Yes (qE c cat env ty (QC .i64 (d - 1))) (FZ B)) (c:aL) (h:okCur c):Yes (nK c cat env ty d m) (KZ B 4):=by
  have key:∀ (k:Nat) (i:Int) b j h (l:List aJ),m≤k+i→0≤i→i≤4→(l.length:Int)≤i→(∀ y∈l,bG y≤B)→okCur ⟨b,j,h⟩→Yes (xI env ty d m cat i (b,j,h,l)) (KZ B 4):=by
    intro k
    induction k with
    | zero =>
      intro i b j h l h1 h2 h3 h4 h5 h6
      rw [xI,if_neg (by simp; omega)]
      exact Yes.some ⟨⟨by show l.length≤4; omega,h5⟩,h6⟩
    | succ k ih =>
      intro i b j h l h1 h2 h3 h4 h5 h6
      rw [xI]
      refine Yes.ite (fun hi=>?_) fun _=>Yes.some ⟨⟨by show l.length≤4; omega,h5⟩,h6⟩
      have hi':i<m:=by simpa using hi
      refine Yes.bind (H _ h6) fun r ⟨hz,hr⟩=>Yes.bind (lH (by simp; omega)) fun y hy=>?_
      subst hy
      rw [dR (by omega) (by omega)]
      exact ih _ _ _ _ _ (by omega) (by omega) (by omega) (by simp; omega) (sV h5 hz) hr
  rw [nK]
  exact key m.toNat 0 c.b c.i c.h [] (by omega) (by omega) (by omega) (by simp) (by simp) h
def qO (n:Int) (B:Nat) (o:List (List aJ)):Prop:=(o.length:Int)≤n∧∀ l∈o,l.length≤1∧∀ y∈l,bG y≤B
def qL (n:Int) (B:Nat) (l:List aJ):Prop:=(l.length:Int)≤n∧∀ y∈l,bG y≤B
def qK (B:Nat) (l:List cZ):Prop:=l.length≤1∧∀ k∈l,bG k.expr≤B
theorem aPd {B:Nat} {t:List Int} {o:List (List aJ)} {w i:List aJ} {r:List cZ} {n:List (List UInt8)} {d:Bool} {l:Int} (ht:t.length≤2) (ho:qO 2 B o) (hw:qL 1 B w) (hr:qK B r) (hi:qL 2 B i) (hn:pN 2 n):eF (aP.mk t o w r i n d l)≤40+8 * B:=by
  obtain ⟨o1,o2⟩:=ho
  obtain ⟨w1,w2⟩:=hw
  obtain ⟨r1,r2⟩:=hr
  obtain ⟨i1,i2⟩:=hi
  obtain ⟨n1,n2⟩:=hn
  have e1:eF (aP.mk t o w r i n d l)=zTb t+zL z0 t+zL (zL bG) o+zL bG w+zL O3 r+zL bG i+zL WU n:=by simp only [eF,aA5,aL9,aPb,zL]
  have a1:=F4 (z:=z0) (B:=0) (n:=2) (l:=t) (by omega) (fun _ _=>by simp [z0])
  have a2:=F4 (z:=zL bG) (B:=1 * (1+B)) (n:=2) (l:=o) (by omega) (fun y hy=>F4 (o2 y hy).1 fun x hx=>(o2 y hy).2 x hx)
  have a3:=F4 (z:=bG) (B:=B) (n:=1) (l:=w) (by omega) (fun y hy=>w2 y hy)
  have a4:=F4 (z:=O3) (B:=B) (n:=1) (l:=r) (by omega) (fun y hy=>by have:=r2 y hy; obtain ⟨p,q⟩:=y; simpa only [O3] using this)
  have a5:=F4 (z:=bG) (B:=B) (n:=2) (l:=i) (by omega) (fun y hy=>i2 y hy)
  have a6:=F4 (z:=WU) (B:=8) (n:=2) (l:=n) (by omega) n2
  have a0:zTb t=0:=by unfold zTb; omega
  rw [e1]; omega
theorem aOb {cat:aQ} (hc:rD cat) {env:List (List Int)} (hv:kX env) {l:List Int} (hl:l.length≤1000):kX ((kJ cat [] l).1::env):=by
  obtain ⟨a,b⟩:=aKj cat hc l [] (by simp)
  exact aXa (by simp only [WF] at b; omega) a hv
theorem bQt {B:Nat} {d:Int} {cat:aQ} (hc:rD cat) (env:List (List Int)) (hv:kX env) (hl:env.length≤1000) (types:List Int) (hty:types.length≤2)
    (H:∀ c ty env',kX env'→env'.length=env.length+1→okCur c→Yes (qE c cat env' ty d) (FZ B)) (c:aL) (h:okCur c):Yes (xO c cat env types d) (PZ B):=by
  have J4:∀ y1 (w:List aJ) n i o t b j g r,qL 1 B w→pN 2 n→qL 2 B i→qO 2 B o→t.length≤2→qK B r→okCur ⟨b,j,g⟩→Yes (X5 y1 w n i o t b j g r) (PZ B):=fun y1 w n i o t b j g r hw hn hi ho ht hr k=>by
    unfold X5 aEt
    refine Yes.bind (kG _ _ k) fun q k=>Yes.ite (fun _=>?_) fun _=>?_
    · exact Yes.bind (jW _ _ k) fun q ⟨_,_,k⟩=>Yes.some ⟨aPd ht ho hw hr hi hn,k⟩
    · exact Yes.some ⟨aPd ht ho hw hr hi hn,k⟩
  have J3:∀ env' y1 n i o t b j g (w:List aJ),kX env'→env'.length=env.length+1→qL 1 B w→pN 2 n→qL 2 B i→qO 2 B o→t.length≤2→okCur ⟨b,j,g⟩→Yes (I1 d env' cat y1 n i (o,t,b,j,g,w)) (PZ B):=fun env' y1 n i o t b j g w he hel hw hn hi ho ht k=>by
    rw [I1]
    refine Yes.bind (kG _ _ k) fun q k=>Yes.ite (fun _=>?_) fun _=>?_
    · refine Yes.bind (jW _ _ k) fun q ⟨_,_,k⟩=>Yes.bind (H _ _ _ he hel k) fun q ⟨hq,k⟩=>Yes.bind (kG _ _ k) fun q2 k=>Yes.bind (lH (by simp)) fun z hz=>?_
      subst hz
      exact J4 _ _ _ _ _ _ _ _ _ _ hw hn hi ho ht ⟨by simp,mem1 (p:=fun (k:cZ)=>bG k.expr≤B) hq⟩ k
    · exact J4 _ _ _ _ _ _ _ _ _ _ hw hn hi ho ht ⟨by simp,by simp⟩ k
  have L2:∀ env' y1 o t,kX env'→env'.length=env.length+1→qO 2 B o→t.length≤2→∀ x,x≤types.length→∀ b j g n i,pN x n→qL x B i→okCur ⟨b,j,g⟩→Yes (xL types d env' cat y1 o t ((x:Nat),b,j,g,n,i)) (PZ B):=by
    intro env' y1 o t he hel ho ht
    refine dZ ?_ ?_
    · intro b j g n i hn hi k
      rw [xL,if_neg (by simp)]
      have hn2:pN 2 n:=⟨by have:=hn.1; omega,hn.2⟩
      have hi2:qL 2 B i:=⟨by have:=hi.1; omega,hi.2⟩
      refine Yes.bind (kG _ _ k) fun q k=>Yes.ite (fun _=>?_) fun _=>?_
      · exact Yes.bind (H _ _ _ he hel k) fun q ⟨hq,k⟩=>J3 _ _ _ _ _ _ _ _ _ _ he hel ⟨by simp,mem1 hq⟩ hn2 hi2 ho ht k
      · exact J3 _ _ _ _ _ _ _ _ _ _ he hel ⟨by simp,by simp⟩ hn2 hi2 ho ht k
    · intro x hx ih b j g n i hn hi k
      rw [xL,if_pos (by simpa using hx)]
      have l1:=hn.1
      have l2:=hi.1
      simp only [bM hx,dI hx (by omega),QB,QA]
      refine Yes.bind (H _ _ _ he hel k) fun q ⟨hq,k⟩=>Yes.bind (lH (by simp; omega)) fun z hz=>Yes.bind (aCk _ _ (by decide) k) fun s ⟨hs,k⟩=>Yes.bind (lH (by simp; omega)) fun z2 hz2=>?_
      subst hz hz2
      have hs8:s.1.length≤8:=by
        have:∀ v∈([[97],[98],[99],[120],[121,32,122],[99,49]]:List (List UInt8)),v.length≤8:=by decide
        exact this _ hs
      exact ih _ _ _ _ _ ⟨by simp; omega,sV hn.2 hs8⟩ ⟨by simp; omega,sV hi.2 hq⟩ k
  have L0:∀ (y2:Int×aL) y1,0≤y2.1→y2.1<2→∀ (m:Nat) (x:Int) b j g o (t:List Int),2≤m+x→0≤x→x≤2→qO x B o→(t.length:Int)≤x→okCur ⟨b,j,g⟩→Yes (vG env types d y2 cat y1 (x,b,j,g,o,t)) (PZ B):=by
    intro y2 y1 y0 yl m
    have e0:QC .i64 (1+y2.1)=1+y2.1:=dR (by omega) (by omega)
    have fin:∀ (x:Int) b j g o (t:List Int),¬ x<1+y2.1→x≤2→qO x B o→(t.length:Int)≤x→okCur ⟨b,j,g⟩→Yes (vG env types d y2 cat y1 (x,b,j,g,o,t)) (PZ B):=by
      intro x b j g o t hx h2 ho ht k
      rw [vG]
      dsimp only
      rw [e0,if_neg (by simpa using hx),(aB2 cat hc t (by omega)).2]
      simp only [QB,QA]
      rw [(aEq _ env (by omega)).2]
      simp only [QA]
      exact L2 _ y1 o t (aOb hc hv (by omega)) (by simp) ⟨by have:=ho.1; omega,ho.2⟩ (by omega) 0 (by omega) _ _ _ _ _ ⟨by simp,by simp⟩ ⟨by simp,by simp⟩ k
    induction m with
    | zero=>intro x b j g o t h1 h2 h3 ho ht k; exact fin x b j g o t (by omega) h3 ho ht k
    | succ m ih =>
      intro x b j g o t h1 h2 h3 ho ht k
      by_cases hx:x<1+y2.1
      · rw [vG]
        dsimp only
        rw [e0,if_pos (by simpa using hx)]
        have l1:=ho.1
        have J1:∀ (q:Int) (w:List aJ) b j g,w.length≤1→(∀ y∈w,bG y≤B)→okCur ⟨b,j,g⟩→Yes (R8 env types d y2 x cat y1 (t++[q],o,b,j,g,w)) (PZ B):=fun q w b j g hw1 hw2 k=>by
          rw [R8]
          refine Yes.bind (lH (by simp; omega)) fun z hz=>?_
          subst hz
          rw [dR (by omega) (by omega)]
          exact ih _ _ _ _ _ _ (by omega) (by omega) (by omega) ⟨by simp; omega,sV ho.2 ⟨hw1,hw2⟩⟩ (by simp; omega) k
        refine Yes.bind (jW _ _ k) fun q ⟨q0,q1,k⟩=>Yes.bind (lH (by simp; omega)) fun z hz=>?_
        subst hz
        rw [(aB2 cat hc (t++[q.1]) (by simp; omega)).2]
        simp only [QB,QA]
        refine Yes.bind (aFn _ _ _ _ k) fun q2 k=>?_
        refine Yes.ite (fun _=>?_) fun _=>?_
        · rw [(aEq _ env (by omega)).2]
          simp only [QA]
          refine Yes.bind (H _ _ _ (aOb hc hv (by simp; omega)) (by simp) k) fun e ⟨he,k⟩=>Yes.bind (lH (by simp)) fun z hz=>?_
          subst hz
          exact J1 _ _ _ _ _ (by simp) (mem1 he) k
        · exact J1 _ _ _ _ _ (by simp) (by simp) k
      · exact fin x b j g o t hx h3 ho ht k
  rw [xO]
  refine Yes.bind (kG _ _ h) fun y1 k=>Yes.bind (jW _ _ k) fun y2 ⟨q0,q1,k⟩=>?_
  exact L0 y2 y1 q0 (q1 (by decide)) 2 0 _ _ _ _ _ (by omega) (by omega) (by omega) ⟨by simp,by simp⟩ (by simp) k
theorem A9 {B:Nat} {a b u t:Int} {q:Bool} {ks:List aJ} (hk:ks.length≤4∧∀ y∈ks,bG y≤B):bG (aJ.mk a b q ⟨0,0,[]⟩ u t ks [])≤60+11 * B:=by
  have v0:xG ⟨0,0,[]⟩=0:=by decide
  rw [aFg,v0]; have:=F4 (z:=bG) hk.1 hk.2; simp only [zL,WF,WY,XO] at this ⊢; omega
theorem bD7 {B:Nat} {a b u t:Int} {q:Bool} {ks:List aJ} {p:aP} (hk:ks.length≤1∧∀ y∈ks,bG y≤B) (hp:eF p≤40+8 * B):bG (aJ.mk a b q ⟨0,0,[]⟩ u t ks [p])≤60+11 * B:=by
  have v0:xG ⟨0,0,[]⟩=0:=by decide
  rw [aFg,v0]; have:=F4 (z:=bG) hk.1 hk.2; simp only [zL,WF,QY,QL,WY,WI,XO] at *; omega
theorem bS4 (B:Nat) (cat:aQ) (env:List (List Int)) (ty d:Int) (H:∀ c,okCur c→Yes (qE c cat env ty (QC .i64 (d - 1))) (FZ B)) (c:aL) (h:okCur c):Yes (nK c cat env ty d 1) (KZ B 1):=by
  rw [nK,xI,if_pos (by simp)]
  refine Yes.bind (H _ h) fun r ⟨hz,hr⟩=>Yes.bind (lH (by simp)) fun y hy=>?_
  subst hy
  rw [xI,if_neg (by decide)]
  exact Yes.some ⟨⟨by simp,by simpa using hz⟩,hr⟩
theorem bDl (c:aL) (env:List (List Int)) (hv:kX env) (hl:env.length≤4194304) (ty:Int) (h:okCur c) (B:Nat) (hB:10≤B):Yes ((iB c 3)>>=fun (y3:Bool×aL)=>if y3.1=true then ((aC3 y3.2 ty)>>=fun (y4:aA×aL)=>some ((aJ.mk 1 0 false y4.1 0 0 ([]:List aJ) ([]:List aP)),y4.2)) else ((aEk y3.2 env ty)>>=fun (y5:aJ×aL)=>some (y5.1,y5.2))) (FZ B):=by
  refine Yes.bind (kG _ _ h) fun r k=>Yes.ite (fun _=>?_) fun _=>?_
  · refine Yes.bind (bEc _ _ k) fun r ⟨h1,k⟩=>Yes.some ⟨?_,k⟩
    dsimp only
    have:=zV h1.1 h1.2
    rw [aFg]; simp [zL]; omega
  · exact Yes.bind (bQ1 _ env hv hl ty k) fun r ⟨h1,k⟩=>Yes.some ⟨by show bG r.1≤B; omega,k⟩
theorem bZq {cat:aQ} (hc:rD cat):∀ (n:Nat) (d:Int) (c:aL) (ty:Int) (env:List (List Int)),-100≤d→d≤n→n≤4→kX env→env.length+n≤1000→okCur c→Yes (qE c cat env ty d) (FZ (Zb n)):=by
  intro n
  induction n with
  | zero =>
    intro d c ty env hd0 hd _ hv hl h
    rw [qE]
    refine Yes.bind (aFn _ _ _ _ h) fun r k=>Yes.bind (Q:=fun q=>q=true) ⟨_,rfl,by rw [if_pos (by simpa using hd)]⟩ fun q hq=>?_
    rw [if_pos hq]
    exact bDl _ env hv (by omega) ty k _ (XB _)
  | succ n ih =>
    intro d c ty env hd0 hd hn hv hl h
    have hB:Zb (n+1)=60+11 * Zb n:=rfl
    rw [qE]
    refine Yes.bind (aFn _ _ _ _ h) fun r k=>Yes.bind (Q:=fun q=>q=true∨0<d) ⟨_,rfl,?_⟩ fun q hq=>Yes.ite (fun _=>bDl _ env hv (by omega) ty k _ (bLd _)) fun hq2=>?_
    · by_cases h0:d≤0
      · exact .inl (by rw [if_pos (by simpa using h0)])
      · exact .inr (by omega)
    have h0:0<d:=hq.resolve_left hq2
    rw [hB]
    have e1:QC .i64 (d - 1)=d - 1:=dR (by omega) (by omega)
    have K:∀ m c ty,m≤4→okCur c→Yes (nK c cat env ty d m) (KZ (Zb n) 4):=fun m c ty hm k=>cA1 (Zb n) cat env ty d m hm (fun c k=>by rw [e1]; exact ih _ c ty env (by omega) (by omega) (by omega) hv (by omega) k) c k
    have K1:∀ c ty,okCur c→Yes (nK c cat env ty d 1) (KZ (Zb n) 1):=fun c ty k=>bS4 (Zb n) cat env ty d (fun c k=>by rw [e1]; exact ih _ c ty env (by omega) (by omega) (by omega) hv (by omega) k) c k
    have P2:∀ c (t:Int),1<d→okCur c→Yes (xO c cat env [t] (QC .i64 (d - 2))) (PZ (Zb n)):=fun c t h2 k=>by
      rw [dR (n:=d - 2) (by omega) (by omega)]
      exact bQt hc env hv (by omega) [t] (by simp) (fun c ty env' he hel k=>ih _ c ty env' (by omega) (by omega) (by omega) he (by omega) k) c k
    have J1:∀ (y1 y3:Int×aL),okCur y3.2→Yes (aAn env d y1 cat y3) (FZ (60+11 * Zb n)):=fun y1 y3 k=>by
      rw [aAn]
      exact Yes.bind (jW _ _ k) fun r ⟨_,_,k⟩=>Yes.bind (K 2 _ _ (by omega) k) fun r2 ⟨hk,k⟩=>Yes.some ⟨A9 hk,k⟩
    have J0:∀ (y1:Int×aL) (y2:Bool×aL) (y3:Int×aL) x,okCur y3.2→Yes (aE4 env d y1 y2 y3 cat x) (FZ (60+11 * Zb n)):=fun y1 y2 y3 x k=>by
      rw [aE4]
      refine Yes.ite (fun _=>?_) fun _=>Yes.ite (fun _=>?_) fun _=>Yes.ite (fun _=>?_) fun _=>Yes.ite (fun _=>?_) fun _=>Yes.ite (fun _=>?_) fun _=>Yes.ite (fun _=>?_) fun _=>Yes.ite (fun _=>?_) fun _=>J1 _ _ k
      · exact Yes.bind (jW _ _ k) fun r ⟨_,_,k⟩=>Yes.bind (K 2 _ _ (by omega) k) fun r2 ⟨hk,k⟩=>Yes.some ⟨A9 hk,k⟩
      · exact Yes.bind (K 1 _ _ (by omega) k) fun r2 ⟨hk,k⟩=>Yes.some ⟨A9 hk,k⟩
      · exact Yes.bind (K 1 _ _ (by omega) k) fun r2 ⟨hk,k⟩=>Yes.some ⟨A9 hk,k⟩
      · exact Yes.bind (K 3 _ _ (by omega) k) fun r2 ⟨hk,k⟩=>Yes.some ⟨A9 hk,k⟩
      · refine Yes.bind (jW _ _ k) fun r ⟨r0,r1,k⟩=>?_
        have:=r1 (by decide)
        exact Yes.bind (K _ _ _ (by rw [dR (by omega) (by omega)]; omega) k) fun r2 ⟨hk,k⟩=>Yes.some ⟨A9 hk,k⟩
      · refine Yes.ite (fun h2=>?_) fun _=>J1 _ _ k
        exact Yes.bind (K1 _ _ k) fun r2 ⟨hk,k⟩=>Yes.bind (P2 _ _ (by simpa using h2) k) fun r3 ⟨hp,k⟩=>Yes.some ⟨bD7 hk hp,k⟩
      · refine Yes.ite (fun h2=>?_) fun _=>J1 _ _ k
        exact Yes.bind (P2 _ _ (by simpa using h2) k) fun r3 ⟨hp,k⟩=>Yes.some ⟨bD7 ⟨by simp,by simp⟩ hp,k⟩
    refine Yes.ite (fun _=>?_) fun _=>Yes.ite (fun _=>?_) fun _=>?_
    · refine Yes.bind (kG _ _ k) fun r k=>Yes.ite (fun _=>?_) fun _=>?_
      · exact Yes.bind (K 1 _ _ (by omega) k) fun r2 ⟨hk,k⟩=>Yes.some ⟨A9 hk,k⟩
      · exact Yes.bind (jW _ _ k) fun r ⟨_,_,k⟩=>Yes.bind (K 2 _ _ (by omega) k) fun r2 ⟨hk,k⟩=>Yes.some ⟨A9 hk,k⟩
    · exact Yes.bind (K 2 _ _ (by omega) k) fun r2 ⟨hk,k⟩=>Yes.some ⟨A9 hk,k⟩
    · refine Yes.bind (Q:=FZ (60+11 * Zb n)) ?_ fun r hr=>Yes.some hr
      rw [aOr]
      exact Yes.bind (jW _ _ k) fun y1 ⟨_,_,k⟩=>Yes.bind (kG _ _ k) fun y2 k=>Yes.bind (jW _ _ k) fun y3 ⟨_,_,k⟩=>Yes.ite (fun _=>J0 _ _ _ _ k) fun _=>J0 _ _ _ _ k
def CR (c:aQ):Prop:=(1≤c.tables.length∧c.tables.length≤3)∧∀ t∈c.tables,(1≤t.cols.length∧t.cols.length≤3)∧∀ x∈qB t,okT x
theorem CR.cat {c:aQ} (h:CR c):rD c:=⟨by have:=h.1; omega,fun t ht=>⟨by have:=(h.2 t ht).1; omega,(h.2 t ht).2⟩⟩
def okCR (r:aQ×aL):Prop:=CR r.1∧okCur r.2
theorem bQl (n s:List UInt8):wW ⟨n,[]⟩ s=some (-1):=by unfold wW; rw [yY]; simp
theorem bBh {i:Nat} (h:i≤1000):QC .i64 ((i:Int)+1)=((i+1:Nat):Int):=by rw [dR (by omega) (by omega)]; omega
theorem bO5 (y1:Int×aL) (h0:0≤y1.1) (h3:y1.1<3):∀ (k i:Nat) b j h (T:List eD),3≤k+i→i≤3→T.length=i→(∀ t∈T,(1≤t.cols.length∧t.cols.length≤3)∧∀ x∈qB t,okT x)→okCur ⟨b,j,h⟩→Yes (Y6 y1 i T b j h) okCR:=by
  intro k
  induction k with
  | zero =>
    intro i b j h T h1 h2 hT hC hc
    rw [Y6,if_neg (by rw [decide_eq_true_eq,dR (by omega) (by omega)]; omega)]
    exact Yes.some ⟨⟨⟨by dsimp only; omega,by dsimp only; omega⟩,hC⟩,hc⟩
  | succ k ih =>
    intro i b j h T h1 h2 hT hC hc
    rw [Y6]
    by_cases hi:(i:Int)<QC .i64 (1+y1.1)
    case neg =>
      rw [if_neg (by rw [decide_eq_true_eq]; exact hi)]
      rw [dR (by omega) (by omega)] at hi
      exact Yes.some ⟨⟨⟨by dsimp only; omega,by dsimp only; omega⟩,hC⟩,hc⟩
    rw [if_pos (decide_eq_true hi)]
    rw [dR (by omega) (by omega)] at hi
    have hi3:i<([[116],[117],[118]]:List (List UInt8)).length:=by show i<3; omega
    rw [bM hi3]
    simp only [QB,QA]
    refine Yes.bind (jW _ _ hc) fun y3 ⟨k0,k1,hc3⟩=>?_
    have k1:=k1 (by omega)
    generalize ([[116],[117],[118]]:List (List UInt8))[i]=y2
    have fin:∀ b j h (C:List gG),(1≤C.length∧C.length≤3)→(∀ x∈C.map gG.type,okT x)→okCur ⟨b,j,h⟩→Yes (appG 40 T ([(eD.mk y2 C)]:List eD)>>=fun y14=>Y6 y1 (QC .i64 ((i:Int)+1)) y14 b j h) okCR:=by
      intro b j h C hl ht hc
      refine Yes.bind (lH (by simp; omega)) fun y e=>?_
      subst e
      rw [bBh (by omega)]
      exact ih (i+1) _ _ _ _ (by omega) (by omega) (by simp; omega) (sV hC ⟨hl,ht⟩) hc
    have inner:∀ (m x:Nat) b j h (C:List gG),3≤m+x→x≤3→C.length≤x→(1≤x→1≤C.length)→(∀ x∈C.map gG.type,okT x)→okCur ⟨b,j,h⟩→Yes (aBc y1 i y3 T y2 x (C,b,j,h)) okCR:=by
      intro m
      induction m with
      | zero =>
        intro x b j h C m1 m2 hl hl1 ht hc
        rw [aBc,if_neg (by rw [decide_eq_true_eq,dR (by omega) (by omega)]; omega)]
        exact fin b j h C ⟨hl1 (by omega),by omega⟩ ht hc
      | succ m ihm =>
        intro x b j h C m1 m2 hl hl1 ht hc
        rw [aBc]
        by_cases hx:(x:Int)<QC .i64 (1+y3.1)
        case neg =>
          rw [if_neg (by rw [decide_eq_true_eq]; exact hx)]
          rw [dR (by omega) (by omega)] at hx
          exact fin b j h C ⟨hl1 (by omega),by omega⟩ ht hc
        rw [if_pos (decide_eq_true hx)]
        rw [dR (by omega) (by omega)] at hx
        have J3:∀ b j h (C:List gG),C.length≤x+1→1≤C.length→(∀ x∈C.map gG.type,okT x)→okCur ⟨b,j,h⟩→Yes (aBj y1 i y3 x T y2 (b,j,h,C)) okCR:=by
          intro b j h C hl hl1 ht hc
          rw [aBj,bBh (by omega)]
          exact ihm (x+1) _ _ _ _ (by omega) (by omega) hl (fun _=>hl1) ht hc
        have J2:∀ (y8:Int×aL) (nm:List UInt8) b j h,okT y8.1→okCur ⟨b,j,h⟩→Yes (aEd y1 i y3 x T y2 C (y8,nm,b,j,h)) okCR:=by
          intro y8 nm b j h h8 hc
          rw [aEd]
          obtain ⟨_,r,hr⟩:=aYw ⟨y2,C⟩ nm (by dsimp only; omega)
          rw [hr]
          simp only [QB,QA]
          refine Yes.ite (fun _=>?_) fun hn=>?_
          · refine Yes.bind (lH (by simp; omega)) fun y e=>?_
            subst e
            refine J3 _ _ _ _ (by simp; omega) (by simp) ?_ hc
            rw [XD]
            exact sV ht h8
          · refine J3 _ _ _ _ (by omega) ?_ ht hc
            cases C with
            | cons _ _=>simp
            | nil =>
              rw [bQl] at hr
              simp only [QH] at hr
              subst hr
              simp at hn
        refine Yes.bind (bWy _ _ (by decide) hc) fun y7 hc=>?_
        obtain ⟨v,c',e,hv,hc⟩:=aYx y7.2 [1,1,2,3] (by decide) hc
        have h8:okT v:=by
          have:∀ v∈([1,1,2,3]:List Int),0≤v∧v≤3:=by decide
          exact this v hv
        rw [e]
        simp only [QB,QA]
        refine Yes.bind (kG _ _ hc) fun y9 hc=>?_
        refine Yes.ite (fun _=>?_) fun _=>J2 _ _ _ _ _ h8 hc
        exact Yes.bind (cAn _ hc) fun y10 ⟨_,hc⟩=>J2 _ _ _ _ _ h8 hc
    exact inner 3 0 _ _ _ _ (by omega) (by omega) (by simp) (by omega) (by simp) hc3
theorem bMo (c:aL) (h:okCur c):Yes (aGe c) okCR:=by
  unfold aGe
  refine Yes.bind (jW _ _ h) fun y1 ⟨k0,k1,hc⟩=>?_
  exact bO5 y1 k0 (k1 (by omega)) 3 0 _ _ _ _ (by omega) (by omega) rfl (by simp) hc
theorem aA9 (b:Bool):qC b=qR b:=by
  cases b <;> rfl
theorem wO (b:Bool):qR b=some ⟨3,if b then 1 else 0,[]⟩:=by
  cases b <;> rfl
theorem aNd (x:aA):pX x=kY x:=by
  unfold pX kY fE
  simp only [QB,QA]
  split
  · rfl
  split
  · rfl
  split
  · rfl
  split
  · congr 1
    have:(if (decide (x.num=0))=true then true else (decide (x.num=1)))=(if (decide (0≤x.num))=true then (decide (x.num≤1)) else false):=by
      simp only [decide_eq_true_eq,Bool.if_true_left,Bool.if_false_right,Bool.decide_eq_true]
      by_cases h0:x.num=0
      · simp [h0]
      · by_cases h1:x.num=1
        · simp [h1]
        · simp [h0,h1]; omega
    rw [this]
  · rfl
theorem bR7 (a b c:Int):aIs [a,b,c]=some (if a≠0 then a else if b≠0 then b else c):=by
  have w1:QC .i64 (0+1)=1:=by decide
  have w2:QC .i64 (1+1)=2:=by decide
  have w3:QC .i64 (2+1)=3:=by decide
  unfold aIs
  rw [yK]
  rw [w1,yK]
  rw [w2,yK]
  rw [w3,yK]
  simp only [idx]
  by_cases ha:a=0 <;> by_cases hb:b=0 <;> by_cases hc:c=0 <;> simp [ha,hb,hc]
theorem bSd (a b:Int):aEs a b=some (if a<b then -1 else if b<a then 1 else 0):=by
  unfold aEs aGz
  simp only [QB,QA,decide_true,QF,QD,if_false,decide_eq_true_eq]
  split
  · rfl
  · split <;> rfl
theorem bQm (a b:List UInt8):aIm a b=some (if Op.bytesLess a b=true then -1 else if (!(Op.bytesLess a b||decide (a=b)))=true then 1 else 0):=by
  unfold aIm aIq
  simp only [QB,QA,decide_true,QF,QD,if_false]
  split
  · rfl
  · split <;> rfl
theorem aVo (x y:aA):aFp x y=vO x y:=by
  unfold aFp vO
  simp only [QB,bSd,bQm,bR7,QA,decide_eq_true_eq]
  by_cases h1:x.kind<y.kind
  · simp [h1]
  by_cases h2:y.kind<x.kind
  · simp [h1,h2]
  by_cases h3:x.num<y.num
  · simp [h1,h2,h3]
  by_cases h4:y.num<x.num
  · simp [h1,h2,h3,h4]
  simp only [h1,h2,h3,h4,if_false,ne_eq,not_true_eq_false]
  split
  · rfl
  · split <;> rfl
theorem cAg (k:Int) (hk:k≤8) (x:aA):O0 k x=some true:=by
  unfold O0
  simp [hk]
theorem aEn (x:aA):vD x=some (decide (x.kind=0)):=rfl
theorem aZ1 (x:aA) (k:Int):vF x k=some (decide (x.kind=k)||decide (x.kind=0)):=by
  unfold vF
  simp only [aEn]
  by_cases h:x.kind=k <;> simp [h]
theorem aUv (x:aA):∃ b,kY x=some b:=by
  rw [← aNd]
  unfold pX
  repeat (split; exact ⟨_,rfl⟩)
  exact ⟨_,rfl⟩
theorem bH9 (x y:aA):∃ b,vO x y=some b:=by
  unfold vO
  repeat (split; exact ⟨_,rfl⟩)
  exact ⟨_,rfl⟩
def gvE (x u:aA):Bool:=(decide (x.kind=u.kind))&&((decide (x.num=u.num))&&((decide (x.text=u.text))&&true))
theorem bHt (x u:aA):((decide (x.kind=u.kind))&&((decide (x.num=u.num))&&((decide (x.text=u.text))&&true)))=gvE x u:=by rw [gvE]
def G7 (k:Int) (x y:aA):aA×Int :=
  if (x.kind=3∨x.kind=0)∧(y.kind=3∨y.kind=0) then
    if gvE x ⟨3,if decide (k=1) then 1 else 0,[]⟩||gvE y ⟨3,if decide (k=1) then 1 else 0,[]⟩ then (⟨3,if decide (k=1) then 1 else 0,[]⟩,0) else if x.kind=0∨y.kind=0 then (⟨0,0,[]⟩,0) else (⟨3,if decide (k=2) then 1 else 0,[]⟩,0)
  else (⟨0,0,[]⟩,1)
theorem bCn (k:Int) (x y:aA):aHo k x y=some (G7 k x y):=by
  unfold aHo G7
  simp only [aZ1,aEn,wO,QB,QA,bHt]
  have n1:∀ u,gvE x u=false∨gvE x u=true:=fun u=>by cases gvE x u <;> simp
  have n2:∀ u,gvE y u=false∨gvE y u=true:=fun u=>by cases gvE y u <;> simp
  rcases n1 ⟨3,if decide (k=1)=true then 1 else 0,[]⟩ with e1 | e1 <;> rcases n2 ⟨3,if decide (k=1)=true then 1 else 0,[]⟩ with e2 | e2 <;> rw [e1,e2] <;> clear n1 n2 e1 e2
  all_goals
    by_cases a:x.kind=3 <;> by_cases b:x.kind=0 <;> by_cases c:y.kind=3 <;> by_cases d:y.kind=0 <;> simp_all
theorem bC7 (k:Int) (x y:aA):aHs k x y=some (G7 k x y):=by
  have w1:QC .i64 (0+1)=1:=by decide
  have w2:QC .i64 (1+1)=2:=by decide
  unfold aHs G7
  rw [P8,w1,P8,w2,P8]
  simp only [aA9,wO,QB,QA,bHt,idx]
  have n1:∀ u,gvE x u=false∨gvE x u=true:=fun u=>by cases gvE x u <;> simp
  have n2:∀ u,gvE y u=false∨gvE y u=true:=fun u=>by cases gvE y u <;> simp
  rcases n1 ⟨3,if decide (k=1)=true then 1 else 0,[]⟩ with e1 | e1 <;> rcases n2 ⟨3,if decide (k=1)=true then 1 else 0,[]⟩ with e2 | e2 <;> rw [e1,e2] <;> clear n1 n2 e1 e2
  all_goals
    by_cases a:x.kind=3 <;> by_cases b:x.kind=0 <;> by_cases c:y.kind=3 <;> by_cases d:y.kind=0 <;> simp_all
def aJ8 (k o:Int):Bool:=if k=3 then decide (o=0) else if k=6 then decide (o≤0) else decide (0≤o)
theorem bSm (k:Int) (hk:k=3∨k=6∨k=8) (x y:aA) (o:Int) (ho:vO x y=some o):aBw k x y=some ⟨3,if aJ8 k o then 1 else 0,[]⟩:=by
  unfold aBw
  rw [aVo,ho]
  rcases hk with rfl | rfl | rfl <;> simp [aA9,wO,aJ8]
theorem bR6 (k:Int) (hk:k=3∨k=6∨k=8) (o:Int):aAa k o=some (aJ8 k o):=by
  unfold aAa
  rcases hk with rfl | rfl | rfl <;> simp [aJ8]
def tri (v:aA):Prop:=v=⟨0,0,[]⟩∨v=⟨3,0,[]⟩∨v=⟨3,1,[]⟩
theorem aG1 (b:Bool):tri ⟨3,if b then 1 else 0,[]⟩:=by cases b <;> simp [tri]
theorem cAp (k:Int) (hk:k=3∨k=6∨k=8) (x y:aA):∃ r,qV k x y=some r∧sG k x y=some r∧(r.2=0→tri r.1):=by
  obtain ⟨a,ha⟩:=aUv x
  obtain ⟨b,hb⟩:=aUv y
  obtain ⟨o,ho⟩:=bH9 x y
  have hk8:k≤8:=by omega
  have h1:¬ k<1:=by omega
  have h14:¬ 14<k:=by omega
  have h2:¬ k≤2:=by omega
  have h9:k≠9:=by omega
  have h10:k≠10:=by omega
  have h11:k≠11:=by omega
  have h12:k≠12:=by omega
  have h13:k≠13:=by omega
  have h14':k≠14:=by omega
  have h10':¬ 10≤k:=by omega
  have g1:1≤k:=by omega
  have g14:k≤14:=by omega
  unfold qV sG aEy fE aFm
  simp only [aNd,ha,hb,ho,aEn,cAg k hk8,bSm k hk x y o ho,bR6 k hk,wO,QB,QA,h1,h14,h2,h9,h10,h11,h12,h13,h14',h10',g1,g14,hk8]
  have hb:=aG1 (aJ8 k o)
  have ht:tri ⟨0,0,[]⟩:=.inl rfl
  by_cases e:x.kind=y.kind <;> by_cases c:x.kind=0 <;> by_cases d:y.kind=0 <;> cases a <;> cases b <;> simp_all
theorem bIt {x:aA} (h:tri x):kY x=some true:=by rcases h with rfl | rfl | rfl <;> decide
theorem bMf (x y:aA) (hx:tri x) (hy:tri y):∃ r,qV 1 x y=some r∧sG 1 x y=some r∧r.2=0∧tri r.1:=by
  unfold qV sG fE
  simp only [aNd,bIt hx,bIt hy,bCn,bC7,QB,QA]
  refine ⟨G7 1 x y,by simp,by simp,?_⟩
  rcases hx with rfl | rfl | rfl <;> rcases hy with rfl | rfl | rfl <;> simp [G7,gvE,tri]
abbrev i0:Int := -9223372036854775808
abbrev i1:Int:=9223372036854775807
def v0:aA:=⟨0,0,[]⟩
def vBl (b:Bool):aA:=⟨3,if b then 1 else 0,[]⟩
theorem bAh (m:Int):∃ k:Int,QC .i64 m=m - k * 18446744073709551616∧i0≤QC .i64 m∧QC .i64 m≤i1:=by
  rw [XZ]
  exact ⟨(m+9223372036854775808) / 18446744073709551616,by omega,by simp only [i0]; omega,by simp only [i1]; omega⟩
theorem bIm {a b:Int} (hb:2≤b∨b ≤ -2) (ha:okI a) : -4611686018427387904≤a.tdiv b∧a.tdiv b≤4611686018427387904:=by
  have h:(a.tdiv b).natAbs=a.natAbs / b.natAbs:=Int.natAbs_tdiv a b
  have h2:a.natAbs / b.natAbs≤a.natAbs / 2:=Nat.div_le_div_left (by omega) (by omega)
  have h3:=ha.1
  have h4:=ha.2
  omega
theorem bCo {a b:Int} (ha:okI a) (hb:okI b) (h0:b≠0):(QC .i64 ((QC .i64 (a * b)).tdiv b)=a∧¬ (b = -1∧a=i0))↔okI (a * b):=by
  have a1:=ha.1
  have a2:=ha.2
  have b1:=hb.1
  have b2:=hb.2
  constructor
  · rintro ⟨h,hn⟩
    obtain ⟨k,hk,k1,k2⟩:=bAh (a * b)
    by_cases h2:2≤b∨b ≤ -2
    · have hs:=bIm h2 (a:=QC .i64 (a * b)) ⟨k1,k2⟩
      rw [dR (by omega) (by omega)] at h
      have e:=Int.mul_tdiv_add_tmod (QC .i64 (a * b)) b
      rw [h,XR b a] at e
      have l1:=XS (QC .i64 (a * b)) b
      have l2:(QC .i64 (a * b)).natAbs % b.natAbs<b.natAbs:=Nat.mod_lt _ (by omega)
      have:k=0:=by omega
      subst this
      have e3:a * b=QC .i64 (a * b):=by omega
      rw [e3]; exact ⟨k1,k2⟩
    · have:b=1∨b = -1:=by omega
      rcases this with rfl | rfl
      · rw [Int.mul_one]; exact ha
      · have:a≠i0:=fun e=>hn ⟨rfl,e⟩
        simp only [i0] at this
        constructor <;> omega
  · intro hm
    rw [dR hm.1 hm.2,Int.mul_tdiv_cancel _ h0,dR ha.1 ha.2]
    refine ⟨rfl,?_⟩
    rintro ⟨rfl,rfl⟩
    have:=hm.2
    simp only [i0] at this
    omega
theorem okI_w {m:Int}:okI (QC .i64 m):=by obtain ⟨_,_,h⟩:=bAh m; exact h
def oO (n:Int):Int×Bool:=if okI n then (n,true) else (0,false)
theorem addN {a b:Int} (ha:okI a) (hb:okI b):aD7 a b=some (oO (a+b)):=by
  have a1:=ha.1
  have a2:=ha.2
  have b1:=hb.1
  have b2:=hb.2
  unfold aD7 oO
  simp only [QB,QA,orB,uI,decide_eq_true_eq]
  by_cases h0:0<b
  · have e:¬ b<0:=by omega
    rw [dR (n:=9223372036854775807 - b) (by omega) (by omega)]
    by_cases h1:9223372036854775807 - b<a
    · rw [if_neg (fun h:okI _=>by have:=h.2; omega)]; simp [h0,h1]
    · rw [if_pos (show okI (a+b) from ⟨by omega,by omega⟩),dR (n:=a+b) (by omega) (by omega)]; simp [h0,h1,e]
  · by_cases h2:b<0
    · rw [dR (n := -9223372036854775808 - b) (by omega) (by omega)]
      by_cases h1:a < -9223372036854775808 - b
      · rw [if_neg (fun h:okI _=>by have:=h.1; omega)]; simp [h0,h1,h2]
      · rw [if_pos (show okI (a+b) from ⟨by omega,by omega⟩),dR (n:=a+b) (by omega) (by omega)]; simp [h0,h1,h2]
    · rw [if_pos (show okI (a+b) from ⟨by omega,by omega⟩),dR (n:=a+b) (by omega) (by omega)]; simp [h0,h2]
theorem aN3 {a b:Int} (ha:okI a) (hb:okI b):aEz a b=some (oO (a - b)):=by
  have a1:=ha.1
  have a2:=ha.2
  have b1:=hb.1
  have b2:=hb.2
  unfold aEz oO
  simp only [QB,QA,orB,uI,decide_eq_true_eq]
  by_cases h0:b<0
  · have e:¬ 0<b:=by omega
    rw [dR (n:=9223372036854775807+b) (by omega) (by omega)]
    by_cases h1:9223372036854775807+b<a
    · rw [if_neg (fun h:okI _=>by have:=h.2; omega)]; simp [h0,h1]
    · rw [if_pos (show okI (a - b) from ⟨by omega,by omega⟩),dR (n:=a - b) (by omega) (by omega)]; simp [h0,h1,e]
  · by_cases h2:0<b
    · rw [dR (n := -9223372036854775808+b) (by omega) (by omega)]
      by_cases h1:a < -9223372036854775808+b
      · rw [if_neg (fun h:okI _=>by have:=h.1; omega)]; simp [h0,h1,h2]
      · rw [if_pos (show okI (a - b) from ⟨by omega,by omega⟩),dR (n:=a - b) (by omega) (by omega)]; simp [h0,h1,h2]
    · rw [if_pos (show okI (a - b) from ⟨by omega,by omega⟩),dR (n:=a - b) (by omega) (by omega)]; simp [h0,h2]
theorem bMg (a b:Int):aOh a b=aD7 a b:=rfl
theorem aWa (a b:Int):aDe a b=aEz a b:=rfl
theorem bL6 {a b:Int} (ha:okI a) (hb:okI b):aH0 a b=some (oO (a * b)):=by
  unfold aH0 oO xW
  by_cases h0:a=0
  · subst h0
    have o:okI 0:=⟨by decide,by decide⟩
    simp [o]; decide
  · have k:=bCo hb ha h0
    rw [XR b a] at k
    have g:QC .i64 ((QC .i64 (a * b)).tdiv a)=b∨¬ QC .i64 ((QC .i64 (a * b)).tdiv a)=b:=Classical.em _
    have w:okI (a * b)→QC .i64 (a * b)=a * b:=fun h=>dR h.1 h.2
    generalize QC .i64 ((QC .i64 (a * b)).tdiv a)=q at k g
    by_cases m1:a = -1 <;> by_cases m2:b = -9223372036854775808 <;> rcases g with g | g <;> by_cases o:okI (a * b) <;> simp_all [i0]
theorem bJ3 {a b:Int} (ha:okI a) (hb:okI b):aK9 a b=some (oO (a * b)):=by
  unfold aK9 oO xW
  by_cases h0:a=0
  · subst h0
    have o:okI 0:=⟨by decide,by decide⟩
    simp [o]
  by_cases h1:b=0
  · subst h1
    have o:okI 0:=⟨by decide,by decide⟩
    simp [o]
  have k:=bCo ha hb h1
  have g:QC .i64 ((QC .i64 (a * b)).tdiv b)=a∨¬ QC .i64 ((QC .i64 (a * b)).tdiv b)=a:=Classical.em _
  have w:okI (a * b)→QC .i64 (a * b)=a * b:=fun h=>dR h.1 h.2
  have z:a = -1→b = -9223372036854775808→¬ okI (a * b):=by rintro rfl rfl h; have:=h.2; omega
  generalize QC .i64 ((QC .i64 (a * b)).tdiv b)=q at k g
  by_cases m1:a = -1 <;> by_cases m2:b = -9223372036854775808 <;> by_cases m3:b = -1 <;> by_cases m4:a = -9223372036854775808 <;> rcases g with g | g <;> by_cases o:okI (a * b) <;> simp_all [i0]
def yX (r:Int×Bool):aA×Int:=if r.2=true then (⟨1,r.1,[]⟩,0) else (⟨0,0,[]⟩,2)
def arP (op a b:Int):aA×Int :=
  if op=10 then yX (oO (a+b)) else if op=11 then yX (oO (a - b)) else if op=12 then yX (oO (a * b)) else
    if b=0 then (⟨0,0,[]⟩,3) else if op=14 then (⟨1,a.tmod b,[]⟩,0) else if a = -9223372036854775808∧b = -1 then (⟨0,0,[]⟩,2) else (⟨1,a.tdiv b,[]⟩,0)
theorem aT3 {a b:Int} (ha:okI a) (hb:b≠0) (h:¬ (a = -9223372036854775808∧b = -1)):okI (a.tdiv b):=by
  have a1:=ha.1
  have a2:=ha.2
  by_cases h2:2≤b∨b ≤ -2
  · have:=bIm h2 ha
    exact ⟨by omega,by omega⟩
  · have:b=1∨b = -1:=by omega
    rcases this with rfl | rfl
    · rw [XH]; exact ha
    · rw [XT,XH]
      have:a ≠ -9223372036854775808:=fun e=>h ⟨e,rfl⟩
      exact ⟨by omega,by omega⟩
theorem arI {op a b:Int} (ha:okI a) (hb:okI b):aEi op a b=some (arP op a b):=by
  unfold aEi arP aDr
  simp only [addN ha hb,aN3 ha hb,bL6 ha hb,QB,QA,decide_eq_true_eq]
  have n:∀ r:Int×Bool,(if (!r.2)=true then some ((⟨0,0,[]⟩:aA),(2:Int)) else (X0 r.1).bind fun y5=>some (y5,0))=some (yX r):=by
    rintro ⟨r,b⟩
    cases b <;> simp [yX,X0]
  by_cases h1:op=10
  · rw [if_pos h1,if_pos h1,n]
  by_cases h2:op=11
  · rw [if_neg h1,if_pos h2,if_neg h1,if_pos h2,n]
  by_cases h3:op=12
  · rw [if_neg h1,if_neg h2,if_pos h3,if_neg h1,if_neg h2,if_pos h3,n]
  rw [if_neg h1,if_neg h2,if_neg h3,if_neg h1,if_neg h2,if_neg h3]
  unfold aP6 xW xY X0
  by_cases b0:b=0
  · simp [b0]
  by_cases h4:op=14
  · simp [b0,h4]
  by_cases h5:a = -9223372036854775808∧b = -1
  · obtain ⟨rfl,rfl⟩:=h5
    simp [h4]
  · have w:=aT3 ha b0 h5
    rw [dR w.1 w.2]
    by_cases h6:a = -9223372036854775808
    · have:b ≠ -1:=fun e=>h5 ⟨h6,e⟩
      simp [b0,h4,h6,this]
    · simp [b0,h4,h6]
theorem bDq {op a b:Int} (ho:op=13∨op=14) (ha:okI a) (hb:okI b):aIk op a b=some (arP op a b):=by
  have h1:¬ op=10:=by omega
  have h2:¬ op=11:=by omega
  have h3:¬ op=12:=by omega
  unfold arP aIk
  rw [if_neg h1,if_neg h2,if_neg h3]
  unfold xW xY
  rw [aWa,aN3 ⟨by decide,by decide⟩ ha]
  unfold yJ wR
  by_cases b0:b=0
  · simp [b0]
  by_cases b1:b = -1
  · subst b1
    by_cases h4:op=14
    · have:a.tmod (-1)=0:=by rw [Int.tmod_neg,Int.tmod_one]
      simp [h4,this]
    · have e:a.tdiv (-1)=0 - a:=by rw [XT,XH]; omega
      rw [e]
      have h13:op=13:=by omega
      have a1:=ha.1
      have a2:=ha.2
      by_cases h5:a = -9223372036854775808
      · subst h5
        have t2:oO (0 - -9223372036854775808)=(0,false):=by decide
        simp only [t2]
        simp [h4]
      · have:okI (0 - a):=⟨by omega,by omega⟩
        have t2:oO (0 - a)=(0 - a,true):=if_pos this
        simp only [t2]
        simp [h4,h5]
  · have h5:¬ (a = -9223372036854775808∧b = -1):=fun h=>b1 h.2
    have w:=aT3 ha b0 h5
    rw [dR w.1 w.2]
    rcases ho with rfl | rfl <;> simp [b0,b1]
def rU (x:aA):Bool:=(kY x).getD false
theorem aHe (x:aA):kY x=some (rU x):=by
  obtain ⟨b,hb⟩:=aUv x
  unfold rU; rw [hb]; rfl
theorem bDi (x:aA):pX x=some (rU x):=by rw [aNd,aHe]
theorem aOw {x:aA} (h:rU x=true):x.text.length≤200:=by
  have h2:=aHe x
  rw [h] at h2
  unfold kY at h2
  simp only [QB,QA,uI] at h2
  split at h2
  · simp only [QH,QK,decide_eq_true_eq] at h2; rw [h2.2]; simp
  · split at h2
    · simp only [QH,decide_eq_true_eq] at h2; rw [h2]; simp
    · split at h2
      · simp only [QH,QK,decide_eq_true_eq] at h2; omega
      · split at h2
        · obtain ⟨y,_,hy⟩:=Option.bind_eq_some_iff.1 h2
          simp only [QH,QK,decide_eq_true_eq] at hy
          rw [hy.2]; simp
        · simp at h2
def tN (x y:aA):Int:=(vO x y).getD 0
theorem aGn (x y:aA):vO x y=some (tN x y):=by
  obtain ⟨b,hb⟩:=bH9 x y
  unfold tN; rw [hb]; rfl
def aH2 (k o:Int):Bool:=if k=3 then decide (o=0) else if k=4 then !decide (o=0) else if k=5 then decide (o<0) else if k=6 then decide (o≤0) else if k=7 then decide (0<o) else decide (0≤o)
theorem cD5 (k:Int) (x y:aA):aBw k x y=some (vBl (aH2 k (tN x y))):=by
  unfold aBw aH2 vBl
  rw [aVo,aGn]
  simp only [aA9,wO,QB,QA,decide_eq_true_eq]
  by_cases h3:k=3
  · simp [h3]
  by_cases h4:k=4
  · simp [h4]
  by_cases h5:k=5
  · simp [h5]
  by_cases h6:k=6
  · simp [h6]
  by_cases h7:k=7
  · simp [h7]
  simp [h3,h4,h5,h6,h7]
theorem bSc (k o:Int):aAa k o=some (aH2 k o):=by
  unfold aAa aH2
  simp only [decide_eq_true_eq]
  by_cases h3:k=3
  · simp [h3]
  by_cases h4:k=4
  · simp [h4]
  by_cases h5:k=5
  · simp [h5]
  by_cases h6:k=6
  · simp [h6]
  by_cases h7:k=7
  · simp [h7]
  simp [h3,h4,h5,h6,h7]
def wK (op:Int) (x:aA):Bool:=decide (x.kind=0)||decide (op≤8)||(if op=9 then decide (x.kind=2) else decide (x.kind=1))
theorem bLo (op:Int) (x:aA):O0 op x=some (wK op x):=by
  unfold O0 wK
  simp only [orB,QB,QA,decide_eq_true_eq]
  by_cases h1:x.kind=0
  · simp [h1]
  by_cases h2:op≤8
  · simp [h2]
  by_cases h3:op=9 <;> simp [h1,h2,h3]
def jI (op:Int) (x y:aA):aA×Int :=
  if (decide (op<1)||decide (14<op)||!rU x||!rU y)=true then (⟨0,0,[]⟩,1)
  else if op≤2 then G7 op x y
  else if (wK op x&&wK op y&&(decide (8<op)||decide (x.kind=0)||decide (y.kind=0)||decide (x.kind=y.kind)))=false then (⟨0,0,[]⟩,1)
  else if (decide (x.kind=0)||decide (y.kind=0))=true then (⟨0,0,[]⟩,0)
  else if op≤8 then (vBl (aH2 op (tN x y)),0)
  else if op=9 then (if 200<x.text.length+y.text.length then (⟨0,0,[]⟩,2) else (⟨2,0,x.text++y.text⟩,0))
  else arP op x.num y.num
theorem aOt {a b:List UInt8} (h:a.length+b.length≤1000):H8 a b=some (a++b):=by
  unfold H8; rw [if_pos (by simp only [maxLen]; omega)]
theorem aDb {op:Int} {x y:aA} (hx:okI x.num) (hy:okI y.num):sG op x y=some (jI op x y):=by
  unfold sG jI
  simp only [bDi,bLo,orB,QB,QA,decide_eq_true_eq]
  by_cases h1:op<1
  · simp [h1]
  by_cases h2:14<op
  · simp [h2]
  rcases hvx:rU x with _ | _
  · simp [h1,h2]
  rcases hvy:rU y with _ | _
  · simp [h1,h2]
  by_cases h3:op≤2
  · simp [h1,h2,h3,bC7]
  have tx:=aOw hvx
  have ty:=aOw hvy
  simp only [h1,h2,h3,decide_false,QX,QF,QT,QM,beq_self_eq_true,if_true,if_false,QA,QD,cD5,arI hx hy]
  rcases wK op x with _ | _
  · simp
  rcases wK op y with _ | _
  · simp
  by_cases h4:op≤8
  · have h4':¬ 8<op:=by omega
    by_cases k1:x.kind=0
    · simp [h4,h4',k1]
    by_cases k2:y.kind=0
    · simp [h4,h4',k1,k2]
    by_cases k3:x.kind=y.kind <;> simp [h4,h4',k1,k2,k3]
  · have h4':8<op:=by omega
    by_cases k1:x.kind=0
    · simp [h4,h4',k1]
    by_cases k2:y.kind=0
    · simp [h4,h4',k1,k2]
    by_cases h9:op=9
    · subst h9
      rw [dR (n:=(x.text.length:Int)+y.text.length) (by omega) (by omega),aOt (by omega)]
      by_cases hl:200<x.text.length+y.text.length
      · have:(200:Int)<(x.text.length:Int)+(y.text.length:Int):=by omega
        simp [k1,k2,hl,this]
      · have:¬ (200:Int)<(x.text.length:Int)+(y.text.length:Int):=by omega
        simp [k1,k2,hl,this,aOz]
    · simp [h4,h4',k1,k2,h9]
theorem aNt (a b c:Int):fE a b c=some (decide (b≤a)&&decide (a≤c)):=by
  unfold fE
  by_cases h:b≤a <;> simp [h]
theorem bUp (op:Int) (x y:aA) (h:2<op) (h14:op≤14):aFm op x y=some (wK op x&&wK op y&&(decide (8<op)||decide (x.kind=0)||decide (y.kind=0)||decide (x.kind=y.kind))):=by
  unfold aFm wK
  simp only [aZ1,aEn,QB,QA,orB,uI,decide_eq_true_eq]
  by_cases h9:op=9
  · subst h9
    rcases decide (x.kind=2) with _ | _ <;> rcases decide (x.kind=0) with _ | _ <;> rcases decide (y.kind=2) with _ | _ <;> rcases decide (y.kind=0) with _ | _ <;> rfl
  by_cases h10:10≤op
  · have e1:¬ op≤8:=by omega
    have e2:8<op:=by omega
    simp only [h9,h10,e1,e2,if_true,if_false,decide_true,decide_false]
    rcases decide (x.kind=1) with _ | _ <;> rcases decide (x.kind=0) with _ | _ <;> rcases decide (y.kind=1) with _ | _ <;> rcases decide (y.kind=0) with _ | _ <;> rfl
  · have e1:op≤8:=by omega
    have e2:¬ 8<op:=by omega
    simp only [h9,h10,e1,e2,if_false,decide_true,decide_false]
    generalize x.kind=a
    generalize y.kind=b
    by_cases k:a=b
    · by_cases k1:a=0 <;> by_cases k2:b=0 <;> simp [k,k2]
    · by_cases k1:a=0
      · have:¬ (0:Int)=b:=fun e=>k (k1.trans e)
        simp [k1,this]
      · by_cases k2:b=0 <;> simp [k,k1,k2]
theorem bHs (r:Int×Bool):yJ r.1 r.2=some (yX r):=by
  obtain ⟨a,b⟩:=r
  cases b <;> rfl
theorem aCs {op:Int} {x y:aA} (hx:okI x.num) (hy:okI y.num):qV op x y=some (jI op x y):=by
  unfold qV jI
  simp only [aHe,aNt,orB,QB,QA,decide_eq_true_eq]
  by_cases h1:op<1
  · have:¬ 1≤op:=by omega
    simp [h1,this]
  have h1':1≤op:=by omega
  by_cases h2:14<op
  · have:¬ op≤14:=by omega
    simp [h2,this]
  have h2':op≤14:=by omega
  rcases hvx:rU x with _ | _
  · simp [h1,h2,h1',h2']
  rcases hvy:rU y with _ | _
  · simp [h1,h2,h1',h2']
  by_cases h3:op≤2
  · simp [h1,h2,h3,h1',h2',bCn]
  have tx:=aOw hvx
  have ty:=aOw hvy
  rw [bUp op x y (by omega) h2']
  simp only [h1,h2,h3,h1',h2',decide_true,decide_false,QX,QF,QT,QW,QM,beq_self_eq_true,if_true,if_false,QA,QD,bMg,aWa,addN hx hy,aN3 hx hy,bJ3 hx hy,bHs,aEn]
  generalize (wK op x&&wK op y&&(decide (8<op)||decide (x.kind=0)||decide (y.kind=0)||decide (x.kind=y.kind)))=t
  rcases t with _ | _
  · simp
  by_cases k1:x.kind=0
  · simp [k1]
  by_cases k2:y.kind=0
  · simp [k1,k2]
  simp only [k1,k2,decide_false,QF,QD,if_false,beq_self_eq_true,QW,if_true,QA,XK]
  by_cases h9:op=9
  · subst h9
    rw [dR (n:=(x.text.length:Int)+y.text.length) (by omega) (by omega),aOt (by omega)]
    by_cases hl:200<x.text.length+y.text.length
    · have:(200:Int)<(x.text.length:Int)+(y.text.length:Int):=by omega
      simp [hl,this]
    · have:¬ (200:Int)<(x.text.length:Int)+(y.text.length:Int):=by omega
      simp [hl,this,aFu]
  by_cases h10:op=10
  · subst h10; simp [arP]
  by_cases h11:op=11
  · subst h11; simp [arP]
  by_cases h12:op=12
  · subst h12; simp [arP]
  unfold aEy
  by_cases h13:op=13
  · subst h13
    simp [bDq (.inl rfl) hx hy]
  by_cases h14:op=14
  · subst h14
    simp [bDq (.inr rfl) hx hy]
  have h8:op≤8:=by omega
  simp [h9,h10,h11,h12,h13,h14,h8,aGn,bSc,wO,vBl]
theorem aN6 {r:Int×Bool} (h:okI r.1):okI (yX r).1.num:=by
  unfold yX; split
  · exact h
  · exact ⟨by decide,by decide⟩
theorem aMh (n:Int):okI (oO n).1:=by
  unfold oO; split
  · assumption
  · exact ⟨by decide,by decide⟩
theorem ok0:okI 0:=⟨by decide,by decide⟩
theorem ok1:okI 1:=⟨by decide,by decide⟩
theorem aNi (b:Bool):okI (vBl b).num:=by cases b <;> first | exact ok0 | exact ok1
theorem bJ6 {op a b:Int} (ha:okI a) (hb:okI b):okI (arP op a b).1.num:=by
  unfold arP
  split
  · exact aN6 (aMh _)
  split
  · exact aN6 (aMh _)
  split
  · exact aN6 (aMh _)
  split
  · exact ok0
  rename_i h0
  split
  · have h:(a.tmod b).natAbs=a.natAbs % b.natAbs:=XS a b
    have h2:a.natAbs % b.natAbs<b.natAbs:=Nat.mod_lt _ (by omega)
    have b1:=hb.1
    have b2:=hb.2
    exact ⟨by show -9223372036854775808≤a.tmod b; omega,by show a.tmod b≤9223372036854775807; omega⟩
  split
  · exact ok0
  · exact aT3 ha h0 ‹_›
theorem bTl (op:Int) (x y:aA):okI (G7 op x y).1.num:=by
  unfold G7
  repeat' split
  all_goals first | exact ok0 | exact ok1
theorem yF {op:Int} {x y:aA} (hx:okI x.num) (hy:okI y.num):okI (jI op x y).1.num:=by
  unfold jI
  split
  · exact ok0
  split
  · exact bTl _ _ _
  split
  · exact ok0
  split
  · exact ok0
  split
  · exact aNi _
  split
  · split <;> exact ok0
  · exact bJ6 hx hy
def unP (op:Int) (x:aA):aA×Int :=
  if (!rU x||(!decide (op=15)&&!decide (op=16)))=true then (⟨0,0,[]⟩,1)
  else if x.kind=0 then (⟨0,0,[]⟩,0)
  else if op=15∧x.kind=3 then (vBl (decide (x.num=0)),0)
  else if op=16∧x.kind=1 then yX (oO (0 - x.num)) else (⟨0,0,[]⟩,1)
theorem unI {op:Int} {x:aA} (hx:okI x.num):aAg op x=some (unP op x):=by
  unfold aAg unP
  simp only [bDi,orB,uI,cC7,QB,QA,arI ok0 hx]
  rcases rU x with _ | _
  · simp
  by_cases k:x.kind=0
  · by_cases h5:op=15
    · simp [h5,k]
    · by_cases h6:op=16 <;> simp [h5,h6,k]
  by_cases h5:op=15
  · subst h5
    by_cases k3:x.kind=3 <;> simp [k,k3,aA9,wO,vBl]
  by_cases h6:op=16
  · subst h6
    by_cases k1:x.kind=1 <;> simp [k,k1,arP]
  · simp [h5,h6]
theorem bJ7 {x:aA} (h:rU x=true) (k:x.kind=0):x=⟨0,0,[]⟩:=by
  have h2:=aHe x
  rw [h] at h2
  unfold kY at h2
  simp only [QB,QA,uI,k,decide_true,if_true,QH,QK,decide_eq_true_eq] at h2
  obtain ⟨a,b,c⟩:=x
  simp_all
theorem unS {op:Int} {x:aA} (hx:okI x.num):aEc op x=some (unP op x):=by
  unfold aEc unP
  simp only [aHe,aZ1,aEn,aWa,aN3 ok0 hx,bHs,QB,QA]
  rcases hv:rU x with _ | _
  · simp
  by_cases k:x.kind=0
  · have:=bJ7 hv k
    subst this
    by_cases h5:op=15
    · simp [h5]
    · by_cases h6:op=16 <;> simp [h5,h6]
  by_cases h5:op=15
  · subst h5
    by_cases k3:x.kind=3 <;> simp [k,k3,wO,vBl]
  by_cases h6:op=16
  · subst h6
    by_cases k1:x.kind=1 <;> simp [k,k1]
  · simp [h5,h6]
theorem bEw {op:Int} {x:aA} (_:okI x.num):okI (unP op x).1.num:=by
  unfold unP
  split
  · exact ok0
  split
  · exact ok0
  split
  · exact aNi _
  split
  · exact aN6 (aMh _)
  · exact ok0
def yT (x a b:aA):aA×Int:=if (jI 8 x a).2≠0 then (⟨0,0,[]⟩,(jI 8 x a).2) else if (jI 6 x b).2≠0 then (⟨0,0,[]⟩,(jI 6 x b).2) else jI 2 (jI 8 x a).1 (jI 6 x b).1
theorem bTn {x a b:aA} (hx:okI x.num) (ha:okI a.num) (hb:okI b.num):aK0 x a b=some (yT x a b):=by
  unfold aK0 yT
  simp only [aDb hx ha,aDb hx hb,aDb (yF (op:=8) hx ha) (yF (op:=6) hx hb),QB,QA]
  by_cases h1:(jI 8 x a).2=0
  · by_cases h2:(jI 6 x b).2=0 <;> simp [h1,h2]
  · simp [h1]
theorem bLe {x a b:aA} (hx:okI x.num) (ha:okI a.num) (hb:okI b.num):aHf x a b=some (yT x a b):=by
  unfold aHf yT
  simp only [aCs hx ha,aCs hx hb,aCs (yF (op:=8) hx ha) (yF (op:=6) hx hb),QB,QA]
  by_cases h1:(jI 8 x a).2=0
  · by_cases h2:(jI 6 x b).2=0 <;> simp [h1,h2]
  · simp [h1]
theorem aWd {x a b:aA} (hx:okI x.num) (ha:okI a.num) (hb:okI b.num):okI (yT x a b).1.num:=by
  unfold yT
  split
  · exact ok0
  split
  · exact ok0
  · exact yF (yF hx ha) (yF hx hb)
def qQ (x:aA):List aA→aA→aA×Int
  | [],o=>(o,0)
  | y::l,o=>if (jI 3 x y).2≠0 then (⟨0,0,[]⟩,(jI 3 x y).2) else qQ x l (jI 1 o (jI 3 x y).1).1
theorem bCy {op:Int} {x y:aA} (hx:okI x.num) (hy:okI y.num) {r:aA×Int} (h:qV op x y=some r):jI op x y=r:=by
  rw [aCs hx hy] at h; exact Option.some.inj h
theorem aK6 {x:aA} (h:tri x):okI x.num:=by rcases h with rfl | rfl | rfl <;> first | exact ok0 | exact ok1
theorem eqP {x y:aA} (hx:okI x.num) (hy:okI y.num) (h:(jI 3 x y).2=0):tri (jI 3 x y).1:=by
  obtain ⟨r,h1,_,h3⟩:=cAp 3 (by simp) x y
  have:=bCy hx hy h1
  subst this
  exact h3 h
theorem orP {x y:aA} (hx:tri x) (hy:tri y):(jI 1 x y).2=0∧tri (jI 1 x y).1:=by
  obtain ⟨r,h1,_,h3⟩:=bMf x y hx hy
  have:=bCy (aK6 hx) (aK6 hy) h1
  subst this
  exact h3
theorem bL7 (x:aA) (p:List aA) (hl:p.length≤1048576) (hx:okI x.num) (hp:∀ y∈p,okI y.num):∀ i,i≤p.length→∀ a b c,tri ⟨a,b,c⟩ →
    P9 p x (i:Nat) a b c=some (qQ x (p.drop i) ⟨a,b,c⟩)∧H7 p x (i:Nat) a b c=some (qQ x (p.drop i) ⟨a,b,c⟩):=by
  refine dZ ?_ ?_
  · intro a b c _
    rw [H7,P9]
    simp [qQ]
  · intro i hi ih a b c ht
    rw [H7,P9,QG hi]
    have hy:=hp _ (QE hi)
    have hc:=yF (op:=3) hx hy
    simp only [bZ,bM hi,dI hi (by omega),hi,decide_true,if_true,QB,QA,aDb hx hy,aCs hx hy,qQ]
    by_cases hz:(jI 3 x p[i]).2=0
    · have h3:=orP ht (eqP hx hy hz)
      simp only [hz,decide_true,QF,QD,if_false,QA,aDb (aK6 ht) hc,aCs (aK6 ht) hc,h3.1,ne_eq,not_true_eq_false]
      exact ih _ _ _ h3.2
    · simp [hz]
theorem aX0 {x:aA} {p:List aA} (hl:p.length≤1048576) (hx:okI x.num) (hp:∀ y∈p,okI y.num):aFi x p=some (qQ x p (vBl false))∧aDt x p=some (qQ x p (vBl false)):=by
  have:=bL7 x p hl hx hp 0 (by omega) 3 0 [] (by simp [tri])
  unfold aFi aDt
  rw [aA9,wO]
  simpa [vBl] using this
theorem aH3 {x:aA} (hx:okI x.num):∀ {p:List aA} {o:aA},(∀ y∈p,okI y.num)→tri o→okI (qQ x p o).1.num
  | [],o,_,ho=>aK6 ho
  | y::p,o,hp,ho=>by
    rw [qQ]
    by_cases hz:(jI 3 x y).2=0
    · rw [if_neg (by simp [hz])]
      exact aH3 hx (fun y hy=>hp y (WN _ hy)) (orP ho (eqP hx (hp y (by simp)) hz)).2
    · rw [if_pos hz]; exact ok0
def bF {α β:Type} (g:α→β×Int):List α→List β×Int
  | []=>([],0)
  | x::l=>if (g x).2≠0 then ([],(g x).2) else if (bF g l).2≠0 then ([],(bF g l).2) else ((g x).1::(bF g l).1,0)
theorem aB1 {α β γ:Type} {p:List α} {b:Nat} {g:α→β×Int} {F:α→Option (β×Int)} {L:List β→Int→Option γ} {K:List β→Option γ} {E:Int→γ} (hp:p.length≤1048576) (hb:b≤64) (hF:∀ x∈p,F x=some (g x))
    (hL:∀ (i:Nat) acc,L acc (i:Int)=if (decide ((i:Int)<(p.length:Int)))=true then ((idx p (i:Int))>>=fun x=>(F x)>>=fun y=>if (!decide (y.2=0))=true then some (E y.2) else (appG b acc [y.1])>>=fun z=>L z (QC .i64 ((i:Int)+1))) else K acc) :
    ∀ acc,acc.length≤1048576→L acc 0=if (bF g p).2≠0 then some (E (bF g p).2) else K (acc++(bF g p).1):=by
  have key:∀ i,i≤p.length→∀ acc,acc.length≤1048576+i→L acc (i:Nat)=if (bF g (p.drop i)).2≠0 then some (E (bF g (p.drop i)).2) else K (acc++(bF g (p.drop i)).1):=by
    refine dZ ?_ ?_
    · intro acc _
      rw [hL]; simp [bF]
    · intro i hi ih acc ha
      rw [hL,bM hi,dI hi (by omega),QG hi]
      simp only [bZ,hi,decide_true,if_true,QB,QA,hF _ (QE hi),bF]
      by_cases h0:(g p[i]).2=0
      · have e:appG b acc [(g p[i]).1]=some (acc++[(g p[i]).1]):=nP (QV (Nat.mul_le_mul_left _ hb) (by simp only [QQ]; omega))
        simp only [h0,decide_true,QF,QD,if_false,ne_eq,not_true_eq_false,e,QA]
        rw [ih _ (by simp; omega)]
        by_cases h1:(bF g (p.drop (i+1))).2=0
        · simp [h1]
        · simp [h1]
      · simp [h0]
  intro acc ha
  simpa using key 0 (by omega) acc (by omega)
def tru (v:aA):Bool:=decide (v.kind=3)&&decide (v.num=1)
theorem bPr (v:aA):aG7 v=some (tru v):=by unfold aG7 tru; simp only [uI,QB,QA]
theorem bL0 (v:aA):aI6 v=some (tru v):=by unfold aI6 tru; simp only [uI,QB,QA]
abbrev Row1:=List aA
abbrev Rows:=List (List aA)
abbrev Gf:=Row1→aA×Int
def jU (g:Gf):Rows→Rows×Int
  | []=>([],0)
  | x::l=>if (g x).2≠0 then ([],(g x).2) else if (jU g l).2≠0 then ([],(jU g l).2) else (if tru (g x).1=true then x::(jU g l).1 else (jU g l).1,0)
def whE:List Gf→Rows→Rows×Int
  | [],r=>(r,0)
  | g::l,r=>if (jU g r).2≠0 then ([],(jU g r).2) else whE l (jU g r).1
def mH (r t:Rows):Rows:=r.flatMap fun a=>t.map fun b=>a++b
def joE:List (Rows×List Gf)→Rows→Rows×Int
  | [],r=>(r,0)
  | s::l,r=>if (whE s.2 (mH r s.1)).2≠0 then ([],(whE s.2 (mH r s.1)).2) else joE l (whE s.2 (mH r s.1)).1
theorem aFq (g:Gf):∀ r:Rows,(jU g r).1.Sublist r
  | []=>by simp [jU]
  | x::l=>by
    rw [jU]
    split
    · exact XG _
    split
    · exact XG _
    dsimp only
    split
    · exact (aFq g l).cons_cons x
    · exact (aFq g l).cons x
theorem O1:∀ (gs:List Gf) (r:Rows),(whE gs r).1.Sublist r
  | [],r=>List.Sublist.refl _
  | g::gs,r=>by
    rw [whE]
    split
    · exact XG _
    · exact (O1 gs _).trans (aFq g r)
def rO:List Bool→Row1→Row1→Bool
  | d::ds,x::a,y::b=>if (if d=true then -(tN x y) else tN x y)≠0 then decide ((if d=true then -(tN x y) else tN x y)<0) else rO ds a b
  | _,_,_=>false
def lU {α:Type} [Inhabited α] (lt:α→α→Bool) (x:α) (l:List α):Nat→Nat
  | 0=>0
  | n+1=>if lt x (l[n]!)=true then lU lt x l n else n+1
theorem bFx {α:Type} [Inhabited α] (lt:α→α→Bool) (x:α) (l:List α):∀ n,lU lt x l n≤n
  | 0=>by simp [lU]
  | n+1=>by
    rw [lU]; split
    · have:=bFx lt x l n; omega
    · omega
def G9 {α:Type} [Inhabited α] (lt:α→α→Bool) (x:α) (l:List α):List α:=l.take (lU lt x l l.length)++x::l.drop (lU lt x l l.length)
def mJ {α:Type} [Inhabited α] (lt:α→α→Bool):List α→List α→List α
  | s,[]=>s
  | s,x::l=>mJ lt (G9 lt x s) l
theorem bBv {α:Type} [Inhabited α] (lt:α→α→Bool) (x:α) (l:List α):(G9 lt x l).length=l.length+1:=by
  unfold G9
  have:=bFx lt x l l.length
  simp only [QJ,QY,XC,List.length_drop]
  omega
theorem aSa {α:Type} [Inhabited α] (lt:α→α→Bool) (x:α) (l:List α):(G9 lt x l).Perm (x::l):=by
  unfold G9
  refine List.perm_middle.trans (List.Perm.cons x ?_)
  rw [List.take_append_drop]
theorem aEj {α:Type} [Inhabited α] (lt:α→α→Bool):∀ (l s:List α),(mJ lt s l).Perm (s++l)
  | [],s=>by simp [mJ]
  | x::l,s=>by
    rw [mJ]
    refine (aEj lt l _).trans ?_
    refine ((aSa lt x s).append_right l).trans ?_
    exact List.perm_middle.symm
theorem bDp {α:Type} [Inhabited α] (lt:α→α→Bool) (h:∀ a b,lt a b=false):∀ (l s:List α),mJ lt s l=s++l
  | [],s=>by simp [mJ]
  | x::l,s=>by
    have e:lU lt x s s.length=s.length:=by
      cases s.length with
      | zero=>rfl
      | succ n=>rw [lU,h]; simp
    rw [mJ,bDp lt h l]
    unfold G9
    rw [e]; simp
def kLt (ds:List Bool) (a b:aU):Bool:=rO ds a.keys b.keys
def jF (ks:List (Gf×Bool)) (r:Rows):Rows×Int :=
  if (bF (fun row=>bF (fun k:Gf×Bool=>k.1 row) ks) r).2≠0 then ([],(bF (fun row=>bF (fun k:Gf×Bool=>k.1 row) ks) r).2)
  else ((mJ (kLt (ks.map (·.2))) [] (QP aU.mk r (bF (fun row=>bF (fun k:Gf×Bool=>k.1 row) ks) r).1)).map (·.row),0)
def aP5 (x y:aA):Bool:=decide (x.kind=y.kind)&&(decide (x.num=y.num)&&(decide (x.text=y.text)&&true))
theorem aRx (x y:aA):aP5 x y=true↔x=y:=by
  obtain ⟨a,b,c⟩:=x
  obtain ⟨d,e,f⟩:=y
  simp [aP5]
instance:DecidableEq aA:=fun a b=>decidable_of_iff _ (aRx a b)
def fV:Rows→Rows→Rows
  | o,[]=>o
  | o,x::l=>if x∈o then fV o l else fV (o++[x]) l
def xM (n:Int) (r:Rows):Rows:=if 0≤n∧n<(r.length:Int) then r.take n.toNat else r
def uQ (dis:Bool) (lim:Int) (r:Rows):Rows:=xM lim (if dis=true then fV [] r else r)
def mU (is:List Gf) (r:Rows):Rows×Int:=bF (fun row=>bF (fun g:Gf=>g row) is) r
structure Qry where
  st:List (Rows×List Gf)
  wh:List Gf
  ks:List (Gf×Bool)
  is:List Gf
  dis:Bool
  lim:Int
def aB0 (q:Qry):Rows×Int :=
  if (joE q.st [[]]).2≠0 then ([],(joE q.st [[]]).2) else if (whE q.wh (joE q.st [[]]).1).2≠0 then ([],(whE q.wh (joE q.st [[]]).1).2) else
  if (jF q.ks (whE q.wh (joE q.st [[]]).1).1).2≠0 then ([],(jF q.ks (whE q.wh (joE q.st [[]]).1).1).2) else
  if (mU q.is (jF q.ks (whE q.wh (joE q.st [[]]).1).1).1).2≠0 then ([],(mU q.is (jF q.ks (whE q.wh (joE q.st [[]]).1).1).1).2) else
  (uQ q.dis q.lim (mU q.is (jF q.ks (whE q.wh (joE q.st [[]]).1).1).1).1,0)
theorem bHc (g:Gf) (r:Rows):(jU g r).1.length≤r.length:=(aFq g r).length_le
theorem aE7 (gs:List Gf) (r:Rows):(whE gs r).1.length≤r.length:=(O1 gs r).length_le
theorem rX {l m:Rows} (h:l.length+m.length≤4194304):appG 24 l m=some (l++m):=nP (by omega)
theorem bX5 {cl:bP} {p1:List bP} {x15:Int} {g:Gf} {x0:Rows} (hl:x0.length≤1048576) (H:∀ r∈x0,nM r cl.c0 cl.c1 cl.c2 cl.c3=some (g r)) :
    ∀ i,i≤x0.length→∀ acc:Rows,acc.length≤i→X9 cl p1 x15 x0 acc (i:Nat)=if (jU g (x0.drop i)).2≠0 then some ([],(jU g (x0.drop i)).2) else Y8 p1 (acc++(jU g (x0.drop i)).1) (QC .i64 (x15+1)):=by
  refine dZ ?_ ?_
  · intro acc _
    rw [X9]; simp [jU]
  · intro i hi ih acc ha
    rw [X9,bM hi,QG hi]
    simp only [bZ,hi,decide_true,if_true,QB,QA,H _ (QE hi),bPr,jU]
    by_cases h0:(g x0[i]).2=0
    · simp only [h0,decide_true,QF,QD,if_false,ne_eq,not_true_eq_false]
      by_cases ht:tru (g x0[i]).1=true
      · rw [if_pos ht,rX (by simp; omega)]
        simp only [QA]
        rw [aF2,dI hi (by omega),ih _ (by simp; omega)]
        by_cases h1:(jU g (x0.drop (i+1))).2=0 <;> simp [h1,ht]
      · rw [if_neg ht,aF2,dI hi (by omega),ih _ (by omega)]
        by_cases h1:(jU g (x0.drop (i+1))).2=0 <;> simp [h1,ht]
    · simp [h0]
theorem bLb {P:Row1→Prop} {c:aQ} {d:GDb} {env:Rows} {ev:aJ→Gf} {l:List aJ} (hl:l.length≤1048576) (H:∀ e∈l,∀ r,P r→nM r c d env e=some (ev e r)) :
    ∀ i,i≤l.length→∀ rows:Rows,rows.length≤1048576→(∀ r∈rows,P r)→Y8 (l.map (bP.mk c d env)) rows (i:Nat)=some (whE ((l.drop i).map ev) rows):=by
  refine dZ ?_ ?_
  · intro rows _ _
    rw [Y8]; simp [whE]
  · intro i hi ih rows hr hP
    have hi':i<(l.map (bP.mk c d env)).length:=by simpa using hi
    rw [Y8,bM hi',QG hi]
    simp only [bZ,hi',decide_true,if_true,QB,QA,XP,QL,whE]
    have k:=bX5 (cl:=bP.mk c d env l[i]) (p1:=l.map (bP.mk c d env)) (x15:=(i:Int)) (g:=ev l[i]) hr (fun r hr=>H _ (QE hi) r (hP r hr)) 0 (by omega) [] (by simp)
    simp only [Int.ofNat_zero,WG,QN] at k
    replace k:X9 (bP.mk c d env l[i]) (l.map (bP.mk c d env)) (i:Int) rows [] 0=_:=k
    rw [k,dI hi (by omega)]
    by_cases h1:(jU (ev l[i]) rows).2=0
    · simp only [h1,ne_eq,not_true_eq_false,if_false]
      exact ih _ (QV (bHc _ _) hr) fun r hr=>hP r ((aFq _ _).subset hr)
    · simp [h1]
theorem bFd {P:Row1→Prop} {c:aQ} {d:GDb} {env:Rows} {ev:aJ→Gf} {l:List aJ} (hl:l.length≤1048576) (H:∀ e∈l,∀ r,P r→nM r c d env e=some (ev e r)) (rows:Rows) (hr:rows.length≤1048576) (hP:∀ r∈rows,P r) :
    aAy rows (l.map (bP.mk c d env))=some (whE (l.map ev) rows):=by
  rw [aAy]
  simpa using bLb hl H 0 (by omega) rows hr hP
theorem bQ0 (a b:Row1) (ha:a.length≤1048576) (hb:b.length≤1048576):aJ2 [a,b]=some (a++b):=by
  have w1:QC .i64 (0+1)=1:=by decide
  have w2:QC .i64 (1+1)=2:=by decide
  have g:aNk [] ((a.length:Int)+b.length)=some []:=by
    unfold aNk aI1
    rw [if_pos ⟨rfl,by omega,by omega,by omega⟩]
  have e1:appG 32 [] a=some a:=by rw [nP (by simp; omega)]; rfl
  have e2:appG 32 a b=some (a++b):=nP (by omega)
  have l1:QC .i64 (a.length:Int)=a.length:=dR (by omega) (by omega)
  have l2:QC .i64 ((a.length:Int)+b.length)=(a.length:Int)+b.length:=dR (by omega) (by omega)
  have n1:¬ ((a.length:Int)<0):=by omega
  have n2:¬ ((a.length:Int)+b.length<0):=by omega
  have J:∀ p x (y:Row1) k,aDm p x y k=xD p (QC .i64 (x+(y.length:Int))) (QC .i64 (k+1)):=fun p x y k=>by rw [aDm]
  have k2:vY [a,b] (a++b) 2=some (a++b):=by rw [vY]; simp
  have k1:vY [a,b] a 1=some (a++b):=by
    rw [vY,w2]
    simp [idx,e2,k2]
  have k0:vY [a,b] [] 0=some (a++b):=by
    rw [vY,w1]
    simp [idx,e1,k1]
  have m2:xD [a,b] ((a.length:Int)+b.length) 2=some (a++b):=by
    rw [xD,g]
    simp [k0]
  have m1:xD [a,b] (a.length:Int) 1=some (a++b):=by
    rw [xD]
    simp only [J,l2,w2]
    simp only [QY,WF,idx]
    simp only [QB,List.getElem?_cons_succ,show Int.toNat 1=1 from rfl,List.getElem?_cons_zero,l2]
    rw [if_pos (by simp)]
    simp [l2,w2,m2]
    omega
  unfold aJ2
  rw [xD]
  simp [idx,J,l1,show QC .i64 1=1 by decide,m1]
def fJ (n:Nat) (r:Row1):Prop:=r.length≤n * 1000∧∀ v∈r,okI v.num
theorem bYm {n:Nat} {a b:Row1} (ha:fJ n a) (hb:fJ 1 b):fJ (n+1) (a++b):=by
  obtain ⟨a1,a2⟩:=ha
  obtain ⟨b1,b2⟩:=hb
  refine ⟨by simp; omega,fun v hv=>?_⟩
  rcases QO.1 hv with hv | hv
  · exact a2 v hv
  · exact b2 v hv
theorem aA8 {n m:Nat} (h:n≤m) {r:Row1} (hr:fJ n r):fJ m r:=⟨QV hr.1 (XI _ h),hr.2⟩
theorem aIf (r t:Rows):(mH r t).length=r.length * t.length:=by
  unfold mH
  induction r with
  | nil=>simp
  | cons a r ih=>rw [WH,QJ,ih,WW,QY,XJ]; omega
theorem aXu {n:Nat} {r t:Rows} (hr:∀ x∈r,fJ n x) (ht:∀ x∈t,fJ 1 x):∀ x∈mH r t,fJ (n+1) x:=by
  intro x hx
  unfold mH at hx
  obtain ⟨a,ha,hx⟩:=WX.1 hx
  obtain ⟨b,hb,rfl⟩:=WM.1 hx
  exact bYm (hr a ha) (ht b hb)
theorem bWl {x19:Int} {p0:eP} {x4:Rows} {x27:Int} {t:Rows} {a:Row1} (ht:t.length≤1048576) (ha:a.length≤1048576) (hB:∀ x∈t,x.length≤1048576) :
    ∀ j,j≤t.length→∀ acc:Rows,acc.length+t.length≤2097152+j→aBe x19 t a p0 x4 x27 (acc,(j:Nat))=I5 x19 t p0 x4 (acc++(t.drop j).map fun b=>a++b) (QC .i64 (x27+1)):=by
  refine dZ ?_ ?_
  · intro acc _
    rw [aBe]; simp
  · intro j hj ih acc hacc
    rw [aBe]
    simp only [bZ,hj,decide_true,if_true,bM hj,QB,QA,bQ0 a _ ha (hB _ (QE hj))]
    rw [rX (by simp; omega)]
    simp only [QA]
    rw [dI hj (by omega),ih _ (by simp; omega),QG hj]
    simp only [QL,WE,WR]
theorem bJl {x19:Int} {p0:eP} {x4 t:Rows} (hx:x4.length * t.length≤1048576) (hx4:x4.length≤1048576) (ht:t.length≤1048576) (h4:∀ x∈x4,x.length≤1048576) (hB:∀ x∈t,x.length≤1048576) :
    ∀ i,i≤x4.length→∀ acc:Rows,acc.length=i * t.length→I5 x19 t p0 x4 acc (i:Nat)=(idx p0.on_ x19)>>=fun (y5:List bP)=>(aAy (acc++mH (x4.drop i) t) y5)>>=fun (y6:(List (List aA))×Int)=>if (!decide (y6.2=0))=true then (some (([]:List (List aA)),y6.2)) else (U9 p0 y6.1 (QC .i64 (x19+1))):=by
  refine dZ ?_ ?_
  · intro acc _
    rw [I5]; simp [mH]
  · intro i hi ih acc ha
    rw [I5]
    simp only [bZ,hi,decide_true,if_true,bM hi,QB,QA]
    have hm:(i+1) * t.length≤x4.length * t.length:=XI _ hi
    rw [XJ] at hm
    have:=bWl (x19:=x19) (p0:=p0) (x4:=x4) (x27:=(i:Int)) ht (h4 _ (QE hi)) hB 0 (by omega) acc (by omega)
    rw [show ((0:Nat):Int)=0 from rfl] at this
    rw [this,dI hi (by omega),ih _ (by simp [ha,XJ]),QG hi]
    simp only [mH,WH,WE,WG]
    rfl
theorem aKo (R:Nat):∀ (st:List (Rows×List Gf)) (r:Rows) (n:Nat),(∀ s∈st,s.1.length≤R)→r.length≤n→(joE st r).1.length≤n * R ^ st.length
  | [],r,n,_,h=>by simpa [joE] using h
  | s::st,r,n,hs,h=>by
    rw [joE]
    split
    · simp
    · have h1:(whE s.2 (mH r s.1)).1.length≤n * R:=by
        refine QV (aE7 _ _) ?_
        rw [aIf]
        exact XW h (hs s (by simp))
      have:=aKo R st _ _ (fun s hs'=>hs s (WN _ hs')) h1
      rw [QY,XX,Nat.mul_comm (R ^ st.length),← Nat.mul_assoc]
      exact this
theorem aPa:∀ (st:List (Rows×List Gf)) (r:Rows) (n:Nat),(∀ s∈st,∀ x∈s.1,fJ 1 x)→(∀ x∈r,fJ n x)→∀ x∈(joE st r).1,fJ (n+st.length) x
  | [],r,n,_,h=>by simpa [joE] using h
  | s::st,r,n,hs,h=>by
    rw [joE]
    split
    · simp
    · have:=aPa st _ (n+1) (fun s hs'=>hs s (WN _ hs')) (fun x hx=>aXu h (hs s (by simp)) x ((O1 s.2 _).subset hx))
      rw [QY,show n+(st.length+1)=n+1+st.length by omega]
      exact this
structure cFt (N:Nat) (c:aQ) (d:GDb) (env:Rows) (ev:aJ→Gf) (p:aP):Prop where
  on:p.on_.length=p.tables.length
  t3:p.tables.length≤3
  on1:∀ l∈p.on_,l.length≤1048576
  wh:p.where_.length≤1048576
  ord:p.order.length≤1048576
  it:p.items.length≤1048576
  tb:∀ i∈p.tables,0≤i∧i<(d.tables.length:Int)
  N1:N≤1048576
  R:∃ R:Nat,1≤R∧R ^ p.tables.length≤N∧(∀ t∈d.tables,t.rows.length≤R)
  db:∀ t∈d.tables,∀ x∈t.rows,fJ 1 x
def rowsOf (d:GDb) (i:Int):Rows:=(d.tables[i.toNat]?.getD ⟨[]⟩).rows
def Y9 (d:GDb) (ev:aJ→Gf) (p:aP):List (Rows×List Gf):=QP (fun i l=>(rowsOf d i,l.map ev)) p.tables p.on_
def jO (d:GDb) (ev:aJ→Gf) (p:aP):Qry:=⟨Y9 d ev p,p.where_.map ev,p.order.map fun k=>(ev k.expr,k.desc),p.items.map ev,p.distinct,p.limit⟩
theorem aMx (c:aQ) (d:GDb) (env:Rows) (l:List aJ) (h:l.length≤1048576):M5 l c d env=some (l.map (bP.mk c d env)):=by
  unfold M5
  have e:(l.flatMap fun y=>[bP.mk c d env y])=l.map (bP.mk c d env):=by
    clear h
    induction l with
    | nil=>rfl
    | cons y l ih=>rw [WH,ih]; rfl
  have:=gather (p:=l) (f:=fun y=>[bP.mk c d env y]) (G:=fun y acc=>appG 8 acc ([(bP.mk c d env y)]:List bP)) (L:=fun acc i=>aBb c d env l acc i) (K:=some) (c:=1048576) (by omega)
    (fun y hy acc ha=>by
      simp only [QQ] at ha
      exact nP (by simp only [QQ]; omega))
    (fun i acc=>by rw [aBb])
    [] (by rw [e,WW]; simp only [WF]; omega)
  rw [this,e]
  rfl
theorem bUq {c:aQ} {d:GDb} {env:Rows} {ev:aJ→Gf} {x:eP} {l:List (List aJ)} {w:List aJ} {R N:Nat} (hN:N≤1048576) (R1:1≤R)
    (ho:x.on_=l.map fun l=>l.map (bP.mk c d env)) (hw:x.where_=w.map (bP.mk c d env)) (hlt:l.length=x.tables.length) (hl:∀ y∈l,y.length≤1048576) (hwl:w.length≤1048576) (t3:x.tables.length≤3)
    (hR:∀ t∈x.tables,t.length≤R) (hRN:R ^ x.tables.length≤N) (hB:∀ t∈x.tables,∀ r∈t,fJ 1 r)
    (H:∀ e,(e∈w∨∃ y∈l,e∈y)→∀ r,fJ 3 r→nM r c d env e=some (ev e r)) :
    ∀ i,i≤x.tables.length→∀ rows:Rows,rows.length≤R ^ i→(∀ r∈rows,fJ i r)→U9 x rows (i:Nat) =
      some (if (joE (QP (fun t l=>(t,l.map ev)) (x.tables.drop i) (l.drop i)) rows).2≠0 then ([],(joE (QP (fun t l=>(t,l.map ev)) (x.tables.drop i) (l.drop i)) rows).2) else whE (w.map ev) (joE (QP (fun t l=>(t,l.map ev)) (x.tables.drop i) (l.drop i)) rows).1):=by
  have pw:∀ i,i≤x.tables.length→R ^ i≤N:=fun i hi=>QV (XY R1 hi) hRN
  refine dZ ?_ ?_
  · intro rows hr hP
    rw [U9]
    have:=pw _ (XB _)
    simp only [bZ,WJ,decide_false,QD,if_false,hw,WO,XQ,joE,ne_eq,not_true_eq_false,QB]
    rw [bFd hwl (fun e he=>H e (.inl he)) rows (by omega) (fun r hr=>aA8 t3 (hP r hr))]
    rfl
  · intro i hi ih rows hr hP
    have hil:i<l.length:=by omega
    have hio:i<x.on_.length:=by rw [ho]; simpa using hil
    have pi:=pw i (by omega)
    have ps:=pw (i+1) (by omega)
    have ht:=hR _ (QE hi)
    have hcl:(mH rows x.tables[i]).length≤R ^ (i+1):=by rw [aIf,XX]; exact XW hr ht
    have hRN1:R≤1048576:=QV (QV (by have:=XY R1 (show 1≤i+1 by omega); simpa using this) ps) hN
    rw [U9,bM hi]
    simp only [bZ,hi,decide_true,if_true,QB,QA]
    have j1:=bJl (x19:=(i:Int)) (p0:=x) (x4:=rows) (t:=x.tables[i]) (by rw [← aIf]; omega) (by omega) (by omega) (fun y hy=>by have:=(hP y hy).1; omega) (fun y hy=>by have:=(hB _ (QE hi) y hy).1; omega) 0 (by omega) [] (by simp)
    rw [show ((0:Nat):Int)=0 from rfl] at j1
    rw [j1,bM hio]
    have e1:x.on_[i]=l[i].map (bP.mk c d env):=by simp [ho]
    simp only [QB,QA,WG,QN,e1]
    have hcB:∀ r∈mH rows x.tables[i],fJ (i+1) r:=aXu hP (hB _ (QE hi))
    rw [bFd (hl _ (QE hil)) (fun e he=>H e (.inr ⟨_,QE hil,he⟩)) _ (by omega) (fun r hr=>aA8 (by omega) (hcB r hr))]
    simp only [QA]
    rw [QG hi,QG hil,WZ,joE]
    by_cases h0:(whE (l[i].map ev) (mH rows x.tables[i])).2=0
    · simp only [h0,decide_true,QF,QD,if_false,ne_eq,not_true_eq_false]
      rw [dI hi (by omega)]
      exact ih _ (QV (aE7 _ _) hcl) fun r hr=>hcB r ((O1 _ _).subset hr)
    · simp [h0]
theorem bAi (x y:aA) : -1≤tN x y∧tN x y≤1:=by
  have h:=aGn x y
  unfold vO at h
  generalize tN x y=n at h
  repeat' split at h
  all_goals (simp only [QH] at h; omega)
def aAl (N:Nat):Prop:=∀ (x:eP) (l:List aU),l.length≤N→x.order.length≤1048576→(∀ k∈l,k.keys.length=x.order.length)→aHw l (eU.mk x)=some (mJ (kLt (x.order.map (·.desc))) [] l)
theorem bTc {x:eP} {a b:aU} (ho:x.order.length≤1048576) (ha:a.keys.length=x.order.length) (hb:b.keys.length=x.order.length) :
    ∀ i,i≤x.order.length→∃ n,aAo x a b (i:Nat)=some n∧decide (n<0)=rO ((x.order.map (·.desc)).drop i) (a.keys.drop i) (b.keys.drop i):=by
  refine dZ ?_ ?_
  · refine ⟨0,?_,?_⟩
    · rw [aAo]; simp
    · rw [List.drop_of_length_le (by simp)]; simp [rO]
  · intro i hi ih
    obtain ⟨n,h1,h2⟩:=ih
    have ia:i<a.keys.length:=by omega
    have ib:i<b.keys.length:=by omega
    have id:i<(x.order.map (·.desc)).length:=by simpa using hi
    rw [aAo]
    simp only [bZ,hi,decide_true,if_true,bM hi,bM ia,bM ib,QB,QA,aVo,aGn]
    rw [QG ia,QG ib,QG id,rO]
    have hr:=bAi a.keys[i] b.keys[i]
    generalize tN a.keys[i] b.keys[i]=o at hr ⊢
    rw [dR (n:=0 - o) (by omega) (by omega)]
    have J:∀ m:Int,∃ n,aAj x (i:Int) a b m=some n∧decide (n<0)=if m≠0 then decide (m<0) else rO ((x.order.map (·.desc)).drop (i+1)) (a.keys.drop (i+1)) (b.keys.drop (i+1)):=by
      intro m
      rw [aAj]
      by_cases hm:m=0
      · refine ⟨n,?_,?_⟩
        · rw [if_neg (by simp [hm]),dI hi (by omega)]; exact h1
        · rw [if_neg (by simp [hm])]; exact h2
      · exact ⟨m,by rw [if_pos (by simp [hm])],by rw [if_pos hm]⟩
    simp only [XP]
    by_cases hd:x.order[i].desc=true
    · rw [if_pos hd]
      simp only [hd,if_true]
      have:=J (0 - o)
      rwa [Int.zero_sub] at this ⊢
    · rw [if_neg hd]
      simp only [hd,QD,if_false]
      exact J o
theorem bSs {x:eP} {a b:aU} (ho:x.order.length≤1048576) (ha:a.keys.length=x.order.length) (hb:b.keys.length=x.order.length) :
    ∃ n,uX a b x=some n∧decide (n<0)=kLt (x.order.map (·.desc)) a b:=by
  have:=bTc ho ha hb 0 (by omega)
  unfold uX kLt
  simpa using this
theorem bEk {α:Type} (A:List α) (x:α) (Z:List α):idx (A++x::Z) (A.length:Int)=some x:=by rw [bIu]; simp
theorem bCl {α:Type} (A:List α) (x y:α) (Z:List α):pO (A++x::Z) (A.length:Int) y=some (A++y::Z):=by
  unfold pO; rw [if_pos ⟨by omega,by simp⟩]; simp
def KL (m:Nat) (l:List aU):Prop:=∀ k∈l,k.keys.length=m
theorem bFw {x:eP} (ho:x.order.length≤1048576) (n x8:Int) (v:aU) (hv:v.keys.length=x.order.length) (l C:List aU) (hl:KL x.order.length l) (hl2:l.length≤1048576):∀ k,k≤l.length →
    O8 0 n (eU.mk x) x8 (k:Int) (l.take k++v::(l.drop k++C)) =
    zQ 0 n (eU.mk x) (QC .i64 (x8+1)) (l.take (lU (kLt (x.order.map (·.desc))) v l k)++v::(l.drop (lU (kLt (x.order.map (·.desc))) v l k)++C))
  | 0,_=>by
    rw [O8]
    simp [lU]
  | k+1,hk=>by
    have hk':k<l.length:=by omega
    have et:l.take (k+1)=l.take k++[l[k]]:=by rw [List.take_add_one,QU hk']; rfl
    have lk:(l.take k).length=k:=by simp; omega
    have e0:((k+1:Nat):Int)=((l.take k++[l[k]]).length:Int):=by simp; omega
    have e1:(k:Int)=((l.take k).length:Int):=by rw [lk]
    have ew:QC .i64 (((k+1:Nat):Int) - 1)=(k:Int):=by rw [dR] <;> omega
    have i1:∀ Z,idx ((l.take k++[l[k]])++v::Z) ((k+1:Nat):Int)=some v:=fun Z=>by rw [e0]; exact bEk _ _ _
    have i2:∀ Z,idx ((l.take k++[l[k]])++Z) (k:Int)=some l[k]:=by
      intro Z
      have:=bEk (l.take k) l[k] Z
      rw [lk] at this
      rw [WE]
      exact this
    have s1:∀ Z,pO ((l.take k++[l[k]])++v::Z) ((k+1:Nat):Int) l[k]=some ((l.take k++[l[k]])++l[k]::Z):=fun Z=>by rw [e0]; exact bCl _ _ _ _
    have s3:∀ Z,pO ((l.take k++[l[k]])++Z) (k:Int) v=some (l.take k++v::Z):=by
      intro Z
      have:=bCl (l.take k) l[k] v Z
      rw [lk] at this
      rw [WE]
      exact this
    obtain ⟨m,hm1,hm2⟩:=bSs ho hv (hl l[k] (QE hk'))
    rw [O8,et]
    have hp:decide ((0:Int)<((k+1:Nat):Int))=true:=by rw [decide_eq_true_eq]; omega
    have eb:=getElem!_pos l k hk'
    simp only [hp,beq_self_eq_true,WK,if_true,ew,i1,i2,QB,QA,hm1,hm2]
    rw [lU,eb]
    by_cases hr:kLt (x.order.map (·.desc)) v l[k]=true
    · rw [if_pos hr,if_pos hr,s1]
      simp only [QA,i2,s3]
      rw [← bFw ho n x8 v hv l C hl hl2 k (by omega),QG hk']
      rfl
    · rw [if_neg hr,if_neg hr,et]
theorem bFg {x:eP} (ho:x.order.length≤1048576) (n:Nat):∀ (Z S:List aU),S.length+Z.length=n→n≤1048576→KL x.order.length (S++Z) →
    zQ 0 (n:Int) (eU.mk x) (S.length:Int) (S++Z)=some (mJ (kLt (x.order.map (·.desc))) S Z)
  | [],S,hn,_,_=>by
    rw [zQ]
    simp at hn
    simp [hn,mJ]
  | v::Z,S,hn,h2,hm=>by
    simp only [QY] at hn
    rw [zQ]
    have hlt:S.length<n:=by omega
    simp only [bZ,hlt,decide_true,if_true]
    have r:=bFw ho (n:Int) (S.length:Int) v (hm v (by simp)) S Z (fun k hk=>hm k (by simp [hk])) (by omega) S.length (XB _)
    rw [List.take_length,WO,QN] at r
    rw [r,dI hlt (by omega),mJ]
    have e:S.take (lU (kLt (x.order.map (·.desc))) v S S.length)++v::(S.drop (lU (kLt (x.order.map (·.desc))) v S S.length)++Z)=G9 (kLt (x.order.map (·.desc))) v S++Z:=by simp [G9]
    have l1:=bBv (kLt (x.order.map (·.desc))) v S
    rw [e,← l1]
    refine bFg ho n Z _ (by omega) h2 fun k hk=>?_
    rcases QO.1 hk with hk | hk
    · have:=(aSa (kLt (x.order.map (·.desc))) v S).subset hk
      exact hm k (by simp at this ⊢; rcases this with h | h <;> simp [h])
    · exact hm k (by simp [hk])
theorem bQk:aAl 19:=by
  intro x l hl ho hk
  have hI:aDo l 0 (l.length:Int) (eU.mk x)=some (mJ (kLt (x.order.map (·.desc))) [] l):=by
    unfold aDo
    have e:QC .i64 (0+1)=1:=by decide
    rw [e]
    cases l with
    | nil=>rw [zQ]; simp [mJ]
    | cons y l=>exact bFg ho (l.length+1) l [y] (by simp; omega) (by simp at hl; omega) hk
  unfold aHw aKr
  rw [aEw]
  have c1:decide ((20:Int)≤(l.length:Int))=false:=by rw [decide_eq_false_iff_not]; omega
  have c2:decide ((20:Int)<(l.length:Int))=false:=by rw [decide_eq_false_iff_not]; omega
  simp only [c1,QD,if_false,hI,QB,QA]
  rw [aH9]
  simp only [c2,QD,if_false,QA]
theorem aBk {α β γ:Type} (f:α→β) (g:β→γ×Int):∀ l:List α,bF g (l.map f)=bF (fun x=>g (f x)) l
  | []=>rfl
  | x::l=>by simp only [QL,bF,aBk f g l]
theorem aI3 {α β:Type} {g:α→β×Int}:∀ {l:List α},(bF g l).2=0→(bF g l).1.length=l.length
  | [],_=>rfl
  | x::l,h=>by
    rw [bF] at h ⊢
    by_cases h1:(g x).2=0
    · by_cases h2:(bF g l).2=0
      · simp [h1,h2,aI3 h2]
      · simp [h1,h2] at h
    · simp [h1] at h
theorem aD6 {α β:Type} {g:α→β×Int} (l:List α):(bF g l).1.length≤l.length:=by
  by_cases h:(bF g l).2=0
  · rw [aI3 h]; exact XB _
  · cases l with
    | nil=>simp [bF]
    | cons x l =>
      rw [bF] at h ⊢
      by_cases h1:(g x).2=0
      · by_cases h2:(bF g l).2=0
        · simp [h1,h2] at h
        · simp [h1,h2]
      · simp [h1]
theorem aAb {α β:Type} {g:α→β×Int}:∀ {l:List α} {y:β},y∈(bF g l).1→∃ x∈l,y=(g x).1∧(g x).2=0
  | [],y,h=>by simp [bF] at h
  | x::l,y,h=>by
    rw [bF] at h
    by_cases h1:(g x).2=0
    · by_cases h2:(bF g l).2=0
      · simp only [h1,h2,ne_eq,not_true_eq_false,if_false,WQ] at h
        rcases h with rfl | h
        · exact ⟨x,by simp,rfl,h1⟩
        · obtain ⟨z,hz,e⟩:=aAb h
          exact ⟨z,WN _ hz,e⟩
      · simp [h1,h2] at h
    · simp [h1] at h
abbrev Sb (c:aQ) (d:GDb) (env:Rows) (k:cZ):mO:=mO.mk (bP.mk c d env k.expr) k.desc
theorem bR4 (l:List aU) (hl:l.length≤1048576):∀ i,i≤l.length→∀ acc:Rows,acc.length≤i→L8 l acc (i:Nat)=some (acc++(l.drop i).map (·.row),0):=by
  refine dZ ?_ ?_
  · intro acc _
    rw [L8]; simp
  · intro i hi ih acc ha
    rw [L8]
    simp only [bZ,hi,decide_true,if_true,bM hi,QB,QA]
    rw [rX (by simp only [QQ]; omega)]
    simp only [QA]
    rw [dI hi (by omega),ih _ (by simp only [QJ,QQ]; omega),QG hi]
    simp only [QL,WE,WR]
abbrev oH (ev:aJ→Gf) (ks:List cZ) (r:Row1):Row1×Int:=bF (fun k:cZ=>ev k.expr r) ks
theorem bUd {N:Nat} (hN:N≤1048576) (hS:aAl N) {P:Row1→Prop} {c:aQ} {d:GDb} {env:Rows} {ev:aJ→Gf} {ks:List cZ} {x:eP} (hx:x.order=ks.map (Sb c d env)) (hk:ks.length≤1048576)
    (H:∀ k∈ks,∀ r,P r→nM r c d env k.expr=some (ev k.expr r)) {rows:Rows} (hr:rows.length≤N) (hP:∀ r∈rows,P r) :
    ∀ i,i≤rows.length→∀ b:List aU,b.length=i→KL ks.length b→M3 rows x (i:Nat) b =
      if (bF (oH ev ks) (rows.drop i)).2≠0 then some ([],(bF (oH ev ks) (rows.drop i)).2)
      else some ((mJ (kLt (ks.map (·.desc))) [] (b++QP aU.mk (rows.drop i) (bF (oH ev ks) (rows.drop i)).1)).map (·.row),0):=by
  have ho:x.order.length=ks.length:=by rw [hx,WW]
  have hd:x.order.map (·.desc)=ks.map (·.desc):=by rw [hx,XF]; rfl
  refine dZ ?_ ?_
  · intro b hb hK
    rw [M3]
    simp only [bZ,WJ,decide_false,QD,if_false,WO,bF,ne_eq,not_true_eq_false,XQ,WV,QB]
    rw [hS x b (by omega) (by omega) (fun k hk=>by rw [ho]; exact hK k hk)]
    simp only [QA]
    have hl:(mJ (kLt (x.order.map (·.desc))) [] b).length=b.length:=by simpa using (aEj (kLt (x.order.map (·.desc))) b []).length_eq
    have:=bR4 (mJ (kLt (x.order.map (·.desc))) [] b) (by omega) 0 (by omega) [] (by simp)
    rw [hd] at this
    simpa [hd] using this
  · intro i hi ih b hb hK
    rw [M3,bM hi,QG hi]
    simp only [bZ,hi,decide_true,if_true,QB,QA,bF]
    have hPr:=hP _ (QE hi)
    have m:=aB1 (p:=x.order) (b:=32) (g:=fun k=>ev k.eval.c3 rows[i]) (F:=fun y3=>nM rows[i] y3.eval.c0 y3.eval.c1 y3.eval.c2 y3.eval.c3)
      (L:=fun acc j=>aBv rows[i] rows (i:Int) x b acc j) (E:=fun e=>([],e)) (K:=fun acc=>(appG 48 b ([(aU.mk rows[i] acc)]:List aU))>>=fun (y6:List aU)=>M3 rows x (QC .i64 ((i:Int)+1)) y6)
      (by omega) (by omega) (fun k hk=>by
        rw [hx] at hk
        obtain ⟨q,hq,rfl⟩:=WM.1 hk
        exact H q hq _ hPr) (fun j acc=>by rw [aBv]) [] (by simp)
    rw [m,hx,aBk]
    simp only [QN]
    by_cases h0:(bF (fun k:cZ=>ev k.expr rows[i]) ks).2=0
    · have hkl:=aI3 h0
      have ea:appG 48 b [aU.mk rows[i] (bF (fun k:cZ=>ev k.expr rows[i]) ks).1]=some (b++[aU.mk rows[i] (bF (fun k:cZ=>ev k.expr rows[i]) ks).1]):=nP (by simp only [QQ]; omega)
      simp only [oH,h0,ne_eq,not_true_eq_false,if_false,ea,QB,QA]
      rw [dI hi (by omega),ih _ (by simp [hb]) (fun k hk=>by
        rcases QO.1 hk with hk | hk
        · exact hK k hk
        · simp at hk; subst hk; exact hkl)]
      by_cases h1:(bF (oH ev ks) (rows.drop (i+1))).2=0
      · simp only [h1,ne_eq,not_true_eq_false,if_false,WZ,WE,WR]
      · simp [h1]
    · simp [h0,oH]
theorem cAr {N:Nat} (hN:N≤1048576) (hS:aAl N) {P:Row1→Prop} {c:aQ} {d:GDb} {env:Rows} {ev:aJ→Gf} {ks:List cZ} {x:eP} (hx:x.order=ks.map (Sb c d env)) (hk:ks.length≤1048576)
    (H:∀ k∈ks,∀ r,P r→nM r c d env k.expr=some (ev k.expr r)) {rows:Rows} (hr:rows.length≤N) (hP:∀ r∈rows,P r) :
    aKh x rows=some (jF (ks.map fun k=>(ev k.expr,k.desc)) rows):=by
  have:=bUd hN hS hx hk H hr hP 0 (by omega) [] rfl (fun k hk=>by simp at hk)
  rw [show ((0:Nat):Int)=0 from rfl] at this
  rw [aKh,this]
  unfold jF
  have e:(fun row:Row1=>bF (fun k:Gf×Bool=>k.1 row) (ks.map fun k=>(ev k.expr,k.desc)))=oH ev ks:=by
    funext row; rw [aBk]
  have e2:(ks.map fun k=>(ev k.expr,k.desc)).map (·.2)=ks.map (·.desc):=by rw [XF]; rfl
  rw [e,e2,WG,QN]
  split <;> rfl
theorem bRr {P:Row1→Prop} {c:aQ} {d:GDb} {env:Rows} {ev:aJ→Gf} {l:List aJ} (hl:l.length≤1048576) (H:∀ e∈l,∀ r,P r→nM r c d env e=some (ev e r)) {r:Row1} (hr:P r) :
    aDl r (l.map (bP.mk c d env))=some (bF (fun e=>ev e r) l):=by
  have m:=aB1 (p:=l.map (bP.mk c d env)) (b:=32) (g:=fun k=>ev k.c3 r) (F:=fun y1=>nM r y1.c0 y1.c1 y1.c2 y1.c3)
    (L:=fun acc j=>aD0 r (l.map (bP.mk c d env)) acc j) (E:=fun e=>([],e)) (K:=fun acc=>some (acc,0)) (by simpa using hl) (by omega) (fun k hk=>by
      obtain ⟨q,hq,rfl⟩:=WM.1 hk
      exact H q hq _ hr) (fun j acc=>by rw [aD0]) [] (by simp)
  rw [aDl,aMp,m,aBk]
  by_cases h0:(bF (fun e=>ev e r) l).2=0
  · simp only [h0,ne_eq,not_true_eq_false,if_false,QN,QB,QA]
    rw [← h0]
  · have e:(bF (fun e=>ev e r) l).1=[]:=by
      cases l with
      | nil=>simp [bF] at h0
      | cons x l =>
        rw [bF] at h0 ⊢
        by_cases h1:(ev x r).2=0
        · by_cases h2:(bF (fun e=>ev e r) l).2=0
          · simp [h1,h2] at h0
          · simp [h1,h2]
        · simp [h1]
    simp only [h0,ne_eq,not_false_eq_true,if_true,QB,QA]
    rw [← e]
theorem bXc (a b:Row1) (ha:a.length≤1048576):aHa a b=some (decide (a=b)):=by
  unfold aHa
  by_cases hl:a.length=b.length
  · have key:∀ i,i≤a.length→Z0 a b (i:Nat)=some (decide (a.drop i=b.drop i)):=by
      refine dZ ?_ ?_
      · rw [Z0]
        rw [WO,hl,WO]; simp
      · intro i hi ih
        have hb:i<b.length:=by omega
        rw [Z0]
        simp only [bZ,hi,decide_true,if_true,bM hi,bM hb,QB,QA]
        rw [dI hi (by omega),ih,QG hi,QG hb]
        have e:=aRx a[i] b[i]
        unfold aP5 at e
        by_cases h:a[i]=b[i]
        · rw [if_neg (by rw [e.2 h]; decide),h]; simp only [List.cons.injEq,true_and]
        · rw [if_pos (by rw [Bool.eq_false_iff.2 (fun h'=>h (e.1 h'))]; rfl)]; simp only [List.cons.injEq,h,false_and,decide_false]
    have:=key 0 (by omega)
    simp only [WG] at this
    rw [if_neg (by simp; omega)]
    exact this
  · have:a≠b:=fun e=>hl (by rw [e])
    rw [if_pos (by simp; omega)]
    simp [this]
theorem bTd (o:Rows) (y:Row1) (ho:o.length≤1048576) (hy:y.length≤1048576):aK3 o y=some (decide (y∈o)):=by
  have key:∀ i,i≤o.length→∃ n,U2 o y (i:Nat)=some n∧decide (0≤n)=decide (y∈o.drop i):=by
    refine dZ ?_ ?_
    · refine ⟨-1,?_,?_⟩
      · rw [U2]; simp
      · simp
    · intro i hi ⟨n,h1,h2⟩
      rw [U2]
      simp only [bZ,hi,decide_true,if_true,bM hi,QB,QA,aPe,bXc y _ hy,dI hi (show o.length≤4611686018427387904 by omega)]
      rw [QG hi]
      by_cases h:y=o[i]
      · refine ⟨i,by simp [h],?_⟩
        rw [decide_eq_true (show (0:Int)≤i by omega),decide_eq_true (by rw [← h]; simp)]
      · refine ⟨n,?_,?_⟩
        · rw [if_neg (by simp [h])]; exact h1
        · rw [h2]; simp only [WQ,h,false_or]
  obtain ⟨n,h1,h2⟩:=key 0 (by omega)
  unfold aK3 aKi
  rw [show ((0:Nat):Int)=0 from rfl] at h1
  rw [h1]
  simpa using h2
theorem bVt (r:Row1) (h:r.length≤1048576):aG3 r=some r:=by
  unfold aG3
  split
  · rename_i e
    simp only [decide_eq_true_eq] at e
    have:r=[]:=XL (by omega)
    rw [this]
  · rw [nP (by simp only [WF]; omega)]; rfl
theorem bOi (p:Rows) (hp:p.length≤1048576) (hr:∀ y∈p,y.length≤1048576):aAs p=some (fV [] p):=by
  have key:∀ i,i≤p.length→∀ acc:Rows,acc.length≤i→aAx p acc (i:Nat)=some (fV acc (p.drop i)):=by
    refine dZ ?_ ?_
    · intro acc _
      rw [aAx]; simp [fV]
    · intro i hi ih acc ha
      have hy:=hr _ (QE hi)
      rw [aAx]
      simp only [bZ,hi,decide_true,if_true,bM hi,QB,QA,bTd acc _ (by omega) hy,bVt _ hy]
      rw [QG hi,fV]
      by_cases h:p[i]∈acc
      · simp only [h,decide_true,QF,QD,if_false,if_true]
        rw [aCj,dI hi (by omega)]
        exact ih acc (by omega)
      · simp only [h,decide_false,QS,if_true,if_false]
        rw [rX (by simp only [QQ]; omega)]
        simp only [QA]
        rw [aCj,dI hi (by omega)]
        exact ih _ (by simp only [QJ,QQ]; omega)
  unfold aAs
  simpa using key 0 (by omega) [] (by simp)
theorem aAc:∀ (l o:Rows),(fV o l).length≤o.length+l.length
  | [],o=>by simp [fV]
  | x::l,o=>by
    rw [fV]
    split
    · have:=aAc l o; simp; omega
    · have:=aAc l (o++[x]); simp at this ⊢; omega
theorem bFh (n:Int) (r:Rows) (hr:r.length≤1048576):((some (if (decide (0≤n))=true then (decide (n<(r.length:Int))) else false))>>=fun (y8:Bool)=>if y8=true then ((iM r 0 n)>>=fun (y9:List (List aA))=>some (y9,(0:Int))) else (some (r,0)))=some (xM n r,0):=by
  unfold xM
  simp only [QB,QA]
  by_cases h0:0≤n
  · by_cases h1:n<(r.length:Int)
    · obtain ⟨m,rfl⟩:∃ m:Nat,n=m:=⟨n.toNat,by omega⟩
      have:m≤r.length:=by omega
      simp [h0,h1,aHg this]
    · simp [h0,h1]
  · simp [h0]
theorem cC6 {x:eP} (r:Rows) (hr:r.length≤1048576) (hl:∀ y∈r,y.length≤1048576):(if x.distinct=true then ((aAs r)>>=fun (y6:List (List aA))=>xK x y6) else (xK x r))=some (uQ x.distinct x.limit r,0):=by
  have J:∀ y:Rows,y.length≤1048576→xK x y=some (xM x.limit y,0):=fun y hy=>by
    unfold xK aJv
    exact bFh x.limit y hy
  unfold uQ
  by_cases hd:x.distinct=true
  · rw [if_pos hd,if_pos hd,bOi r hr hl]
    exact J _ (by have:=aAc r []; simp at this; omega)
  · rw [if_neg hd,if_neg hd]; exact J r hr
theorem bUk {N:Nat} (hS:aAl N) {c:aQ} {d:GDb} {env:Rows} {ev:aJ→Gf} {x:eP} {l:List (List aJ)} {w it:List aJ} {ks:List cZ} {R:Nat} (hN:N≤1048576) (R1:1≤R)
    (ho:x.on_=l.map fun l=>l.map (bP.mk c d env)) (hw:x.where_=w.map (bP.mk c d env)) (hx:x.order=ks.map (Sb c d env)) (hi:x.items=⟨it.map (bP.mk c d env)⟩)
    (hlt:l.length=x.tables.length) (hl:∀ y∈l,y.length≤1048576) (hwl:w.length≤1048576) (hkl:ks.length≤1048576) (hil:it.length≤1048576) (t3:x.tables.length≤3)
    (hR:∀ t∈x.tables,t.length≤R) (hRN:R ^ x.tables.length≤N) (hB:∀ t∈x.tables,∀ r∈t,fJ 1 r)
    (H:∀ e,(e∈w∨(∃ y∈l,e∈y)∨(∃ k∈ks,e=k.expr)∨e∈it)→∀ r,fJ 3 r→nM r c d env e=some (ev e r)) :
    Q5 x=some (aB0 ⟨QP (fun t l=>(t,l.map ev)) x.tables l,w.map ev,ks.map fun k=>(ev k.expr,k.desc),it.map ev,x.distinct,x.limit⟩):=by
  have j:=bUq hN R1 ho hw hlt hl hwl t3 hR hRN hB (fun e he=>H e (he.elim .inl fun h=>.inr (.inl h))) 0 (by omega) [[]] (by simp) (fun r hr=>by simp at hr; subst hr; exact ⟨by simp,by simp⟩)
  rw [show ((0:Nat):Int)=0 from rfl,WG,WG] at j
  rw [Q5,aKp,j]
  unfold aB0
  dsimp only
  have js:(QP (fun (t:Rows) (l:List aJ)=>(t,l.map ev)) x.tables l).length=x.tables.length:=by simp [hlt]
  have jm:∀ (T:List Rows) (L:List (List aJ)),∀ s∈QP (fun (t:Rows) (l:List aJ)=>(t,l.map ev)) T L,s.1∈T:=by
    intro T
    induction T with
    | nil=>intro L s hs; simp at hs
    | cons t T ih =>
      intro L s hs
      cases L with
      | nil=>simp at hs
      | cons y L =>
        rw [WZ,WQ] at hs
        rcases hs with rfl | hs
        · simp
        · exact WN _ (ih L s hs)
  have jl:=aKo R (QP (fun (t:Rows) (l:List aJ)=>(t,l.map ev)) x.tables l) [[]] 1 (fun s hs=>hR _ (jm _ _ s hs)) (by simp)
  have jB:=aPa (QP (fun (t:Rows) (l:List aJ)=>(t,l.map ev)) x.tables l) [[]] 0 (fun s hs=>hB _ (jm _ _ s hs)) (fun r hr=>by simp at hr; subst hr; exact ⟨by simp,by simp⟩)
  rw [js,XV] at jl
  rw [js,Nat.zero_add] at jB
  generalize joE (QP (fun (t:Rows) (l:List aJ)=>(t,l.map ev)) x.tables l) [[]]=J at jl jB ⊢
  obtain ⟨J1,J2⟩:=J
  dsimp only at jl jB ⊢
  by_cases h0:J2=0
  · subst h0
    have wl:=aE7 (w.map ev) J1
    have wB:∀ r∈(whE (w.map ev) J1).1,fJ 3 r:=fun r hr=>aA8 t3 (jB r ((O1 _ _).subset hr))
    simp only [ne_eq,not_true_eq_false,if_false,QB,QA]
    generalize whE (w.map ev) J1=W at wl wB ⊢
    obtain ⟨W1,W2⟩:=W
    dsimp only at wl wB ⊢
    by_cases h1:W2=0
    · subst h1
      simp only [decide_true,QF,QD,if_false]
      rw [cAr hN hS hx hkl (fun k hk r hr=>H k.expr (.inr (.inr (.inl ⟨k,hk,rfl⟩))) r hr) (QV wl (QV jl hRN)) wB]
      simp only [QA]
      have sl:(jF (ks.map fun k=>(ev k.expr,k.desc)) W1).1.length≤W1.length:=by
        unfold jF
        split
        · simp
        · rw [WW,(aEj _ _ _).length_eq]
          simp only [QN,List.length_zipWith]
          omega
      have sB:∀ r∈(jF (ks.map fun k=>(ev k.expr,k.desc)) W1).1,fJ 3 r:=by
        unfold jF
        split
        · simp
        · intro r hr
          obtain ⟨k,hk,rfl⟩:=WM.1 hr
          have hk2:=(aEj _ _ _).subset hk
          rw [QN] at hk2
          have:∀ (A B:List Row1) (k:aU),k∈QP aU.mk A B→k.row∈A:=by
            intro A
            induction A with
            | nil=>intro B k hk; simp at hk
            | cons a A ih =>
              intro B k hk
              cases B with
              | nil=>simp at hk
              | cons b B =>
                rw [WZ,WQ] at hk
                rcases hk with rfl | hk
                · simp
                · exact WN _ (ih B k hk)
          exact wB _ (this _ _ _ hk2)
      generalize jF (ks.map fun k=>(ev k.expr,k.desc)) W1=S at sl sB ⊢
      obtain ⟨S1,S2⟩:=S
      dsimp only at sl sB ⊢
      by_cases h2:S2=0
      · subst h2
        simp only [decide_true,QF,QD,if_false]
        have sN:S1.length≤1048576:=by omega
        have m:=aB1 (p:=S1) (b:=24) (g:=fun row=>bF (fun e=>ev e row) it) (F:=fun y3=>aDl y3 x.items.c0)
          (L:=fun acc j=>aDi (S1,0) x acc j) (E:=fun e=>([],e)) (K:=fun acc=>if x.distinct=true then ((aAs acc)>>=fun (y6:List (List aA))=>xK x y6) else (xK x acc))
          sN (by omega) (fun r hr=>by rw [hi]; exact bRr hil (fun e he r hr=>H e (.inr (.inr (.inr he))) r hr) (sB r hr)) (fun j acc=>by rw [aDi]) [] (by simp)
        rw [m]
        have e:mU (it.map ev) S1=bF (fun row=>bF (fun e=>ev e row) it) S1:=by
          unfold mU
          congr 1
          funext row
          rw [aBk]
        rw [e]
        have ml:=aD6 (g:=fun row=>bF (fun e=>ev e row) it) S1
        have mm:∀ y∈(bF (fun row=>bF (fun e=>ev e row) it) S1).1,y.length≤1048576:=by
          intro y hy
          obtain ⟨r,_,rfl,_⟩:=aAb hy
          exact QV (aD6 _) hil
        generalize bF (fun row=>bF (fun e=>ev e row) it) S1=M at ml mm ⊢
        obtain ⟨M1,M2⟩:=M
        dsimp only at ml mm ⊢
        by_cases h3:M2=0
        · subst h3
          simp only [ne_eq,not_true_eq_false,if_false,QN]
          exact cC6 M1 (by omega) mm
        · simp [h3]
      · simp [h2]
    · simp [h1]
  · simp [h0]
def mV (d:GDb) (l:List Int):Bool:=l.all fun i=>decide (0≤i)&&decide (i<(d.tables.length:Int))
def uB (d:GDb) (ev:aJ→Gf) (p:aP):Rows×Int:=if (p.tables.length=0∨p.on_.length≠p.tables.length)∨mV d p.tables=false then ([],4) else aB0 (jO d ev p)
theorem bLm {c:aQ} {d:GDb} {env:Rows} {p:aP} {b0:List Rows} {b1:List (List bP)} {w:List bP} (ho:p.order.length≤1048576) (hi:p.items.length≤1048576) :
    ∀ i,i≤p.order.length→∀ acc:List mO,acc.length≤i→aCx c d env p b0 b1 (w,(i:Nat),acc)=Q5 (eP.mk b0 b1 w (acc++(p.order.drop i).map (Sb c d env)) ⟨p.items.map (bP.mk c d env)⟩ p.distinct p.limit):=by
  refine dZ ?_ ?_
  · intro acc _
    rw [aCx,aMx c d env p.items hi]
    simp only [bZ,WJ,decide_false,QD,if_false,QB,QA,WO,WY,WV]
    generalize Q5 _=q
    cases q <;> rfl
  · intro i h ih acc ha
    rw [aCx,QG h]
    simp only [bZ,h,decide_true,if_true,bM h,QB,QA]
    rw [aMx c d env [p.order[i].expr] (by simp)]
    simp only [QA,QL,WY]
    have e:idx [bP.mk c d env p.order[i].expr] 0=some (bP.mk c d env p.order[i].expr):=rfl
    rw [e]
    simp only [QA]
    rw [nP (by simp only [QQ]; omega)]
    simp only [QA]
    rw [dI h (by omega),ih _ (by simp only [QJ,QQ]; omega)]
    simp only [WE,WR]
theorem bVs {c:aQ} {d:GDb} {env:Rows} {p:aP} {b0:List Rows} (hn:p.on_.length≤1048576) (hn1:∀ l∈p.on_,l.length≤1048576) (hw:p.where_.length≤1048576) (ho:p.order.length≤1048576) (hi:p.items.length≤1048576) :
    ∀ i,i≤p.on_.length→∀ acc:List (List bP),acc.length≤i→T9 c d env p b0 (i:Nat) acc=Q5 (eP.mk b0 (acc++(p.on_.drop i).map fun l=>l.map (bP.mk c d env)) (p.where_.map (bP.mk c d env)) (p.order.map (Sb c d env)) ⟨p.items.map (bP.mk c d env)⟩ p.distinct p.limit):=by
  refine dZ ?_ ?_
  · intro acc _
    rw [T9,aMx c d env p.where_ hw]
    simp only [bZ,WJ,decide_false,QD,if_false,QB,QA,WO,WY,WV]
    have:=bLm (c:=c) (d:=d) (env:=env) (b0:=b0) (b1:=acc) (w:=p.where_.map (bP.mk c d env)) ho hi 0 (by omega) [] (by simp)
    rw [show ((0:Nat):Int)=0 from rfl,WG,QN] at this
    exact this
  · intro i h ih acc ha
    rw [T9,QG h]
    simp only [bZ,h,decide_true,if_true,bM h,QB,QA]
    rw [aMx c d env _ (hn1 _ (QE h))]
    simp only [QA]
    rw [nP (by simp only [QQ]; omega)]
    simp only [QA]
    rw [dI h (by omega),ih _ (by simp only [QJ,QQ]; omega)]
    simp only [QL,WE,WR]
theorem aWt {d:GDb} {i:Int} (h0:0≤i) (h1:i<(d.tables.length:Int)):∃ t,idx d.tables i=some t∧t.rows=rowsOf d i∧t∈d.tables:=by
  obtain ⟨n,rfl⟩:∃ n:Nat,i=n:=⟨i.toNat,by omega⟩
  have hn:n<d.tables.length:=by omega
  refine ⟨d.tables[n],bM hn,?_,QE hn⟩
  unfold rowsOf
  simp [hn]
theorem bYw {c:aQ} {d:GDb} {env:Rows} {p:aP} (ht:p.tables.length≤1048576) :
    ∀ i,i≤p.tables.length→∀ acc:List Rows,acc.length≤i→aA6 p c d env (i:Nat) acc=if mV d (p.tables.drop i)=true then T9 c d env p (acc++(p.tables.drop i).map (rowsOf d)) 0 [] else some ([],4):=by
  refine dZ ?_ ?_
  · intro acc _
    rw [aA6]
    simp [mV]
  · intro i h ih acc ha
    rw [aA6,QG h]
    simp only [bZ,h,decide_true,if_true,bM h,QB,QA,orB]
    have e:mV d (p.tables[i]::p.tables.drop (i+1))=((decide (0≤p.tables[i])&&decide (p.tables[i]<(d.tables.length:Int)))&&mV d (p.tables.drop (i+1))):=rfl
    by_cases h0:p.tables[i]<0
    · have:¬ 0≤p.tables[i]:=by omega
      rw [if_neg (show ¬ mV d (p.tables[i]::p.tables.drop (i+1))=true by rw [e]; simp [this])]; simp [h0]
    · by_cases h1:(d.tables.length:Int)≤p.tables[i]
      · have:¬ p.tables[i]<(d.tables.length:Int):=by omega
        rw [if_neg (show ¬ mV d (p.tables[i]::p.tables.drop (i+1))=true by rw [e]; simp [this])]; simp [h1]
      · have h0':0≤p.tables[i]:=by omega
        have h1':p.tables[i]<(d.tables.length:Int):=by omega
        obtain ⟨t,e1,e2,_⟩:=aWt h0' h1'
        simp only [e,h0,h1,h0',h1',decide_true,decide_false,QT,QD,if_false,QM,e1,e2,QA]
        rw [nP (by simp only [QQ]; omega)]
        simp only [QA]
        rw [dI h (by omega),ih _ (by simp only [QJ,QQ]; omega)]
        simp only [QL,WE,WR]
structure aLt (N R:Nat) (p:aP):Prop where
  t3:p.tables.length≤3
  RN:R ^ p.tables.length≤N
  on:p.on_.length≤1048576
  on1:∀ l∈p.on_,l.length≤1048576
  wh:p.where_.length≤1048576
  ord:p.order.length≤1048576
  it:p.items.length≤1048576
structure DbB (R:Nat) (d:GDb):Prop where
  R1:1≤R
  rows:∀ t∈d.tables,t.rows.length≤R
  row:∀ t∈d.tables,∀ r∈t.rows,fJ 1 r
theorem bFr {α β γ δ:Type} (f:α→β) (g:β→γ→δ):∀ (A:List α) (B:List γ),QP g (A.map f) B=QP (fun a b=>g (f a) b) A B
  | [],B=>by simp
  | a::A,[]=>by simp
  | a::A,b::B=>by simp only [QL,WZ,bFr f g A B]
theorem aOf {d:GDb} {l:List Int} (h:mV d l=true) {t:Rows} (ht:t∈l.map (rowsOf d)):∃ x∈d.tables,x.rows=t:=by
  obtain ⟨i,hi,rfl⟩:=WM.1 ht
  have:=List.all_eq_true.1 h i hi
  simp only [QK,decide_eq_true_eq] at this
  obtain ⟨x,_,h2,h3⟩:=aWt this.1 this.2
  exact ⟨x,h3,h2⟩
theorem bXk {N R:Nat} (hS:aAl N) (hN:N≤1048576) {c:aQ} {d:GDb} (hd:DbB R d) {env:Rows} {ev:aJ→Gf} {p:aP} (hp:aLt N R p)
    (H:∀ e∈iE p,∀ r,fJ 3 r→nM r c d env e=some (ev e r)):xP c d env p=some (uB d ev p):=by
  rw [xP]
  unfold uB
  simp only [QB,QA,orB]
  by_cases h0:p.tables.length=0
  · simp [h0]
  by_cases h1:p.on_.length=p.tables.length
  case neg =>
    have:¬ (p.on_.length:Int)=(p.tables.length:Int):=by omega
    simp [h1,this]
  have e0:¬ (p.tables.length:Int)=0:=by omega
  have e1:(p.on_.length:Int)=(p.tables.length:Int):=by omega
  have t3:=hp.t3
  have k:=bYw (c:=c) (d:=d) (env:=env) (p:=p) (by omega) 0 (by omega) [] (by simp)
  rw [show ((0:Nat):Int)=0 from rfl,WG,QN] at k
  simp only [e0,e1,decide_false,decide_true,QF,XK,QD,if_false,k,h0,h1,ne_eq,not_true_eq_false,or_self,false_or]
  by_cases h2:mV d p.tables=true
  case neg=>simp [h2]
  rw [if_pos h2,if_neg (by simp [h2])]
  have k1:=bVs (c:=c) (d:=d) (env:=env) (p:=p) (b0:=p.tables.map (rowsOf d)) hp.on hp.on1 hp.wh hp.ord hp.it 0 (by omega) [] (by simp)
  rw [show ((0:Nat):Int)=0 from rfl,WG,QN] at k1
  rw [k1]
  have r:=bUk (c:=c) (d:=d) (env:=env) (ev:=ev) hS (x:=eP.mk (p.tables.map (rowsOf d)) (p.on_.map fun l=>l.map (bP.mk c d env)) (p.where_.map (bP.mk c d env)) (p.order.map (Sb c d env)) ⟨p.items.map (bP.mk c d env)⟩ p.distinct p.limit)
    (l:=p.on_) (w:=p.where_) (it:=p.items) (ks:=p.order) (R:=R) hN hd.R1 rfl rfl rfl rfl (by simpa using h1) hp.on1 hp.wh hp.ord hp.it (by simpa using t3)
    (fun t ht=>by obtain ⟨x,hx,rfl⟩:=aOf h2 ht; exact hd.rows x hx) (by simpa using hp.RN) (fun t ht=>by obtain ⟨x,hx,rfl⟩:=aOf h2 ht; exact hd.row x hx)
    (fun e he=>H e (by
      unfold iE
      rcases he with he | ⟨y,hy,he⟩ | ⟨k,hk,rfl⟩ | he
      · simp [he]
      · simp only [QO,WX]
        exact .inl (.inl (.inl ⟨y,hy,he⟩))
      · simp only [QO,WX]
        exact .inl (.inr ⟨k,hk,by simp⟩)
      · simp [he]))
  rw [r]
  dsimp only
  rw [bFr]
  rfl
end Go.Ab
