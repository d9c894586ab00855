/- What the functions compute,in plain Lean. -/
import Derived.Test.YthcemdafchcehabGreatFRunTrue
namespace Go.Ab
open Go
open _root_.Option renaming bind_some→QA,bind_eq_bind→QB,some.injEq→QH,bind_assoc→WT
open Go.IntKind renaming wrap→QC,bits→WS,wrap_i64→YA
open _root_.Bool renaming false_eq_true→QD,not_true→QF,and_assoc→QI,and_eq_true→QK,true_and→QM,eq_iff_iff→QR,not_false→QS,or_false→QT,and_true→QW,false_or→QX,false_and→WA,and_false→WB,true_or→WC,or_true→WD,and_self→WK,not_eq_true'→WQ,or_self→XK
open _root_.List renaming getElem_mem→QE,drop_eq_getElem_cons→QG,length_append→QJ,map_cons→QL,nil_append→QN,mem_append→QO,zipWith→QP,length_singleton→QQ,getElem?_eq_getElem→QU,length_cons→QY,length_pos_of_mem→QZ,append_assoc→WE,length_nil→WF,drop_zero→WG,flatMap_cons→WH,sum_cons→WI,replicate→WL,mem_cons→WM,mem_map→WN,mem_cons_of_mem→WO,drop_length→WP,singleton_append→WR,length→WU,append_nil→WV,length_map→WW,mem_flatMap→WX,map_nil→WY,zipWith_cons_cons→WZ,all_cons→XA,length_take→XC,map_append→XD,map_map→XF,nil_sublist→XG,foldl_cons→XL,eq_nil_of_length_eq_zero→XM,getElem_of_mem→XN,sum_append→XO,sum_nil→XP,getElem_map→XQ,zipWith_nil_left→XR
open _root_.Nat renaming le_trans→QV,lt_irrefl→WJ,le_refl→XB,mul_le_mul_right→XI,succ_mul→XJ,lt_succ_self→XV,one_mul→XW,mul_le_mul→XX,pow_succ→XY,pow_le_pow_right→XZ
open _root_.Int renaming tdiv_one→XH,mul_comm→XS,natAbs_tmod→XT,tdiv_neg→XU
theorem dX {n:Int} (h1 : -9223372036854775808≤n) (h2:n≤9223372036854775807):QC .i64 n=n:=by rw [YA]; omega
theorem dI {i n:Nat} (h:i<n) (hn:n≤4611686018427387904):QC .i64 ((i:Int)+1)=((i+1:Nat):Int):=by rw [dX] <;> omega
theorem bZ (i n:Nat):decide ((i:Int)<(n:Int))=decide (i<n):=by simp
theorem bBz {α:Type} (l:List α) (i:Nat):idx l (i:Int)=l[i]?:=by simp [idx]
theorem bM {α:Type} {l:List α} {i:Nat} (h:i<l.length):idx l (i:Int)=some l[i]:=by rw [bBz]; simp [h]
theorem dZ {M:Nat→Prop} {n:Nat} (h0:M n) (h:∀ i,i<n→M (i+1)→M i):∀ i,i≤n→M i:=by
  have:∀ k i,i+k=n→M i:=by
    intro k
    induction k with
    | zero => intro i hi; have : i = n := by omega
              subst this; exact h0
    | succ k ih=>intro i hi; exact h i (by omega) (ih (i+1) (by omega))
  exact fun i hi=>this (n - i) i (by omega)
theorem bFh {α:Type} {by':Nat} {n:Nat} {z:α} (h:(n:Int) * by'≤140737488355328):mkG by' (n:Int) z=some (WL n z):=by
  unfold mkG; rw [if_pos ⟨by omega,h⟩]; simp
def zL {α:Type} (z:α→Nat) (l:List α):Nat:=l.length+(l.map z).sum
def z0 {α:Type} (_:α):Nat:=0
theorem aHp {α:Type} (z:α→Nat) (x:α) (l:List α):((x::l).map z).sum=z x+(l.map z).sum:=by simp
theorem aNg {α:Type} {z:α→Nat}:∀ {p:List α} {y:α},y∈p→z y≤(p.map z).sum
  | x::p,y,h=>by
    rw [aHp]
    rcases WM.1 h with rfl | h
    · omega
    · have:=aNg (z:=z) h; omega
def zTb (l:List Int):Nat:=1000000000 * (l.length - 2)
instance (n:Int):Decidable (okI n):=inferInstanceAs (Decidable (_∧_))
def zN (n:Int):Nat:=if okI n then 0 else 1000000000
theorem zN0 {n:Int} (h:okI n):zN n=0:=if_pos h
def xI:aA→Nat
  | ⟨_,a1,a2⟩=>a2.length+zN a1
mutual
def U5:dD→Nat
  | ⟨a0,a1⟩=>bG a0
def eG:aP→Nat
  | ⟨a0,a1,a2,a3,a4,a5,a6,a7⟩=>zTb a0+(zL z0) a0+(a1.length+aF7 a1)+(a2.length+C9 a2)+(a3.length+aE3 a3)+(a4.length+C9 a4)+(zL WU) a5
def bG:aJ→Nat
  | ⟨a0,a1,a2,a3,a4,a5,a6,a7⟩=>xI a3+(a6.length+C9 a6)+(a7.length+aKc a7)
def aKc:List aP→Nat
  | []=>0
  | x::l=>eG x+aKc l
def C9:List aJ→Nat
  | []=>0
  | x::l=>bG x+C9 l
def aE3:List dD→Nat
  | []=>0
  | x::l=>U5 x+aE3 l
def aF7:List (List aJ)→Nat
  | []=>0
  | x::l=>(x.length+C9 x)+aF7 l
end
theorem aVd:∀ l:List aP,aKc l=(l.map eG).sum
  | []=>by simp [aKc]
  | x::l=>by rw [aHp,← aVd l]; simp only [aKc]
theorem aCs:∀ l:List aJ,C9 l=(l.map bG).sum
  | []=>by simp [C9]
  | x::l=>by rw [aHp,← aCs l]; simp only [C9]
theorem aOo:∀ l:List dD,aE3 l=(l.map U5).sum
  | []=>by simp [aE3]
  | x::l=>by rw [aHp,← aOo l]; simp only [aE3]
theorem aLg:∀ l:List (List aJ),aF7 l=(l.map (zL bG)).sum
  | []=>by simp [aF7]
  | x::l=>by rw [aHp,← aLg l]; simp only [aF7,zL,aCs]
theorem nK {α:Type} {b:Nat} {l m:List α} (h:(l.length+m.length) * b≤140737488355328):appG b l m=some (l++m):=by unfold appG; rw [if_pos h]
theorem gather {α β γ:Type} {p:List α} {f:α→List β} {G:α→List β→Option (List β)} {L:List β→Int→Option γ} {K:List β→Option γ} {c:Nat} (hp:p.length≤4194304)
    (hG:∀ y∈p,∀ acc:List β,acc.length+(f y).length≤c→G y acc=some (acc++f y))
    (hL:∀ (i:Nat) acc,L acc (i:Int)=if (decide ((i:Int)<(p.length:Int)))=true then ((idx p (i:Int))>>=fun y=>(G y acc)>>=fun z=>L z (QC .i64 ((i:Int)+1))) else K acc) :
    ∀ acc:List β,acc.length+(p.flatMap f).length≤c→L acc 0=K (acc++p.flatMap f):=by
  have key:∀ i,i≤p.length→∀ acc:List β,acc.length+((p.drop i).flatMap f).length≤c→L acc (i:Nat)=K (acc++(p.drop i).flatMap f):=by
    refine dZ ?_ ?_
    · intro acc _
      rw [hL]; simp
    · intro i hi ih acc ha
      rw [QG hi,WH,QJ] at ha
      rw [hL,bM hi,dI hi (by omega)]
      simp only [bZ,hi,decide_true,if_true,QB,QA,hG _ (QE hi) acc (by omega)]
      rw [ih _ (by rw [QJ]; omega),QG hi,WH,WE]
  intro acc ha
  simpa using key 0 (by omega) acc (by simpa using ha)
theorem folded {α β γ:Type} {p:List α} {g:α→β→Option β} {h:α→β→β} {L:β→Int→Option γ} {K:β→Option γ} (hp:p.length≤1048576)
    (hg:∀ y∈p,∀ b,g y b=some (h y b))
    (hL:∀ (i:Nat) b,L b (i:Int)=if (decide ((i:Int)<(p.length:Int)))=true then ((idx p (i:Int))>>=fun y=>(g y b)>>=fun z=>L z (QC .i64 ((i:Int)+1))) else K b) :
    ∀ b,L b 0=K (p.foldl (fun b y=>h y b) b):=by
  have key:∀ i,i≤p.length→∀ b,L b (i:Nat)=K ((p.drop i).foldl (fun b y=>h y b) b):=by
    refine dZ ?_ ?_
    · intro b; rw [hL]; simp
    · intro i hi ih b
      rw [hL,bM hi,dI hi (by omega)]
      simp only [bZ,hi,decide_true,if_true,QB,QA,hg _ (QE hi)]
      rw [ih,QG hi,XL]
  intro b
  simpa using key 0 (by omega) b
theorem P9 {α:Type} {z:α→Nat} {l:List α} {x:α} (h:x∈l):z x+l.length≤zL z l:=by
  have:=aNg (z:=z) h
  unfold zL; omega
theorem aEj (x:aJ):bG x=xI x.value+zL bG x.kids+zL eG x.sub:=by
  obtain ⟨a0,a1,a2,⟨b0,b1,b2⟩,a4,a5,a6,a7⟩:=x
  simp only [bG,xI,aCs,aVd,zL]
theorem aA2 (q:aP):eG q=zTb q.tables+zL z0 q.tables+zL (zL bG) q.on_+zL bG q.where_+(q.order.length+(q.order.map fun k=>bG k.expr).sum)+zL bG q.items+zL WU q.names:=by
  obtain ⟨a0,a1,a2,a3,a4,a5,a6,a7⟩:=q
  simp only [eG,aCs,aOo,aLg,zL]
  have:(a3.map U5)=a3.map fun k=>bG k.expr:=List.map_congr_left fun k _=>by obtain ⟨k0,k1⟩:=k; simp only [U5]
  rw [this]
theorem vW {α:Type} {z:α→Nat} (l:List α):l.length≤zL z l:=by unfold zL; omega
theorem aJz {x k:aJ} (h:k∈x.kids):bG k+x.kids.length≤bG x:=by have:=aEj x; have:=P9 (z:=bG) h; omega
theorem aIr {x:aJ} {p:aP} (h:p∈x.sub):eG p+x.sub.length≤bG x:=by have:=aEj x; have:=P9 (z:=eG) h; omega
theorem aYm (x:aJ):x.kids.length+x.sub.length≤bG x:=by have:=aEj x; have:=vW (z:=bG) x.kids; have:=vW (z:=eG) x.sub; omega
theorem onZ {q:aP} {l:List aJ} {e:aJ} (h:l∈q.on_) (he:e∈l):bG e+l.length+q.on_.length≤eG q:=by have:=aA2 q; have:=P9 (z:=zL bG) h; have:=P9 (z:=bG) he; omega
theorem bBr {q:aP} {e:aJ} (h:e∈q.where_):bG e+q.where_.length≤eG q:=by have:=aA2 q; have:=P9 (z:=bG) h; omega
theorem bDw {q:aP} {e:aJ} (h:e∈q.items):bG e+q.items.length≤eG q:=by have:=aA2 q; have:=P9 (z:=bG) h; omega
theorem bFa {q:aP} {k:dD} (h:k∈q.order):bG k.expr+q.order.length≤eG q:=by have:=aA2 q; have:=aNg (z:=fun k:dD=>bG k.expr) h; omega
theorem aM8 (q:aP):q.tables.length+q.on_.length+q.where_.length+q.order.length+q.items.length+q.names.length≤eG q:=by
  have:=aA2 q; have:=vW (z:=z0) q.tables; have:=vW (z:=zL bG) q.on_; have:=vW (z:=bG) q.where_; have:=vW (z:=bG) q.items; have:=vW (z:=WU) q.names; omega
theorem aL7 (s:List UInt8):∃ b,nY s=some b∧qX s=some b:=by
  unfold qX nY fI
  exact ⟨_,rfl,rfl⟩
theorem bNw (s:List UInt8):∃ b,A8 s=some b:=by
  obtain ⟨b,h1,h2⟩:=aL7 s
  unfold A8
  by_cases h:s=[]
  · exact ⟨true,by simp [h]⟩
  · exact ⟨b,by simp [h,h1]⟩
theorem bGl (x:aA):qI x=kW x∧∃ b,kW x=some b:=by
  unfold qI kW fI
  simp only [QB,QA]
  by_cases h0:x.kind=0
  · simp [h0]
  by_cases h1:x.kind=1
  · simp [h1]
  by_cases h2:x.kind=2
  · simp [h2]
  by_cases h3:x.kind=3
  · by_cases n0:x.num=0
    · simp [h3,n0]
    by_cases n1:x.num=1
    · simp [h3,n1]
    have e:(if decide (0≤x.num)=true then decide (x.num≤1) else false)=false:=by
      by_cases p:0≤x.num
      · simp [p]; omega
      · simp [p]
    rw [e]
    simp [h3,n0,n1]
  · simp [h0,h1,h2,h3]
theorem bHp (x:aA):∃ b,R3 x=some b∧aCr x=some b:=by
  obtain ⟨h1,b,h2⟩:=bGl x
  unfold R3 aCr
  rw [h1,h2]
  cases b <;> simp
theorem orB (b c:Bool):(if b=true then true else c)=(b||c):=by cases b <;> rfl
theorem uK (b c:Bool):(if b=true then c else false)=(b&&c):=by cases b <;> rfl
theorem bOf (b c:Bool):(if b=true then (!c) else false)=(b&&!c):=by cases b <;> rfl
def zvE (x:eO):Bool:=((decide (x.value.kind=0))&&((decide (x.value.num=0))&&((decide (x.value.text=[]))&&true)))
theorem cCc (x:eO):aAs x=(if ((!decide (x.kind=2)&&(!decide (x.qual=[])||!decide (x.name=[])))||(!decide (x.kind=1)&&!zvE x))=true then some false else
    if ((!decide (x.kind=3)&&!decide (x.kind=4))&&!decide (x.op=0)||(x.not_&&!(decide (5≤x.kind)&&decide (x.kind≤8))))=true then some false else
    (if (decide (x.kind=1))=true then ((R3 x.value)>>=fun (y10:Bool)=>some (y10&&decide ((QC .i64 ((x.kids.length:Int)+(x.sub.length:Int)))=0)))
     else if (decide (x.kind=2))=true then ((nY x.name)>>=fun (y12:Bool)=>(if y12=true then A8 x.qual else some false)>>=fun (y14:Bool)=>some (y14&&decide ((QC .i64 ((x.kids.length:Int)+(x.sub.length:Int)))=0)))
     else some (if x.kind=3 then (decide (x.op=15)||decide (x.op=16))&&decide ((x.kids.length:Int)=1)&&decide ((x.sub.length:Int)=0)
      else if x.kind=4 then (decide (1≤x.op)&&decide (x.op≤14))&&decide ((x.kids.length:Int)=2)&&decide ((x.sub.length:Int)=0)
      else if x.kind=5 then decide ((x.kids.length:Int)=1)&&decide ((x.sub.length:Int)=0)
      else if x.kind=6 then decide ((x.kids.length:Int)=3)&&decide ((x.sub.length:Int)=0)
      else if x.kind=7 then (decide (2≤(x.kids.length:Int))&&decide ((x.kids.length:Int)≤9))&&decide ((x.sub.length:Int)=0)
      else if x.kind=8 then decide ((x.kids.length:Int)=1)&&decide ((x.sub.length:Int)=1)
      else if x.kind=9 then decide ((x.kids.length:Int)=0)&&decide ((x.sub.length:Int)=1)
      else false))):=by
  unfold aAs fI
  simp only [QB]
  simp only [QA]
  simp only [uK,orB]
  obtain ⟨k,o,no,v,q,nm,ks,sb⟩:=x
  obtain ⟨bl,l1,l2⟩:=bHp v
  obtain ⟨bn,n1,n2⟩:=aL7 nm
  obtain ⟨bq,q1⟩:=bNw q
  have hz:zvE ⟨k,o,no,v,q,nm,ks,sb⟩=((decide (v.kind=0))&&((decide (v.num=0))&&((decide (v.text=[]))&&true))):=rfl
  simp only [l1,n1,q1,hz,QA]
  generalize ((decide (v.kind=0))&&((decide (v.num=0))&&((decide (v.text=[]))&&true)))=zv
  generalize decide (q=[])=q0
  generalize decide (nm=[])=n0
  by_cases k1:k=1
  · subst k1; cases q0 <;> cases n0 <;> cases no <;> by_cases o0:o=0 <;> cases bl <;> simp [o0]
  by_cases k2:k=2
  · subst k2; cases zv <;> cases no <;> by_cases o0:o=0 <;> cases bn <;> simp [o0]
  by_cases k3:k=3
  · subst k3; cases q0 <;> cases n0 <;> cases zv <;> cases no <;> simp
  by_cases k4:k=4
  · subst k4; cases q0 <;> cases n0 <;> cases zv <;> cases no <;> simp
  have kk:¬ (k=3∨k=4):=by omega
  by_cases k5:k=5
  · subst k5; cases q0 <;> cases n0 <;> cases zv <;> cases no <;> by_cases o0:o=0 <;> simp [o0]
  by_cases k6:k=6
  · subst k6; cases q0 <;> cases n0 <;> cases zv <;> cases no <;> by_cases o0:o=0 <;> simp [o0]
  by_cases k7:k=7
  · subst k7; cases q0 <;> cases n0 <;> cases zv <;> cases no <;> by_cases o0:o=0 <;> simp [o0]
  by_cases k8:k=8
  · subst k8; cases q0 <;> cases n0 <;> cases zv <;> cases no <;> by_cases o0:o=0 <;> simp [o0]
  by_cases k9:k=9
  · subst k9; cases q0 <;> cases n0 <;> cases zv <;> cases no <;> by_cases o0:o=0 <;> simp [o0]
  have kr:(decide (5≤k)&&decide (k≤8))=false:=by
    by_cases h:5≤k
    · have:¬ k≤8:=by omega
      simp [this]
    · simp [h]
  cases q0 <;> cases n0 <;> cases zv <;> cases no <;> by_cases o0:o=0 <;> simp [o0,k1,k2,k3,k4,k5,k6,k7,k8,k9]
theorem cCy (x:eO) (bl bc:Bool) (h1:aCr x.value=some bl) (h2:(nY x.name>>=fun (y12:Bool)=>(if y12=true then A8 x.qual else some false))=some bc):zK x=some (
    if x.kind=1 then (⟨false,false,true,false,0,0,0⟩,bl)
    else if x.kind=2 then (⟨false,false,false,true,0,0,0⟩,bc)
    else if x.kind=3 then (⟨true,false,false,false,1,1,0⟩,decide (x.op=15)||decide (x.op=16))
    else if x.kind=4 then (⟨true,false,false,false,2,2,0⟩,decide (1≤x.op)&&decide (x.op≤14))
    else if x.kind=5 then (⟨false,true,false,false,1,1,0⟩,true)
    else if x.kind=6 then (⟨false,true,false,false,3,3,0⟩,true)
    else if x.kind=7 then (⟨false,true,false,false,2,9,0⟩,true)
    else if x.kind=8 then (⟨false,true,false,false,1,1,1⟩,true)
    else if x.kind=9 then (⟨false,false,false,false,0,0,1⟩,true)
    else (⟨false,false,false,false,0,0,0⟩,false)):=by
  obtain ⟨k,o,no,v,q,nm,ks,sb⟩:=x
  obtain ⟨bn,n1,n2⟩:=aL7 nm
  obtain ⟨bo,o1,o2⟩:=aL7 q
  unfold zK
  dsimp only at h1 h2 ⊢
  have h3:((if ((true&&(bn==true))&&((decide (q=[]))==false))=true then qX q else some default).bind fun (y3:Bool)=>(if (true&&(bn==true))=true then some (if (decide (q=[]))=true then true else y3) else some default).bind fun (y4:Bool)=>(some (if bn=true then y4 else false)).bind fun y5=>some ((kM.mk false false false true 0 0 0),y5))=some ((kM.mk false false false true 0 0 0),bc):=by
    unfold A8 at h2
    rw [n1,o1] at h2
    rw [o2]
    cases bn
    · simp at h2; simp [h2]
    · by_cases q0:q=[]
      · simp [q0] at h2; simp [q0,h2]
      · simp [q0] at h2; simp [q0,h2]
  simp only [h1,n2,QB,QA]
  by_cases k1:k=1
  · simp [k1]
  by_cases k2:k=2
  · subst k2; simp only [QA] at h3; simpa using h3
  by_cases k3:k=3
  · simp [k3]
  by_cases k4:k=4
  · simp [k4]
  by_cases k5:k=5
  · simp [k5]
  by_cases k6:k=6
  · simp [k6]
  by_cases k7:k=7
  · simp [k7]
  by_cases k8:k=8
  · simp [k8]
  by_cases k9:k=9
  · simp [k9]
  simp [k1,k2,k3,k4,k5,k6,k7,k8,k9]
theorem bEz:aEr=U3:=by
  funext p q
  unfold aEr U3 aIh zR fI
  rfl
def okT (p:Int):Prop:=0≤p∧p≤3
theorem aPf {p:Int} (h:okT p):zR p=some true:=by
  unfold zR fI
  have h1:=h.1
  have h2:=h.2
  simp [h1,h2]
theorem bBj {p q:Int} (hp:okT p) (hq:okT q):∃ r,U3 p q=some r∧okT r.1:=by
  unfold U3
  rw [aPf hp,aPf hq]
  simp only [QF,beq_self_eq_true,WK,if_true,QD,if_false,QB,QA]
  have h0:okT 0:=⟨by omega,by omega⟩
  by_cases p0:p=0
  · exact ⟨(q,true),by simp [p0],hq⟩
  · by_cases q0:q=0∨p=q
    · refine ⟨(p,true),?_,hp⟩
      rcases q0 with h | h <;> simp [p0,h]
    · have a1:¬ q=0:=fun h=>q0 (.inl h)
      have a2:¬ p=q:=fun h=>q0 (.inr h)
      exact ⟨(0,false),by simp [p0,a1,a2],h0⟩
theorem aZu:aB3=yJ:=rfl
theorem aP5 (p:Int):∃ b,yJ p=some b:=⟨_,rfl⟩
theorem bHk (p q:Int):aC0 p q=some (decide (p=0)||decide (p=q)):=by
  unfold aC0
  by_cases h:p=0 <;> simp [h]
theorem bHz (a p q:Int):aCv a p q=some ((decide (p=0)||decide (p=a))&&(decide (q=0)||decide (q=a))):=by
  unfold aCv
  by_cases h1:p=a <;> by_cases h2:p=0 <;> by_cases h3:q=a <;> by_cases h4:q=0 <;> simp [h1,h2,h3,h4]
theorem bR6 (o p q:Int) (hp:okT p) (hq:okT q):∃ r,aJd o p q=some r∧aGp o p q=some r∧okT r.1:=by
  have h0:okT 0:=⟨by omega,by omega⟩
  have h3:okT 3:=⟨by omega,by omega⟩
  have h2:okT 2:=⟨by omega,by omega⟩
  have h1:okT 1:=⟨by omega,by omega⟩
  obtain ⟨m,m1,m2⟩:=bBj hp hq
  obtain ⟨t1,e1⟩:=aP5 p
  obtain ⟨t2,e2⟩:=aP5 q
  unfold aJd aGp S9 aHy sI fI
  simp only [bEz,aZu,m1,e1,e2,aPf hp,aPf hq,bHk,bHz,QB,QA]
  by_cases a:1≤o
  · by_cases b:o≤14
    · have c1:¬ o<1:=by omega
      have c2:¬ 14<o:=by omega
      by_cases d:o≤2
      · cases t1 <;> cases t2
        · exact ⟨(0,false),by simp [c1,c2,d],by simp [a,b,d],h0⟩
        · exact ⟨(0,false),by simp [c1,c2,d],by simp [a,b,d],h0⟩
        · exact ⟨(0,false),by simp [c1,c2,d],by simp [a,b,d],h0⟩
        · exact ⟨(3,true),by simp [c1,c2,d],by simp [a,b,d],h3⟩
      by_cases d2:o≤8
      · cases hm:m.2
        · exact ⟨(0,false),by simp [c1,c2,d,d2,hm],by simp [a,b,d,d2,hm],h0⟩
        · exact ⟨(3,true),by simp [c1,c2,d,d2,hm],by simp [a,b,d,d2,hm],h3⟩
      by_cases d3:o=9
      · subst d3
        generalize (decide (p=0)||decide (p=2))=b1
        generalize (decide (q=0)||decide (q=2))=b2
        cases b1 <;> cases b2
        · exact ⟨(0,false),by simp,by simp,h0⟩
        · exact ⟨(0,false),by simp,by simp,h0⟩
        · exact ⟨(0,false),by simp,by simp,h0⟩
        · exact ⟨(2,true),by simp,by simp,h2⟩
      · generalize (decide (p=0)||decide (p=1))=b1
        generalize (decide (q=0)||decide (q=1))=b2
        cases b1 <;> cases b2
        · exact ⟨(0,false),by simp [c1,c2,d,d2,d3],by simp [a,b,d,d2,d3],h0⟩
        · exact ⟨(0,false),by simp [c1,c2,d,d2,d3],by simp [a,b,d,d2,d3],h0⟩
        · exact ⟨(0,false),by simp [c1,c2,d,d2,d3],by simp [a,b,d,d2,d3],h0⟩
        · exact ⟨(1,true),by simp [c1,c2,d,d2,d3],by simp [a,b,d,d2,d3],h1⟩
    · have c2:14<o:=by omega
      exact ⟨(0,false),by simp [c2],by simp [b],h0⟩
  · have c1:o<1:=by omega
    exact ⟨(0,false),by simp [c1],by simp [a],h0⟩
theorem bR7 (o p:Int):∃ r,aH6 o p=some r∧aI1 o p=some r∧okT r.1:=by
  have h0:okT 0:=⟨by omega,by omega⟩
  have h3:okT 3:=⟨by omega,by omega⟩
  have h1:okT 1:=⟨by omega,by omega⟩
  obtain ⟨t1,e1⟩:=aP5 p
  unfold aH6 aI1 sI
  simp only [aZu,e1,bHk,bHz,QB,QA]
  by_cases a:o=15
  · subst a
    cases t1
    · exact ⟨(0,false),by simp,by simp,h0⟩
    · exact ⟨(3,true),by simp,by simp,h3⟩
  by_cases b:o=16
  · subst b
    generalize (decide (p=0)||decide (p=1))=b1
    cases b1
    · exact ⟨(0,false),by simp,by simp,h0⟩
    · exact ⟨(1,true),by simp,by simp,h1⟩
  · exact ⟨(0,false),by simp [a,b],by simp [a,b],h0⟩
theorem bVu (l:List Int) (hl:l.length≤1048576) (h:∀ p∈l,okT p):∃ r,aKd l=some r∧O4 l=some r.2:=by
  have key:∀ i,i≤l.length→∀ x,okT x→∃ r,Y3 l x (i:Nat)=some r∧D7 l x (i:Nat)=some r.2:=by
    refine dZ ?_ ?_
    · intro x hx
      rw [Y3,D7]
      exact ⟨(x,true),by simp,by simp⟩
    · intro i hi ih x hx
      rw [Y3,D7]
      obtain ⟨m,m1,m2⟩:=bBj hx (h _ (QE hi))
      simp only [bZ,hi,decide_true,if_true,bM hi,dI hi (by omega),bEz,m1,QB,QA]
      cases hm:m.2
      · exact ⟨(0,false),by simp,by simp⟩
      · simpa using ih m.1 m2
  unfold aKd O4
  exact key 0 (by omega) 0 ⟨by omega,by omega⟩
theorem bLu {v:aA} (h:R3 v=some true):okT v.kind:=by
  unfold R3 at h
  have hv:kW v=some true:=by
    obtain ⟨_,b,e2⟩:=bGl v
    rw [e2] at h ⊢
    cases b with
    | true=>rfl
    | false=>simp at h
  unfold kW at hv
  unfold okT
  by_cases k0:v.kind=0
  · omega
  by_cases k1:v.kind=1
  · omega
  by_cases k2:v.kind=2
  · omega
  by_cases k3:v.kind=3
  · omega
  simp [k0,k1,k2,k3] at hv
def bDv (p:aJ):Prop:=(p.kind=1∧p.kids.length=0∧p.sub.length=0∧okT p.value.kind)∨(p.kind=2∧p.kids.length=0∧p.sub.length=0)∨(p.kind=3∧p.kids.length=1∧p.sub.length=0)∨(p.kind=4∧p.kids.length=2∧p.sub.length=0) ∨
  (p.kind=5∧p.kids.length=1∧p.sub.length=0)∨(p.kind=6∧p.kids.length=3∧p.sub.length=0)∨(p.kind=7∧(2≤p.kids.length∧p.kids.length≤9)∧p.sub.length=0)∨(p.kind=8∧p.kids.length=1∧p.sub.length=1)∨(p.kind=9∧p.kids.length=0∧p.sub.length=1)
theorem bAp {β:Type} {b:Bool} {m:Option Bool} {K:Bool→Option β}:((if (true&&(b==true))=true then m else some (default:Bool)).bind fun y=>(some (if b=true then y else false)).bind K)=((if b=true then m else some false).bind K):=by cases b <;> cases m <;> rfl
theorem bE7 (b c:Bool):(if b=true then some c else some false)=some (b&&c):=by cases b <;> rfl
theorem bM3 {β:Type} {b n u:Bool} {K:Bool→Option β}:((if ((true&&(b==true))&&(n==false))=true then some u else some (default:Bool)).bind fun y8=>(if (true&&(b==true))=true then some (if n=true then true else y8) else some (default:Bool)).bind fun y9=>(some (if b=true then y9 else false)).bind K)=K (b&&(n||u)):=by cases b <;> cases n <;> rfl
theorem or3 {β:Type} {b n u:Bool} {K:Bool→Option β}:((if ((true&&(b==true))&&(n==false))=true then some u else some (default:Bool)).bind fun y8=>K (b&&(n||y8)))=K (b&&(n||u)):=by cases b <;> cases n <;> rfl
theorem bRz (p:aJ) (f:kM) (ok:Bool) (h:zK (eO.mk p.kind p.op false p.value [] [120] [] [])=some (f,ok)):aD6 p=some (ok&&(f.op||decide (p.op=0))&&(f.not_||!p.not_)&&(f.value||((decide (p.value.kind=0))&&((decide (p.value.num=0))&&((decide (p.value.text=[]))&&true))))&&(f.name||(decide (p.up=0)&&decide (p.at_=0)))&&decide (f.least≤(p.kids.length:Int))&&decide ((p.kids.length:Int)≤f.most)&&decide ((p.sub.length:Int)=f.subs)):=by
  rw [aD6,h]
  simp only [QB]
  rw [show ∀ K:kM×Bool→Option Bool,(some (f,ok)).bind K=K (f,ok) from fun _=>rfl]
  simp only [bAp,bM3]
  simp only [bE7,QA,uK,orB]
  exact or3 (K:=fun z=>some (z&&decide (f.least≤(p.kids.length:Int))&&decide ((p.kids.length:Int)≤f.most)&&decide ((p.sub.length:Int)=f.subs)))
theorem bSa (p:aJ) (hk:p.kids.length≤1048576) (hs:p.sub.length≤1048576):∃ b,aAf p=some b∧aD6 p=some b∧(b=true→bDv p):=by
  obtain ⟨bl,l1,l2⟩:=bHp p.value
  have hlk:bl=true→okT p.value.kind:=fun h=>bLu (by rw [l1,h])
  have e1:mkG 136 (p.kids.length:Int) (eO.mk 0 0 false (aA.mk 0 0 []) [] [] [] [])=some (WL p.kids.length (eO.mk 0 0 false (aA.mk 0 0 []) [] [] [] [])):=bFh (by omega)
  have e2:mkG 112 (p.sub.length:Int) (jJ.mk false [] [] [] [] 0)=some (WL p.sub.length (jJ.mk false [] [] [] [] 0)):=bFh (by omega)
  have hw:QC .i64 ((p.kids.length:Int)+(p.sub.length:Int))=(p.kids.length:Int)+(p.sub.length:Int):=dX (by omega) (by omega)
  have hF:=cCy (eO.mk p.kind p.op false p.value [] [120] [] []) bl true l2 rfl
  obtain ⟨⟨f,ok⟩,hfo⟩:∃ r,zK (eO.mk p.kind p.op false p.value [] [120] [] [])=some r:=⟨_,hF⟩
  rw [bRz p f ok hfo]
  rw [hfo] at hF
  have n97:nY [97]=some true:=rfl
  have m0:A8 []=some true:=rfl
  have hS:aAf p=if (!decide (p.kind=2)&&(!decide (p.up=0)||!decide (p.at_=0)))=true then some false else (if decide (p.kind=2)=true then aAs (eO.mk p.kind p.op p.not_ p.value [] [97] (WL p.kids.length (eO.mk 0 0 false (aA.mk 0 0 []) [] [] [] [])) (WL p.sub.length (jJ.mk false [] [] [] [] 0))) else aAs (eO.mk p.kind p.op p.not_ p.value [] [] (WL p.kids.length (eO.mk 0 0 false (aA.mk 0 0 []) [] [] [] [])) (WL p.sub.length (jJ.mk false [] [] [] [] 0)))):=by
    unfold aAf aGx
    simp only [QB]
    simp only [bAp]
    simp only [e1,e2,bE7,QA,Option.bind_fun_some,uK,orB]
  rw [hS]
  unfold bDv
  simp only [cCc,zvE,List.length_replicate,hw,l1,n97,m0]
  obtain ⟨k,o,no,v,up,at_,ks,sb⟩:=p
  dsimp only at hk hs hF hlk ⊢
  generalize ((decide (v.kind=0))&&((decide (v.num=0))&&((decide (v.text=[]))&&true)))=zv
  have fin:∀ (a b:Bool) (P:Prop),a=b→(b=true→P)→∃ c,(some a:Option Bool)=some c∧(some b:Option Bool)=some c∧(c=true→P):=by
    rintro a b P rfl h; exact ⟨a,rfl,rfl,h⟩
  have hif:∀ (a b:Bool) (X:Bool),(if a=true then some false else if b=true then some false else some X)=some (!a&&(!b&&X)):=by intro a b X; cases a <;> cases b <;> rfl
  have hif1:∀ (a:Bool) (X:Bool),(if a=true then some false else some X)=some (!a&&X):=by intro a X; cases a <;> rfl
  clear hS hfo e1 e2 hw l1 l2 n97 m0
  have eN:∀ n:Int,(decide (n≤(ks.length:Int))&&decide ((ks.length:Int)≤n))=decide ((ks.length:Int)=n):=fun n=>by rw [QR]; simp only [QK,decide_eq_true_eq]; omega
  have e0:decide ((ks.length:Int)+(sb.length:Int)=0)=(decide ((ks.length:Int)=0)&&decide ((sb.length:Int)=0)):=by rw [QR]; simp only [QK,decide_eq_true_eq]; omega
  by_cases k1:k=1
  · subst k1
    simp only [Int.reduceEq,if_true,if_false,QH,Prod.mk.injEq] at hF
    obtain ⟨rfl,rfl⟩:=hF
    simp only [Int.reduceEq,Int.reduceLE,if_true,if_false,decide_true,decide_false,QF,QS,QM,WA,QW,WB,QX,QT,WC,WD,QD,QB,QA,hif,hif1]
    refine fin _ _ _ ?_ fun h=>?_
    · simp only [e0,QI]
      try simp only [← QI (decide (_≤(ks.length:Int))),eN]
      generalize decide ((ks.length:Int)=0)=c0
      generalize decide ((sb.length:Int)=0)=d0
      generalize decide (up=0)=u0
      generalize decide (at_=0)=a0
      generalize decide (o=0)=o0
      cases ok <;> cases no <;> cases u0 <;> cases a0 <;> cases o0 <;> cases c0 <;> cases d0 <;> rfl
    · simp only [QK,decide_eq_true_eq] at h
      exact .inl ⟨trivial,by omega,by omega,hlk h.1.1.1.1.1.1⟩
  by_cases k2:k=2
  · subst k2
    simp only [Int.reduceEq,if_true,if_false,QH,Prod.mk.injEq] at hF
    obtain ⟨rfl,rfl⟩:=hF
    simp only [Int.reduceEq,Int.reduceLE,if_true,if_false,decide_true,decide_false,QF,QS,QM,WA,QW,WB,QX,QT,WC,WD,QD,QB,QA,hif,hif1]
    refine fin _ _ _ ?_ fun h=>?_
    · simp only [e0,QI]
      try simp only [← QI (decide (_≤(ks.length:Int))),eN]
      generalize decide ((ks.length:Int)=0)=c0
      generalize decide ((sb.length:Int)=0)=d0
      generalize decide (o=0)=o0
      cases no <;> cases zv <;> cases o0 <;> cases c0 <;> cases d0 <;> rfl
    · simp only [QK,decide_eq_true_eq] at h
      simp only [Int.reduceEq,false_and,false_or,true_and,or_false]
      omega
  by_cases k3:k=3
  · subst k3
    simp only [Int.reduceEq,if_true,if_false,QH,Prod.mk.injEq] at hF
    obtain ⟨rfl,rfl⟩:=hF
    simp only [Int.reduceEq,Int.reduceLE,if_true,if_false,decide_true,decide_false,QF,QS,QM,WA,QW,WB,QX,QT,WC,WD,QD,QB,QA,hif,hif1]
    refine fin _ _ _ ?_ fun h=>?_
    · simp only [e0,QI]
      try simp only [← QI (decide (_≤(ks.length:Int))),eN]
      generalize decide ((ks.length:Int)=1)=c1
      generalize decide ((sb.length:Int)=0)=d0
      generalize decide (up=0)=u0
      generalize decide (at_=0)=a0
      generalize decide (o=15)=o5
      generalize decide (o=16)=o6
      cases no <;> cases zv <;> cases u0 <;> cases a0 <;> cases o5 <;> cases o6 <;> cases c1 <;> cases d0 <;> rfl
    · simp only [QK,decide_eq_true_eq] at h
      simp only [Int.reduceEq,false_and,false_or,true_and,or_false]
      omega
  by_cases k4:k=4
  · subst k4
    simp only [Int.reduceEq,if_true,if_false,QH,Prod.mk.injEq] at hF
    obtain ⟨rfl,rfl⟩:=hF
    simp only [Int.reduceEq,Int.reduceLE,if_true,if_false,decide_true,decide_false,QF,QS,QM,WA,QW,WB,QX,QT,WC,WD,QD,QB,QA,hif,hif1]
    refine fin _ _ _ ?_ fun h=>?_
    · simp only [e0,QI]
      try simp only [← QI (decide (_≤(ks.length:Int))),eN]
      generalize decide ((ks.length:Int)=2)=c2
      generalize decide ((sb.length:Int)=0)=d0
      generalize decide (up=0)=u0
      generalize decide (at_=0)=a0
      generalize decide (1≤o)=o7
      generalize decide (o≤14)=o8
      cases no <;> cases zv <;> cases u0 <;> cases a0 <;> cases o7 <;> cases o8 <;> cases c2 <;> cases d0 <;> rfl
    · simp only [QK,decide_eq_true_eq] at h
      simp only [Int.reduceEq,false_and,false_or,true_and,or_false]
      omega
  by_cases k5:k=5
  · subst k5
    simp only [Int.reduceEq,if_true,if_false,QH,Prod.mk.injEq] at hF
    obtain ⟨rfl,rfl⟩:=hF
    simp only [Int.reduceEq,Int.reduceLE,if_true,if_false,decide_true,decide_false,QF,QS,QM,WA,QW,WB,QX,QT,WC,WD,QD,QB,QA,hif,hif1]
    refine fin _ _ _ ?_ fun h=>?_
    · simp only [e0,QI]
      try simp only [← QI (decide (_≤(ks.length:Int))),eN]
      generalize decide ((ks.length:Int)=1)=c1
      generalize decide ((sb.length:Int)=0)=d0
      generalize decide (up=0)=u0
      generalize decide (at_=0)=a0
      generalize decide (o=0)=o0
      cases zv <;> cases u0 <;> cases a0 <;> cases o0 <;> cases c1 <;> cases d0 <;> rfl
    · simp only [QK,decide_eq_true_eq] at h
      simp only [Int.reduceEq,false_and,false_or,true_and,or_false]
      omega
  by_cases k6:k=6
  · subst k6
    simp only [Int.reduceEq,if_true,if_false,QH,Prod.mk.injEq] at hF
    obtain ⟨rfl,rfl⟩:=hF
    simp only [Int.reduceEq,Int.reduceLE,if_true,if_false,decide_true,decide_false,QF,QS,QM,WA,QW,WB,QX,QT,WC,WD,QD,QB,QA,hif,hif1]
    refine fin _ _ _ ?_ fun h=>?_
    · simp only [e0,QI]
      try simp only [← QI (decide (_≤(ks.length:Int))),eN]
      generalize decide ((ks.length:Int)=3)=c3
      generalize decide ((sb.length:Int)=0)=d0
      generalize decide (up=0)=u0
      generalize decide (at_=0)=a0
      generalize decide (o=0)=o0
      cases zv <;> cases u0 <;> cases a0 <;> cases o0 <;> cases c3 <;> cases d0 <;> rfl
    · simp only [QK,decide_eq_true_eq] at h
      simp only [Int.reduceEq,false_and,false_or,true_and,or_false]
      omega
  by_cases k7:k=7
  · subst k7
    simp only [Int.reduceEq,if_true,if_false,QH,Prod.mk.injEq] at hF
    obtain ⟨rfl,rfl⟩:=hF
    simp only [Int.reduceEq,Int.reduceLE,if_true,if_false,decide_true,decide_false,QF,QS,QM,WA,QW,WB,QX,QT,WC,WD,QD,QB,QA,hif,hif1]
    refine fin _ _ _ ?_ fun h=>?_
    · simp only [e0,QI]
      try simp only [← QI (decide (_≤(ks.length:Int))),eN]
      generalize decide (2≤(ks.length:Int))=c4
      generalize decide ((ks.length:Int)≤9)=c5
      generalize decide ((sb.length:Int)=0)=d0
      generalize decide (up=0)=u0
      generalize decide (at_=0)=a0
      generalize decide (o=0)=o0
      cases zv <;> cases u0 <;> cases a0 <;> cases o0 <;> cases c4 <;> cases c5 <;> cases d0 <;> rfl
    · simp only [QK,decide_eq_true_eq] at h
      simp only [Int.reduceEq,false_and,false_or,true_and,or_false]
      omega
  by_cases k8:k=8
  · subst k8
    simp only [Int.reduceEq,if_true,if_false,QH,Prod.mk.injEq] at hF
    obtain ⟨rfl,rfl⟩:=hF
    simp only [Int.reduceEq,Int.reduceLE,if_true,if_false,decide_true,decide_false,QF,QS,QM,WA,QW,WB,QX,QT,WC,WD,QD,QB,QA,hif,hif1]
    refine fin _ _ _ ?_ fun h=>?_
    · simp only [e0,QI]
      try simp only [← QI (decide (_≤(ks.length:Int))),eN]
      generalize decide ((ks.length:Int)=1)=c1
      generalize decide ((sb.length:Int)=1)=d1
      generalize decide (up=0)=u0
      generalize decide (at_=0)=a0
      generalize decide (o=0)=o0
      cases zv <;> cases u0 <;> cases a0 <;> cases o0 <;> cases c1 <;> cases d1 <;> rfl
    · simp only [QK,decide_eq_true_eq] at h
      simp only [Int.reduceEq,false_and,false_or,true_and,or_false]
      omega
  by_cases k9:k=9
  · subst k9
    simp only [Int.reduceEq,if_true,if_false,QH,Prod.mk.injEq] at hF
    obtain ⟨rfl,rfl⟩:=hF
    simp only [Int.reduceEq,Int.reduceLE,if_true,if_false,decide_true,decide_false,QF,QS,QM,WA,QW,WB,QX,QT,WC,WD,QD,QB,QA,hif,hif1]
    refine fin _ _ _ ?_ fun h=>?_
    · simp only [e0,QI]
      try simp only [← QI (decide (_≤(ks.length:Int))),eN]
      generalize decide ((ks.length:Int)=0)=c0
      generalize decide ((sb.length:Int)=1)=d1
      generalize decide (up=0)=u0
      generalize decide (at_=0)=a0
      generalize decide (o=0)=o0
      cases no <;> cases zv <;> cases u0 <;> cases a0 <;> cases o0 <;> cases c0 <;> cases d1 <;> rfl
    · simp only [QK,decide_eq_true_eq] at h
      simp only [Int.reduceEq,false_and,false_or,true_and,or_false]
      omega
  simp only [k1,k2,k3,k4,k5,k6,k7,k8,k9,if_false,QH,Prod.mk.injEq] at hF
  obtain ⟨rfl,rfl⟩:=hF
  simp only [k1,k2,k3,k4,k5,k6,k7,k8,k9,Int.reduceEq,Int.reduceLE,if_true,if_false,decide_true,decide_false,QF,QS,QM,WA,QW,WB,QX,QT,WC,WD,QD,QB,QA,hif,hif1]
  refine ⟨false,?_,rfl,by simp⟩
  repeat' split
  all_goals first | rfl | simp
theorem aTv {n:Nat} {L:Int→Option Bool} {good:Nat→Prop} {KP:Prop}
    (hstep:∀ i,i<n→(good i→L (i:Nat)=L ((i+1:Nat):Int))∧(¬ good i→L (i:Nat)=some false))
    (hend:∃ b,L (n:Nat)=some b∧(b=true↔KP)):∃ b,L 0=some b∧(b=true↔(∀ i,i<n→good i)∧KP):=by
  have key:∀ i,i≤n→∃ b,L (i:Nat)=some b∧(b=true↔(∀ k,i≤k→k<n→good k)∧KP):=by
    refine dZ ?_ ?_
    · obtain ⟨b,h1,h2⟩:=hend
      exact ⟨b,h1,h2.trans ⟨fun h=>⟨fun k h1 h2=>by omega,h⟩,fun h=>h.2⟩⟩
    · intro i hi ih
      obtain ⟨b,h1,h2⟩:=ih
      obtain ⟨s1,s2⟩:=hstep i hi
      by_cases hg:good i
      · refine ⟨b,(s1 hg).trans h1,h2.trans ⟨fun h=>⟨fun k k1 k2=>?_,h.2⟩,fun h=>⟨fun k k1 k2=>h.1 k (by omega) k2,h.2⟩⟩⟩
        by_cases e:k=i
        · subst e; exact hg
        · exact h.1 k (by omega) k2
      · refine ⟨false,s2 hg,?_⟩
        simp only [QD,false_iff,not_and]
        intro h
        exact absurd (h i (by omega) hi) hg
  obtain ⟨b,h1,h2⟩:=key 0 (by omega)
  exact ⟨b,h1,h2.trans ⟨fun h=>⟨fun k hk=>h.1 k (by omega) hk,h.2⟩,fun h=>⟨fun k _ hk=>h.1 k hk,h.2⟩⟩⟩
theorem bZq {a b:Bool} {P Q:Prop} (h1:a=true↔P) (h2:b=true↔Q) (h:P↔Q):a=b:=by
  rw [QR]; exact h1.trans (h.trans h2.symm)
theorem aP8 {γ:Type} {n:Nat} {L M:Int→Option γ} (hstep:∀ i,i<n→L ((i+1:Nat):Int)=M ((i+1:Nat):Int)→(∃ r,L ((i+1:Nat):Int)=some r)→L (i:Nat)=M (i:Nat)∧∃ r,L (i:Nat)=some r)
    (hend:L (n:Nat)=M (n:Nat)∧∃ r,L (n:Nat)=some r):L 0=M 0∧∃ r,L 0=some r:=by
  have key:∀ i,i≤n→L (i:Nat)=M (i:Nat)∧∃ r,L (i:Nat)=some r :=
    dZ hend fun i hi ih=>hstep i hi ih.1 ih.2
  exact key 0 (by omega)
theorem aLs (s:List UInt8):qX s=nY s∧∃ b,nY s=some b∧(b=true↔1≤s.length∧s.length≤20):=by
  unfold qX nY fI
  simp only [QB,QA]
  refine ⟨by simp,_,rfl,?_⟩
  by_cases h1:(1:Int)≤(s.length:Int)
  · simp [h1]; omega
  · simp [h1]; omega
theorem aXp (t:eD) (s:List UInt8) (hl:t.cols.length≤1048576):aKf t s=xL t s∧∃ r,xL t s=some r:=by
  have:=aP8 (n:=t.cols.length) (L:=fun i=>M5 t.cols s i) (M:=fun i=>yY s t i) ?_ ?_
  · unfold aKf aM0 xL
    obtain ⟨h1,r,h2⟩:=this
    try simp only at h1 h2
    rw [← h1,h2]
    exact ⟨rfl,r,rfl⟩
  · intro i hi h1 h2
    try dsimp only at h1 h2 ⊢
    rw [M5,yY]
    simp only [bZ,bM hi,dI hi (by omega),hi,decide_true,if_true,aLw,QB,QA]
    by_cases hc:t.cols[i].name=s
    · simp [hc]
    · simp only [hc,decide_false,QD,if_false]
      exact ⟨h1,h2⟩
  · try dsimp only
    rw [M5,yY]
    simp
theorem bFp (c:aQ) (s:List UInt8) (hl:c.tables.length≤1048576):aG8 c s=wE c s∧∃ r,wE c s=some r:=by
  have:=aP8 (n:=c.tables.length) (L:=fun i=>K3 c.tables s i) (M:=fun i=>N9 s c i) ?_ ?_
  · unfold aG8 aMz wE
    obtain ⟨h1,r,h2⟩:=this
    try simp only at h1 h2
    rw [← h1,h2]
    exact ⟨rfl,r,rfl⟩
  · intro i hi h1 h2
    try dsimp only at h1 h2 ⊢
    rw [K3,N9]
    simp only [bZ,bM hi,dI hi (by omega),hi,decide_true,if_true,aNj,QB,QA]
    by_cases hc:c.tables[i].name=s
    · simp [hc]
    · simp only [hc,decide_false,QD,if_false]
      exact ⟨h1,h2⟩
  · try dsimp only
    rw [K3,N9]
    simp
def vH (t:eD) (j:Nat):Prop:=∃ c,t.cols[j]?=some c∧(1≤c.name.length∧c.name.length≤20)∧(1≤c.type∧c.type≤3)∧xL t c.name=some (j:Int)
def xY (t:eD):Prop:=(∀ j,j<t.cols.length→vH t j)∧((1≤t.name.length∧t.name.length≤20)∧1≤t.cols.length∧t.cols.length≤4)
theorem cDl (t:eD) (hl:t.cols.length≤1048576):∃ b,aHk t=some b∧(b=true↔xY t):=by
  unfold aHk xY
  refine aTv (n:=t.cols.length) (L:=fun i=>X0 t i) (good:=vH t) ?_ ?_
  · intro i hi
    try dsimp only
    rw [X0]
    obtain ⟨n1,b,n2,n3⟩:=aLs t.cols[i].name
    obtain ⟨c1,k,c2⟩:=aXp t t.cols[i].name hl
    simp only [bZ,bM hi,dI hi (by omega),hi,decide_true,if_true,n1,n2,c1,c2,QB,QA]
    have hP:vH t i↔(1≤t.cols[i].name.length∧t.cols[i].name.length≤20)∧(1≤t.cols[i].type∧t.cols[i].type≤3)∧k=(i:Int):=by
      unfold vH
      constructor
      · rintro ⟨c,h1,h2,h3,h4⟩
        rw [QU hi] at h1
        simp only [QH] at h1; subst h1
        rw [c2] at h4
        exact ⟨h2,h3,by simpa using h4⟩
      · rintro ⟨h2,h3,h4⟩
        exact ⟨_,QU hi,h2,h3,by rw [c2,h4]⟩
    rw [hP,← n3]
    cases b with
    | false=>simp
    | true =>
      by_cases t1:t.cols[i].type<1
      · simp [t1] <;> omega
      by_cases t3:3<t.cols[i].type
      · simp [t1,t3] <;> omega
      by_cases hk:k=(i:Int)
      · simp [t1,t3,hk] <;> omega
      · simp [t1,t3,hk]
  · try dsimp only
    rw [X0]
    obtain ⟨n1,b,n2,n3⟩:=aLs t.name
    simp only [bZ,WJ,decide_false,QD,if_false,n1,n2,QB,QA]
    refine ⟨_,rfl,?_⟩
    rw [← n3]
    cases b with
    | false=>simp
    | true =>
      by_cases l1:(1:Int)≤(t.cols.length:Int)
      · simp [l1] <;> omega
      · simp [l1] <;> omega
def R5 (c:aQ):Prop:=(∀ i,i<c.tables.length→∃ t,c.tables[i]?=some t∧xY t∧wE c t.name=some (i:Int))∧c.tables.length≤4
def xA (c:aQ):Prop:=c.tables.length≤1048576∧∀ t∈c.tables,t.cols.length≤1048576
theorem bAv (c:aQ) (hs:xA c):∃ b,aDh c=some b∧(b=true↔R5 c):=by
  unfold aDh R5
  refine aTv (n:=c.tables.length) (L:=fun i=>M0 c i) (good:=fun i=>∃ t,c.tables[i]?=some t∧xY t∧wE c t.name=some (i:Int)) ?_ ?_
  · intro i hi
    try dsimp only
    rw [M0]
    obtain ⟨b,n2,n3⟩:=cDl c.tables[i] (hs.2 _ (QE hi))
    obtain ⟨c1,k,c2⟩:=bFp c c.tables[i].name hs.1
    have:=hs.1
    simp only [bZ,bM hi,dI hi (by omega),hi,decide_true,if_true,n2,c1,c2,QB,QA]
    have hP:(∃ t,c.tables[i]?=some t∧xY t∧wE c t.name=some (i:Int))↔xY c.tables[i]∧k=(i:Int):=by
      constructor
      · rintro ⟨t,h1,h2,h3⟩
        rw [QU hi] at h1
        simp only [QH] at h1; subst h1
        rw [c2] at h3
        exact ⟨h2,by simpa using h3⟩
      · rintro ⟨h2,h3⟩
        exact ⟨_,QU hi,h2,by rw [c2,h3]⟩
    rw [hP,← n3]
    cases b with
    | false=>simp
    | true =>
      by_cases hk:k=(i:Int)
      · simp [hk]
      · simp [hk]
  · try dsimp only
    rw [M0]
    refine ⟨decide ((c.tables.length:Int)≤4),by simp,?_⟩
    simp only [decide_eq_true_eq]; omega
theorem aU4 (c:aQ) (hs:xA c):∃ b,aFe c=some b∧(b=true↔R5 c):=by
  unfold aFe
  by_cases h4:(4:Int)<(c.tables.length:Int)
  · rw [if_pos (by simpa using h4)]
    refine ⟨false,rfl,?_⟩
    unfold R5
    simp only [QD,false_iff,not_and]
    intro _; omega
  rw [if_neg (by simpa using h4)]
  have:=aTv (n:=c.tables.length) (L:=fun i=>U8 c i) (good:=fun i=>∃ t,c.tables[i]?=some t∧xY t∧wE c t.name=some (i:Int)) (KP:=True) ?_ ?_
  · obtain ⟨b,h1,h2⟩:=this
    exact ⟨b,h1,h2.trans ⟨fun h=>⟨h.1,by omega⟩,fun h=>⟨h.1,trivial⟩⟩⟩
  · intro i hi
    try dsimp only
    rw [U8]
    obtain ⟨n1,b,n2,n3⟩:=aLs c.tables[i].name
    obtain ⟨c1,k,c2⟩:=bFp c c.tables[i].name hs.1
    have:=hs.1
    have hcl:=hs.2 _ (QE hi)
    have inner:∀ (j:Nat),j≤c.tables[i].cols.length→((∀ m,j≤m→m<c.tables[i].cols.length→vH c.tables[i] m)→yZ (i:Int) c c.tables[i] (j:Nat)=U8 c ((i+1:Nat):Int))∧(¬ (∀ m,j≤m→m<c.tables[i].cols.length→vH c.tables[i] m)→yZ (i:Int) c c.tables[i] (j:Nat)=some false):=by
      refine dZ ?_ ?_
      · rw [yZ]
        simp only [bZ,WJ,decide_false,QD,if_false,dI hi (by omega)]
        refine ⟨fun _=>trivial,fun h=>absurd (fun m h1 h2=>by omega) h⟩
      · intro j hj ih
        rw [yZ]
        obtain ⟨_,b',m2,m3⟩:=aLs c.tables[i].cols[j].name
        obtain ⟨_,k',d2⟩:=aXp c.tables[i] c.tables[i].cols[j].name hcl
        simp only [bZ,bM hj,dI hj (by omega),hj,decide_true,if_true,m2,d2,fI,QB,QA]
        have hP:vH c.tables[i] j↔b'=true∧(1≤c.tables[i].cols[j].type∧c.tables[i].cols[j].type≤3)∧k'=(j:Int):=by
          unfold vH
          constructor
          · rintro ⟨c',h1,h2,h3,h4⟩
            rw [QU hj] at h1
            simp only [QH] at h1; subst h1
            rw [d2] at h4
            exact ⟨m3.2 h2,h3,by simpa using h4⟩
          · rintro ⟨h2,h3,h4⟩
            exact ⟨_,QU hj,m3.1 h2,h3,by rw [d2,h4]⟩
        have hall:(∀ m,j≤m→m<c.tables[i].cols.length→vH c.tables[i] m)↔vH c.tables[i] j∧∀ m,j+1≤m→m<c.tables[i].cols.length→vH c.tables[i] m:=by
          constructor
          · intro h; exact ⟨h j (by omega) hj,fun m h1 h2=>h m (by omega) h2⟩
          · rintro ⟨h1,h2⟩ m h3 h4
            by_cases e:m=j
            · subst e; exact h1
            · exact h2 m (by omega) h4
        rw [hall,hP]
        cases b' with
        | false=>simp
        | true =>
          by_cases hk:k'=(j:Int)
          · by_cases t1:1≤c.tables[i].cols[j].type
            · by_cases t3:c.tables[i].cols[j].type≤3
              · have t3':¬ 3<c.tables[i].cols[j].type:=by omega
                simpa [hk,t1,t3,t3',d2] using ih
              · simp [hk,t1,t3,d2]
            · simp [hk,t1,d2]
          · simp [hk,d2]
    obtain ⟨i1,i2⟩:=inner 0 (by omega)
    rw [show ((0:Nat):Int)=0 from rfl] at i1 i2
    simp only [bZ,bM hi,dI hi (by omega),hi,decide_true,if_true,n2,c2,fI,QB,QA]
    have hP:(∃ t,c.tables[i]?=some t∧xY t∧wE c t.name=some (i:Int))↔xY c.tables[i]∧k=(i:Int):=by
      constructor
      · rintro ⟨t,h1,h2,h3⟩
        rw [QU hi] at h1
        simp only [QH] at h1; subst h1
        rw [c2] at h3
        exact ⟨h2,by simpa using h3⟩
      · rintro ⟨h2,h3⟩
        exact ⟨_,QU hi,h2,by rw [c2,h3]⟩
    rw [hP]
    unfold xY
    rw [← n3]
    cases b with
    | false=>simp
    | true =>
      by_cases hk:k=(i:Int)
      · by_cases l1:(1:Int)≤(c.tables[i].cols.length:Int)
        · by_cases l4:(c.tables[i].cols.length:Int)≤4
          · have l1':1≤c.tables[i].cols.length:=by omega
            have l4':c.tables[i].cols.length≤4:=by omega
            simp only [hk,l1,l4,l1',l4']
            simp only [Nat.zero_le,true_implies] at i1 i2
            simpa using And.intro i1 (fun (x:Nat) (hx:x<c.tables[i].cols.length) (hn:¬ vH c.tables[i] x)=>i2 fun h=>hn (h x hx))
          · have l4':¬ c.tables[i].cols.length≤4:=by omega
            simp [hk,l1,l4,l4']
        · have l1':¬ 1≤c.tables[i].cols.length:=by omega
          simp [hk,l1,l1']
      · simp [hk]
  · try dsimp only
    rw [U8]
    exact ⟨true,by simp,by simp⟩
def rD (t:eD):List Int:=t.cols.map gD.type
theorem bOi (t:eD) (hl:t.cols.length≤1048576):J5 t=some (rD t)∧A7 t=some (rD t):=by
  have key:∀ i,i≤t.cols.length→∀ l:List Int,l.length≤i→vV t l (i:Nat)=some (l++(t.cols.drop i).map gD.type)∧vU t l (i:Nat)=some (l++(t.cols.drop i).map gD.type):=by
    refine dZ ?_ ?_
    · intro l _
      rw [vV,vU]; simp
    · intro i hi ih l hl2
      rw [vV,vU]
      have ea:appG 8 l [t.cols[i].type]=some (l++[t.cols[i].type]):=by unfold appG; rw [if_pos (by simp; omega)]
      simp only [bZ,bM hi,dI hi (by omega),hi,decide_true,if_true,ea,QB,QA]
      have:=ih (l++[t.cols[i].type]) (by simp; omega)
      rw [QG hi,QL]
      simpa using this
  unfold J5 A7 rD
  have:=key 0 (by omega) [] (by simp)
  simpa using this
def kG (c:aQ):List Int→List Int→List Int×Bool
  | acc,[]=>(acc,true)
  | acc,i::l=>if 0≤i∧i<(c.tables.length:Int) then kG c (acc++rD (c.tables[i.toNat]?.getD default)) l else ([],false)
def qE (c:aQ):Prop:=c.tables.length≤4∧∀ t∈c.tables,t.cols.length≤4∧∀ x∈rD t,okT x
theorem aB7 (c:aQ) (hc:qE c) (l:List Int) (hl:l.length≤1048576):aDl c l=some (kG c [] l)∧yQ c l=some (kG c [] l):=by
  have key:∀ i,i≤l.length→∀ acc:List Int,acc.length≤4 * i→O7 l c acc (i:Nat)=some (kG c acc (l.drop i))∧L8 l c acc (i:Nat)=some (kG c acc (l.drop i)):=by
    refine dZ ?_ ?_
    · intro acc _
      rw [O7,L8]; simp [kG]
    · intro i hi ih acc ha
      rw [O7,L8,QG hi,kG]
      have hw:QC .i64 ((c.tables.length:Int) - 1)=(c.tables.length:Int) - 1:=by have:=hc.1; exact dX (by omega) (by omega)
      unfold fI
      simp only [bZ,bM hi,dI hi (by omega),hi,decide_true,if_true,hw,QB,QA]
      by_cases h0:0≤l[i]
      · by_cases h1:l[i]<(c.tables.length:Int)
        · have n0:¬ l[i]<0:=by omega
          have n1:¬ (c.tables.length:Int)≤l[i]:=by omega
          have n2:l[i]≤(c.tables.length:Int) - 1:=by omega
          have hj:l[i].toNat<c.tables.length:=by omega
          have hx:idx c.tables l[i]=some c.tables[l[i].toNat]:=by
            have:=bM hj
            rwa [show ((l[i].toNat:Nat):Int)=l[i] by omega] at this
          obtain ⟨t1,t2⟩:=hc.2 _ (QE hj)
          obtain ⟨e1,e2⟩:=bOi c.tables[l[i].toNat] (by omega)
          have tl:(rD c.tables[l[i].toNat]).length≤4:=by unfold rD; simpa using t1
          have ea:appG 8 acc (rD c.tables[l[i].toNat])=some (acc++rD c.tables[l[i].toNat]):=by unfold appG; rw [if_pos (by omega)]
          have hg:c.tables[l[i].toNat]?.getD default=c.tables[l[i].toNat]:=by simp [hj]
          have hp:0≤l[i]∧l[i]<(c.tables.length:Int):=⟨h0,h1⟩
          rw [if_pos hp,hg]
          simp only [h0,n0,n1,n2,hx,e1,e2,ea,decide_true,decide_false,if_true,if_false,QD,QF,QA]
          exact ih _ (by rw [QJ]; omega)
        · have n1:(c.tables.length:Int)≤l[i]:=by omega
          have n2:¬ l[i]≤(c.tables.length:Int) - 1:=by omega
          have hn:¬ (0≤l[i]∧l[i]<(c.tables.length:Int)):=by omega
          rw [if_neg hn]
          simp [h0,n1,n2]
      · have n0:l[i]<0:=by omega
        have hn:¬ (0≤l[i]∧l[i]<(c.tables.length:Int)):=by omega
        rw [if_neg hn]
        simp [h0,n0]
  unfold aDl yQ
  have:=key 0 (by omega) [] (by simp)
  simpa using this
theorem aP3 (c:aQ) (hc:qE c):∀ (l acc:List Int),(∀ x∈acc,okT x)→(∀ x∈(kG c acc l).1,okT x)∧(kG c acc l).1.length≤acc.length+4 * l.length
  | [],acc,h=>⟨h,by simp [kG]⟩
  | i::l,acc,h=>by
    rw [kG]
    split
    · rename_i hi
      have hj:i.toNat<c.tables.length:=by omega
      have hg:c.tables[i.toNat]?.getD default=c.tables[i.toNat]:=by simp [hj]
      rw [hg]
      obtain ⟨t1,t2⟩:=hc.2 _ (QE hj)
      have tl:(rD c.tables[i.toNat]).length≤4:=by unfold rD; simpa using t1
      obtain ⟨a1,a2⟩:=aP3 c hc l (acc++rD c.tables[i.toNat]) (fun x hx=>by
        rcases QO.1 hx with hx | hx
        · exact h x hx
        · exact t2 x hx)
      exact ⟨a1,by rw [QJ] at a2; simp only [QY]; omega⟩
    · exact ⟨by simp,by simp⟩
def aGf (p:aP):Bool:=(decide (1≤p.tables.length)&&decide (p.tables.length≤3))&&decide (p.on_.length=p.tables.length)&&decide ((p.on_[0]?.getD []).length=0)&&decide (p.where_.length≤1)&&decide (p.order.length≤12)&&(decide (1≤p.items.length)&&decide (p.items.length≤12))&&decide (p.names.length=p.items.length)&&decide (-1≤p.limit)
def onB (p:aP):Bool:=p.on_.all fun l=>decide (l.length≤1)
def nmB (s:List UInt8):Bool:=decide (1≤s.length)&&decide (s.length≤20)
theorem bXl (s:List UInt8):qX s=some (nmB s):=by
  unfold qX nmB
  by_cases h:1≤s.length <;> by_cases h2:s.length≤20 <;> simp [h,h2] <;> omega
theorem bVy (s:List UInt8):nY s=some (nmB s):=by
  unfold nY fI nmB
  by_cases h:1≤s.length <;> by_cases h2:s.length≤20 <;> simp [h,h2] <;> omega
theorem onI (l:List (List aJ)) (hl:l.length≤1048576):aGo l=some (!l.all fun l=>decide (l.length≤1)):=by
  have key:∀ i,i≤l.length→∃ k:Int,M3 l (i:Nat)=some k∧decide (0≤k)=!(l.drop i).all fun l=>decide (l.length≤1):=by
    refine dZ ?_ ?_
    · rw [M3]
      exact ⟨-1,by simp,by simp⟩
    · intro i hi ih
      rw [M3,QG hi]
      simp only [bZ,bM hi,dI hi (by omega),hi,decide_true,if_true,aHw,QB,QA,XA]
      by_cases h:l[i].length≤1
      · have h1:¬ (1:Int)<(l[i].length:Int):=by omega
        simpa [h,h1] using ih
      · have h1:(1:Int)<(l[i].length:Int):=by omega
        exact ⟨(i:Int),by simp [h1],by simp [h]⟩
  obtain ⟨k,h1,h2⟩:=key 0 (by omega)
  rw [show ((0:Nat):Int)=0 from rfl] at h1
  rw [aGo,aO2,h1]
  simpa using h2
theorem nmI (l:List (List UInt8)) (hl:l.length≤1048576):aIp l=some (!l.all nmB):=by
  have key:∀ i,i≤l.length→∃ k:Int,X3 l (i:Nat)=some k∧decide (0≤k)=!(l.drop i).all nmB:=by
    refine dZ ?_ ?_
    · rw [X3]
      exact ⟨-1,by simp,by simp⟩
    · intro i hi ih
      rw [X3,QG hi]
      simp only [bZ,bM hi,dI hi (by omega),hi,decide_true,if_true,aJx,bXl,QB,QA,XA]
      cases h:nmB l[i] with
      | true=>simpa using ih
      | false=>exact ⟨(i:Int),by simp,by simp⟩
  obtain ⟨k,h1,h2⟩:=key 0 (by omega)
  rw [show ((0:Nat):Int)=0 from rfl] at h1
  rw [aIp,aOt,h1]
  simpa using h2
theorem bY2 (c:aQ) (hc:qE c) (p:aP) (hn:p.names.length≤1048576) (ht:p.tables.length≤1048576):qU c p 0=some (p.names.all nmB&&(kG c [] p.tables).2):=by
  have key:∀ i,i≤p.names.length→qU c p (i:Nat)=some ((p.names.drop i).all nmB&&(kG c [] p.tables).2):=by
    refine dZ ?_ ?_
    · rw [qU]; simp [(aB7 c hc p.tables ht).2]
    · intro i hi ih
      rw [qU,QG hi,XA]
      simp only [bZ,bM hi,dI hi (by omega),hi,decide_true,if_true,bVy,ih,QB,QA]
      cases nmB p.names[i] <;> simp
  simpa using key 0 (by omega)
theorem bNs (c:aQ) (hc:qE c) (p:aP) (ho:p.on_.length≤1048576) (hn:p.names.length≤1048576) (ht:p.tables.length≤1048576):rG c p 0=some (onB p&&(p.names.all nmB&&(kG c [] p.tables).2)):=by
  have key:∀ i,i≤p.on_.length→rG c p (i:Nat)=some (((p.on_.drop i).all fun l=>decide (l.length≤1))&&(p.names.all nmB&&(kG c [] p.tables).2)):=by
    refine dZ ?_ ?_
    · rw [rG]; simp [bY2 c hc p hn ht]
    · intro i hi ih
      rw [rG,QG hi,XA]
      simp only [bZ,bM hi,dI hi (by omega),hi,decide_true,if_true,ih,QB,QA]
      by_cases h:p.on_[i].length≤1
      · have h1:¬ (1:Int)<(p.on_[i].length:Int):=by omega
        simp [h,h1]
      · have h1:(1:Int)<(p.on_[i].length:Int):=by omega
        simp [h,h1]
  unfold onB
  simpa using key 0 (by omega)
theorem bP5 (c:aQ) (hc:qE c) (p:aP) (ho:p.on_.length≤1048576) (hn:p.names.length≤1048576) (ht:p.tables.length≤1048576) :
    I9 c p=some (aGf p&&(onB p&&(p.names.all nmB&&(kG c [] p.tables).2)))∧aGu p=some (aGf p&&(onB p&&p.names.all nmB)):=by
  unfold I9 aGu fI aGf
  simp only [bNs c hc p ho hn ht,onI p.on_ ho,nmI p.names hn,QB,QA]
  have hon:(!p.on_.all fun l=>decide (l.length≤1))=!onB p:=rfl
  rw [hon]
  generalize onB p=b1
  generalize p.names.all nmB=b2
  generalize (kG c [] p.tables).2=b3
  by_cases t1:1≤p.tables.length
  case neg =>
    have c1:¬ (1:Int)≤(p.tables.length:Int):=by omega
    have c2:(p.tables.length:Int)<1:=by omega
    simp only [t1,c1,c2,decide_true,decide_false,if_true,if_false,QF,QS,QD,WA,QA,beq_self_eq_true]
    simp
  by_cases t2:p.tables.length≤3
  case neg =>
    have c1:¬ (p.tables.length:Int)≤3:=by omega
    have c2:(3:Int)<(p.tables.length:Int):=by omega
    simp [t2,c1,c2]
  by_cases t3:p.on_.length=p.tables.length
  case neg =>
    have c1:¬ (p.on_.length:Int)=(p.tables.length:Int):=by omega
    simp [t3,c1]
  have a1:(1:Int)≤(p.tables.length:Int):=by omega
  have a2:(p.tables.length:Int)≤3:=by omega
  have a3:¬ (p.tables.length:Int)<1:=by omega
  have a4:¬ (3:Int)<(p.tables.length:Int):=by omega
  have a5:(p.on_.length:Int)=(p.tables.length:Int):=by omega
  have h0:0<p.on_.length:=by omega
  have hi:idx p.on_ 0=some p.on_[0]:=bM h0
  have hg:p.on_[0]?.getD []=p.on_[0]:=by simp [h0]
  rw [hg,hi]
  generalize p.on_[0]=l0
  have e0:decide ((0:Int)<(l0.length:Int))=!decide (l0.length=0):=by rw [QR]; simp only [WQ,decide_eq_true_eq,decide_eq_false_iff_not]; omega
  have e1:decide ((1:Int)<(p.where_.length:Int))=!decide (p.where_.length≤1):=by rw [QR]; simp only [WQ,decide_eq_true_eq,decide_eq_false_iff_not]; omega
  have e2:decide ((12:Int)<(p.order.length:Int))=!decide (p.order.length≤12):=by rw [QR]; simp only [WQ,decide_eq_true_eq,decide_eq_false_iff_not]; omega
  have e3:decide ((1:Int)≤(p.items.length:Int))=decide (1≤p.items.length):=by rw [QR]; simp only [decide_eq_true_eq]; omega
  have e4:decide ((p.items.length:Int)≤12)=decide (p.items.length≤12):=by rw [QR]; simp only [decide_eq_true_eq]; omega
  have e5:decide ((p.names.length:Int)=(p.items.length:Int))=decide (p.names.length=p.items.length):=by rw [QR]; simp only [decide_eq_true_eq]; omega
  have e6:decide (p.limit < -1)=!decide (-1≤p.limit):=by rw [QR]; simp only [WQ,decide_eq_true_eq,decide_eq_false_iff_not]; omega
  simp only [a1,a2,a3,a4,a5,t1,t2,t3,e0,e1,e2,e3,e4,e5,e6,decide_true,decide_false,if_true,if_false,QF,QS,QD,beq_self_eq_true,WK,QM,QA]
  generalize decide (l0.length=0)=x0
  generalize decide (p.where_.length≤1)=x1
  generalize decide (p.order.length≤12)=x2
  generalize decide (1≤p.items.length)=x3
  generalize decide (p.items.length≤12)=x4
  generalize decide (p.names.length=p.items.length)=x5
  generalize decide (-1≤p.limit)=x6
  cases x0 <;> cases x1 <;> cases x2 <;> cases x3 <;> cases x4 <;> cases x5 <;> cases x6 <;> cases b1 <;> cases b2 <;> exact ⟨rfl,rfl⟩
def TyE (c:aQ) (env:List (List Int)) (e:aJ):Prop:=∃ r:Int×Bool,M9 c env e=some r∧yF c env e=some r∧okT r.1
def PlE (c:aQ) (env:List (List Int)) (p:aP):Prop:=∃ r:List Int×Bool,aFr c env p=some r∧uM c env p=some r∧∀ x∈r.1,okT x
def kY (env:List (List Int)):Prop:=∀ row∈env,row.length≤4194304∧∀ x∈row,okT x
theorem okT0:okT 0:=⟨by omega,by omega⟩
theorem okT3:okT 3:=⟨by omega,by omega⟩
theorem bF1 (c:aQ) (env:List (List Int)) (l:List aJ) (hl:l.length≤1048576) (H:∀ e∈l,TyE c env e):∃ b,aD7 c env l=some b∧xJ c env l=some b:=by
  have key:∀ i,i≤l.length→∃ (k:Int) (b:Bool),aAn l c env (i:Nat)=some k∧vK env l c (i:Nat)=some b∧decide (0≤k)=!b:=by
    refine dZ ?_ ?_
    · rw [aAn,vK]
      exact ⟨-1,true,by simp,by simp,by simp⟩
    · intro i hi ih
      rw [aAn,vK]
      obtain ⟨r,h1,h2,h3⟩:=H _ (QE hi)
      obtain ⟨t,e1⟩:=aP5 r.1
      simp only [bZ,hi,decide_true,if_true,bM hi,dI hi (by omega),aKl,h1,h2,aZu,e1,QB,QA]
      cases hr:r.2
      · exact ⟨(i:Int),false,by simp,by simp,by simp⟩
      · cases t
        · exact ⟨(i:Int),false,by simp,by simp,by simp⟩
        · simpa using ih
  obtain ⟨k,b,h1,h2,h3⟩:=key 0 (by omega)
  rw [show ((0:Nat):Int)=0 from rfl] at h1 h2
  rw [aD7,aNw,aKu,h1,xJ,h2]
  exact ⟨b,by simp [h3],rfl⟩
theorem aF2 (row:List Int) (env:List (List Int)) (h:env.length≤4194304):aFq row env=some (row::env)∧P6 row env=some (row::env):=by
  have e:appG 24 ([row]:List (List Int)) env=some (row::env):=by unfold appG; rw [if_pos (by simp; omega)]; rfl
  unfold aFq P6
  rw [e]; exact ⟨rfl,rfl⟩
theorem bXe (c:aQ) (env:List (List Int)) (e:aJ) (hk:e.kids.length≤1048576) (H:∀ k∈e.kids,TyE c env k) :
    (vJ env e c [] 0=some (0,false)∧oV env c e [] 0=some (0,false))∨∃ acc:List Int,acc.length=e.kids.length∧(∀ x∈acc,okT x)∧vJ env e c [] 0=D8 env acc e c [] 0∧oV env c e [] 0=oV env c e acc (e.kids.length:Int):=by
  have key:∀ i,i≤e.kids.length→∀ acc:List Int,acc.length=i→(∀ x∈acc,okT x)→(vJ env e c acc (i:Nat)=some (0,false)∧oV env c e acc (i:Nat)=some (0,false))∨∃ a:List Int,a.length=e.kids.length∧(∀ x∈a,okT x)∧vJ env e c acc (i:Nat)=D8 env a e c [] 0∧oV env c e acc (i:Nat)=oV env c e a (e.kids.length:Int):=by
    refine dZ ?_ ?_
    · intro acc ha hx
      right
      refine ⟨acc,ha,hx,?_,rfl⟩
      rw [vJ]
      simp
    · intro i hi ih acc ha hx
      obtain ⟨r,h1,h2,h3⟩:=H _ (QE hi)
      have ea:appG 8 acc [r.1]=some (acc++[r.1]):=by unfold appG; rw [if_pos (by simp; omega)]
      have f1:vJ env e c acc (i:Nat)=if (!r.2)=true then some (0,false) else vJ env e c (acc++[r.1]) ((i+1:Nat):Int):=by
        rw [vJ]
        simp only [bZ,hi,decide_true,if_true,bM hi,dI hi (by omega),h1,ea,QB,QA]
      have f2:oV env c e acc (i:Nat)=if (!r.2)=true then some (0,false) else oV env c e (acc++[r.1]) ((i+1:Nat):Int):=by
        rw [oV]
        simp only [bZ,hi,decide_true,if_true,bM hi,dI hi (by omega),h2,ea,QB,QA]
      rw [f1,f2]
      cases hr:r.2
      · left; exact ⟨by simp,by simp⟩
      · have:=ih (acc++[r.1]) (by simp [ha]) (by intro x hx2; rcases QO.1 hx2 with h | h; exact hx x h; simp at h; rw [h]; exact h3)
        simpa using this
  simpa using key 0 (by omega) [] rfl (by simp)
theorem aO0 {α:Type} {l:List α} (h:0<l.length):idx l 0=some l[0]:=bM h
theorem bFv {α:Type} {l:List α} (h:1<l.length):idx l 1=some l[1]:=bM h
theorem bOx (l:List Int) (h:l.length≤4194304):aIc l=some l:=by
  unfold aIc
  by_cases h0:l=[]
  · simp [h0]
  · have e:appG 8 ([]:List Int) l=some l:=by unfold appG; rw [if_pos (by simp; omega)]; simp
    have h1:¬ (l.length:Int)=0:=by
      have:=List.length_pos_iff.2 h0
      omega
    simp [h1,e]
theorem aSb (a b:List Int) (ha:a.length≤1000000) (hb:b.length≤1000) (oa:∀ x∈a,okT x) (ob:∀ x∈b,okT x):∃ m:Bool,O4 (a++b)=some m∧V7 a b false=some (if m=true then 3 else 0,m):=by
  obtain ⟨r,h1,h2⟩:=bVu (a++b) (by simp; omega) (by intro x hx; rcases QO.1 hx with h | h; exact oa x h; exact ob x h)
  refine ⟨r.2,h2,?_⟩
  have e:appG 8 a b=some (a++b):=by unfold appG; rw [if_pos (by omega)]
  unfold V7
  rw [bOx a (by omega)]
  simp only [e,h1,QD,if_false,QB,QA]
  cases r.2 <;> simp
theorem bQu (c:aQ) (env:List (List Int)) (hv:kY env) (hl:env.length≤4194304) (e:aJ) (hk:e.kids.length≤1048576) (hs:e.sub.length≤1048576) (H:∀ k∈e.kids,TyE c env k) (HP:∀ p∈e.sub,PlE c env p):TyE c env e:=by
  unfold TyE
  obtain ⟨b,s1,i1,hf⟩:=bSa e hk hs
  rw [M9,yF,s1,i1]
  simp only [QB,QA]
  cases b with
  | false=>exact ⟨(0,false),by simp,by simp,okT0⟩
  | true =>
  simp only [QF,QD,if_false]
  have hF:=hf rfl
  by_cases k2:e.kind=2
  · have hk0:e.kids.length=0:=by
      rcases hF with h | h | h | h | h | h | h | h | h <;> first | exact h.2.1 | (exact absurd h.1 (by omega))
    rw [if_pos (by simpa using k2),oV]
    have n1:¬ e.kind=1:=by omega
    have hw:QC .i64 ((env.length:Int) - 1)=(env.length:Int) - 1:=dX (by omega) (by omega)
    unfold fI
    simp only [hk0,k2,n1,hw,decide_true,decide_false,if_true,if_false,QD,QB,QA,Int.reduceEq]
    by_cases u0:0≤e.up
    case neg => exact ⟨(0, false), by have : e.up < 0 := by omega
                                      simp [this],by simp [u0],okT0⟩
    by_cases u1:e.up<(env.length:Int)
    case neg => exact ⟨(0, false), by have : (env.length : Int) ≤ e.up := by omega
                                      simp [this], by have : ¬ e.up ≤ (env.length : Int) - 1 := by omega
                                                      simp [u0,this],okT0⟩
    have hj:e.up.toNat<env.length:=by omega
    have hx:idx env e.up=some env[e.up.toNat]:=by
      have:=bM hj
      rwa [show ((e.up.toNat:Nat):Int)=e.up by omega] at this
    obtain ⟨r1,r2⟩:=hv _ (QE hj)
    have a1:¬ e.up<0:=by omega
    have a2:¬ (env.length:Int)≤e.up:=by omega
    have a3:e.up≤(env.length:Int) - 1:=by omega
    have hw2:QC .i64 ((env[e.up.toNat].length:Int) - 1)=(env[e.up.toNat].length:Int) - 1:=dX (by omega) (by omega)
    simp only [u0,a1,a2,a3,hx,hw2,decide_true,decide_false,if_true,if_false,QF,QD,beq_self_eq_true,WK,QA,QM]
    by_cases t0:0≤e.at_
    case neg => exact ⟨(0, false), by have : e.at_ < 0 := by omega
                                      simp [this],by simp [t0],okT0⟩
    by_cases t1:e.at_<(env[e.up.toNat].length:Int)
    case neg => exact ⟨(0, false), by have h1 : (env[e.up.toNat].length : Int) ≤ e.at_ := by omega
                                      have h2:¬ e.at_<0:=by omega
                                      simp [h1, h2], by have : ¬ e.at_ ≤ (env[e.up.toNat].length : Int) - 1 := by omega
                                                        simp [t0,this],okT0⟩
    have hj2:e.at_.toNat<env[e.up.toNat].length:=by omega
    have hx2:idx env[e.up.toNat] e.at_=some env[e.up.toNat][e.at_.toNat]:=by
      have:=bM hj2
      rwa [show ((e.at_.toNat:Nat):Int)=e.at_ by omega] at this
    have b1:¬ e.at_<0:=by omega
    have b2:¬ (env[e.up.toNat].length:Int)≤e.at_:=by omega
    have b3:e.at_≤(env[e.up.toNat].length:Int) - 1:=by omega
    exact ⟨(env[e.up.toNat][e.at_.toNat],true),by simp [b1,b2,hx2],by simp [t0,b3,hx2],r2 _ (QE hj2)⟩
  rw [if_neg (by simpa using k2)]
  rcases bXe c env e hk H with ⟨h1,h2⟩ | ⟨acc,ha,hx,h1,h2⟩
  · exact ⟨(0,false),h1,h2,okT0⟩
  rw [h1,h2,oV,D8]
  have nk:decide ((e.kids.length:Int)<(e.kids.length:Int))=false:=by simp
  simp only [nk,k2,decide_false,QD,if_false]
  rcases hF with ⟨k,f1,f2,f3⟩ | ⟨k,f1⟩ | ⟨k,f1,f2⟩ | ⟨k,f1,f2⟩ | ⟨k,f1,f2⟩ | ⟨k,f1,f2⟩ | ⟨k,⟨f1,f3⟩,f2⟩ | ⟨k,f1,f2⟩ | ⟨k,f1,f2⟩
  · refine ⟨(e.value.kind,true),?_,?_,f3⟩
    · unfold wH; simp [f2,k]
    · simp [k]
  · exact absurd k k2
  · obtain ⟨r,r1,r2,r3⟩:=bR7 e.op (acc[0]'(by omega))
    refine ⟨r,?_,?_,r3⟩
    · unfold wH; simp [f2,k,aO0 (show 0<acc.length by omega),r1]
    · simp [k,aO0 (show 0<acc.length by omega),r2]
  · obtain ⟨r,r1,r2,r3⟩:=bR6 e.op (acc[0]'(by omega)) (acc[1]'(by omega)) (hx _ (QE _)) (hx _ (QE _))
    refine ⟨r,?_,?_,r3⟩
    · unfold wH; simp [f2,k,aO0 (show 0<acc.length by omega),bFv (show 1<acc.length by omega),r1]
    · simp [k,aO0 (show 0<acc.length by omega),bFv (show 1<acc.length by omega),r2]
  · refine ⟨(3,true),?_,?_,okT3⟩
    · unfold wH V7; simp [f2,k]
    · unfold yG; simp [f2,k]
  · obtain ⟨m,m1,m2⟩:=aSb acc [] (by omega) (by simp) hx (by simp)
    refine ⟨(if m=true then 3 else 0,m),?_,?_,by cases m; exact okT0; exact okT3⟩
    · unfold wH; simp [f2,k,m2]
    · rw [WV] at m1
      unfold yG sI; cases m <;> simp [f2,k,m1]
  · obtain ⟨m,m1,m2⟩:=aSb acc [] (by omega) (by simp) hx (by simp)
    refine ⟨(if m=true then 3 else 0,m),?_,?_,by cases m; exact okT0; exact okT3⟩
    · unfold wH; simp [f2,k,m2]
    · rw [WV] at m1
      unfold yG sI; cases m <;> simp [f2,k,m1]
  · obtain ⟨p,hp⟩:∃ p,e.sub=[p]:=by
      match hh:e.sub,f2 with
      | [p],_=>exact ⟨p,rfl⟩
    obtain ⟨r,r1,r2,r3⟩:=HP p (by rw [hp]; simp)
    have ip:idx e.sub 0=some p:=by rw [hp]; rfl
    rw [ip]
    simp only [f2,k,r1,r2,QB,QA]
    obtain ⟨out,ok⟩:=r
    cases ok with
    | false=>exact ⟨(0,false),by simp,by simp,okT0⟩
    | true =>
    by_cases ho:out.length=1
    case neg =>
      have h3:¬ (out.length:Int)=1:=by omega
      exact ⟨(0,false),by simp [h3],by simp [h3],okT0⟩
    obtain ⟨t,ht⟩:∃ t,out=[t]:=by
      match out,ho with
      | [t],_=>exact ⟨t,rfl⟩
    subst ht
    have iw:QC .i64 (0+1)=1:=rfl
    have i0:idx [t] 0=some t:=rfl
    have ea:appG 8 acc [t]=some (acc++[t]):=by unfold appG; rw [if_pos (by simp; omega)]
    obtain ⟨m,m1,m2⟩:=aSb acc [t] (by omega) (by simp) hx (by intro x hx2; exact r3 x hx2)
    have h8:¬ e.kind=1:=by omega
    refine ⟨(if m=true then 3 else 0,m),?_,?_,by cases m; exact okT0; exact okT3⟩
    · rw [iw,D8]
      unfold wH
      simp [f2,k,m2]
    · unfold yG sI; cases m <;> simp [k,i0,ea,m1]
  · obtain ⟨p,hp⟩:∃ p,e.sub=[p]:=by
      match hh:e.sub,f2 with
      | [p],_=>exact ⟨p,rfl⟩
    obtain ⟨r,r1,r2,r3⟩:=HP p (by rw [hp]; simp)
    have ip:idx e.sub 0=some p:=by rw [hp]; rfl
    rw [ip]
    simp only [f2,k,r1,r2,QB,QA]
    obtain ⟨out,ok⟩:=r
    cases ok with
    | false=>exact ⟨(0,false),by simp,by simp,okT0⟩
    | true =>
    have iw:QC .i64 (0+1)=1:=rfl
    have ha0:acc=[]:=XM (by omega)
    subst ha0
    have hm:O4 []=some true:=by unfold O4; rw [D7]; simp
    refine ⟨(3,true),?_,?_,okT3⟩
    · simp only [iw]
      rw [D8]
      unfold wH V7
      simp [f2,k]
    · unfold yG sI; simp [k,hm]
theorem aPo {α:Type} {l:List α} {n:Nat} (h:n≤l.length):iW l 0 (n:Int)=some (l.take n):=by
  unfold iW
  rw [if_pos (by omega)]
  simp
theorem bYp (c:aQ) (env:List (List Int)) (p:aP) (hn:p.items.length≤1048576) (H:∀ e∈p.items,TyE c env e):∃ r:List Int×Bool,A9 env p c [] 0=some r∧qP env c p [] 0=some r∧∀ x∈r.1,okT x:=by
  have key:∀ i,i≤p.items.length→∀ acc:List Int,acc.length=i→(∀ x∈acc,okT x)→∃ r:List Int×Bool,A9 env p c acc (i:Nat)=some r∧qP env c p acc (i:Nat)=some r∧∀ x∈r.1,okT x:=by
    refine dZ ?_ ?_
    · intro acc _ hx
      rw [A9,qP]
      exact ⟨(acc,true),by simp,by simp,hx⟩
    · intro i hi ih acc ha hx
      obtain ⟨r,h1,h2,h3⟩:=H _ (QE hi)
      have ea:appG 8 acc [r.1]=some (acc++[r.1]):=by unfold appG; rw [if_pos (by simp; omega)]
      rw [A9,qP]
      simp only [bZ,hi,decide_true,if_true,bM hi,dI hi (by omega),h1,h2,ea,QB,QA]
      cases hr:r.2
      · exact ⟨([],false),by simp,by simp,by simp⟩
      · have:=ih (acc++[r.1]) (by simp [ha]) (by intro x hx2; rcases QO.1 hx2 with h | h; exact hx x h; simp at h; rw [h]; exact h3)
        simpa using this
  simpa using key 0 (by omega) [] rfl (by simp)
theorem bLa (c:aQ) (env:List (List Int)) (p:aP) (hn:p.items.length≤1048576) (ho:p.order.length≤1048576) (H:∀ e∈p.items,TyE c env e) (HO:∀ k∈p.order,TyE c env k.expr):∃ r:List Int×Bool,O3 env p c 0=some r∧rY env c p 0=some r∧∀ x∈r.1,okT x:=by
  have key:∀ i,i≤p.order.length→∃ r:List Int×Bool,O3 env p c (i:Nat)=some r∧rY env c p (i:Nat)=some r∧∀ x∈r.1,okT x:=by
    refine dZ ?_ ?_
    · rw [O3,rY]
      simpa using bYp c env p hn H
    · intro i hi ih
      obtain ⟨r,h1,h2,h3⟩:=HO _ (QE hi)
      rw [O3,rY]
      simp only [bZ,hi,decide_true,if_true,bM hi,dI hi (by omega),h1,h2,QB,QA]
      cases hr:r.2
      · exact ⟨([],false),by simp,by simp,by simp⟩
      · simpa using ih
  simpa using key 0 (by omega)
theorem aUy {row:List Int} {env:List (List Int)} (hr:row.length≤4194304) (hx:∀ x∈row,okT x) (hv:kY env):kY (row::env):=by
  intro r h
  rcases WM.1 h with rfl | h
  · exact ⟨hr,hx⟩
  · exact hv r h
theorem bJu (c:aQ) (hc:qE c) (env:List (List Int)) (hv:kY env) (hl:env.length<4194304) (p:aP) (ho:p.on_.length≤1048576) (hn:p.names.length≤1048576) (ht:p.tables.length≤1048576)
    (H:∀ env',kY env'→env'.length=env.length+1→(∀ l∈p.on_,∀ e∈l,TyE c env' e)∧(∀ e∈p.where_,TyE c env' e)∧(∀ k∈p.order,TyE c env' k.expr)∧(∀ e∈p.items,TyE c env' e)):PlE c env p:=by
  unfold PlE
  obtain ⟨f1,f2⟩:=bP5 c hc p ho hn ht
  obtain ⟨r1,r2⟩:=aB7 c hc p.tables ht
  rw [aFr,uM,f1,f2,r1]
  simp only [QB,QA]
  cases hr:(kG c [] p.tables).2 with
  | false=>exact ⟨([],false),by simp,by simp,by simp⟩
  | true =>
  cases hP:aGf p with
  | false=>exact ⟨([],false),by simp,by simp,by simp⟩
  | true =>
  cases hO:onB p with
  | false=>exact ⟨([],false),by simp,by simp,by simp⟩
  | true =>
  cases hN:p.names.all nmB with
  | false=>exact ⟨([],false),by simp,by simp,by simp⟩
  | true =>
  simp only [QF,QM,WK,beq_self_eq_true,if_true,QD,if_false,QA]
  have hB:p.tables.length≤3∧p.on_.length=p.tables.length∧p.where_.length≤1∧p.order.length≤12∧p.items.length≤12:=by
    unfold aGf at hP
    simp only [QK,decide_eq_true_eq] at hP
    omega
  obtain ⟨b1,b2,b3,b4,b5⟩:=hB
  have hO1:∀ l∈p.on_,l.length≤1:=by
    unfold onB at hO
    simpa using hO
  obtain ⟨q1,q2⟩:=aP3 c hc p.tables [] (by simp)
  simp only [WF] at q2
  obtain ⟨w1,w2⟩:=aF2 (kG c [] p.tables).1 env (by omega)
  obtain ⟨-,m2,m3,m4⟩:=H ((kG c [] p.tables).1::env) (aUy (by omega) q1 hv) (by simp)
  have key:∀ i,i≤p.on_.length→∃ r:List Int×Bool,aBy env (kG c [] p.tables) p c (i:Nat)=some r∧tJ env c p (i:Nat)=some r∧∀ x∈r.1,okT x:=by
    refine dZ ?_ ?_
    · obtain ⟨t,t1,t2⟩:=bF1 c ((kG c [] p.tables).1::env) p.where_ (by omega) m2
      rw [aBy,tJ]
      simp only [bZ,WJ,decide_false,QD,if_false,r2,w1,w2,t1,t2,QB,QA]
      cases t
      · exact ⟨([],false),by simp,by simp,by simp⟩
      · simpa using bLa c _ p (by omega) (by omega) m4 m3
    · intro i hi ih
      obtain ⟨a1,a2⟩:=aP3 c hc (p.tables.take (i+1)) [] (by simp)
      simp only [WF] at a2
      obtain ⟨a3,a4⟩:=aB7 c hc (p.tables.take (i+1)) (by rw [XC]; omega)
      have a5:(p.tables.take (i+1)).length≤3:=by rw [XC]; omega
      obtain ⟨a6,a7⟩:=aF2 (kG c [] (p.tables.take (i+1))).1 env (by omega)
      obtain ⟨a8,-⟩:=H ((kG c [] (p.tables.take (i+1))).1::env) (aUy (by omega) a1 hv) (by simp)
      obtain ⟨t,t1,t2⟩:=bF1 c _ p.on_[i] (by have:=hO1 _ (QE hi); omega) (a8 _ (QE hi))
      have hs:iW p.tables 0 ((i+1:Nat):Int)=some (p.tables.take (i+1)):=aPo (by omega)
      rw [aBy,tJ]
      simp only [bZ,hi,decide_true,if_true,bM hi,dI hi (by omega),hs,a3,a4,a6,a7,t1,t2,QB,QA]
      cases t
      · exact ⟨([],false),by simp,by simp,by simp⟩
      · simpa using ih
  simpa using key 0 (by omega)
theorem bDl (c:aQ) (hc:qE c):∀ n:Nat,(∀ (e:aJ) (env:List (List Int)),bG e<n→n≤1048577→kY env→env.length+n≤4000000→TyE c env e)∧(∀ (p:aP) (env:List (List Int)),eG p<n→n≤1048577→kY env→env.length+n≤4000000→PlE c env p)
  | 0=>⟨fun _ _ h=>absurd h (by omega),fun _ _ h=>absurd h (by omega)⟩
  | n+1=>by
    obtain ⟨i1,i2⟩:=bDl c hc n
    refine ⟨fun e env he hn hv hl=>?_,fun p env hp hn hv hl=>?_⟩
    · have:=aYm e
      exact bQu c env hv (by omega) e (by omega) (by omega) (fun k hk=>i1 k env (by have:=aJz hk; have:=QZ hk; omega) (by omega) hv (by omega)) fun p hp=>i2 p env (by have:=aIr hp; have:=QZ hp; omega) (by omega) hv (by omega)
    · have:=aM8 p
      refine bJu c hc env hv (by omega) p (by omega) (by omega) (by omega) fun env' hv' hl'=>⟨fun l hm e he=>i1 e env' ?_ (by omega) hv' (by omega),fun e he=>i1 e env' ?_ (by omega) hv' (by omega),fun k hk=>i1 k.expr env' ?_ (by omega) hv' (by omega),fun e he=>i1 e env' ?_ (by omega) hv' (by omega)⟩
      · have:=onZ hm he; have:=QZ he; omega
      · have:=bBr he; have:=QZ he; omega
      · have:=bFa hk; have:=QZ hk; omega
      · have:=bDw he; have:=QZ he; omega
theorem bHn (c:aQ) (hc:qE c) (p:aP) (env:List (List Int)) (hz:eG p≤1048576) (hv:kY env) (hl:env.length≤1000):PlE c env p:=(bDl c hc (eG p+1)).2 p env (by omega) (by omega) hv (by omega)
theorem bCu {c:aQ} (h:R5 c):qE c:=by
  refine ⟨h.2,fun t ht=>?_⟩
  obtain ⟨i,hi,rfl⟩:=XN ht
  obtain ⟨t,h1,⟨h2,h3⟩,-⟩:=h.1 i hi
  rw [QU hi] at h1
  simp only [QH] at h1; subst h1
  refine ⟨h3.2.2,fun x hx=>?_⟩
  unfold rD at hx
  obtain ⟨k,hk,rfl⟩:=WN.1 hx
  obtain ⟨j,hj,rfl⟩:=XN hk
  obtain ⟨k,k1,-,k2,-⟩:=h2 j hj
  rw [QU hj] at k1
  simp only [QH] at k1; subst k1
  exact ⟨by omega,k2.2⟩
theorem summed {α γ:Type} {p:List α} {f:α→Option Int} {s:α→Int} {L:Int→Int→Option γ} {K:Int→Option γ} (hp:p.length≤1048576)
    (hf:∀ y∈p,f y=some (s y)∧0≤s y)
    (hL:∀ (i:Nat) (x:Int),L x (i:Int)=if (decide ((i:Int)<(p.length:Int)))=true then ((idx p (i:Int))>>=fun y=>(f y)>>=fun z=>L (QC .i64 (x+z)) (QC .i64 ((i:Int)+1))) else K x) :
    ∀ x:Int,0≤x→x+(p.map s).sum≤9223372036854775807→L x 0=K (x+(p.map s).sum):=by
  have nn:∀ l:List α,(∀ y∈l,0≤s y)→0≤(l.map s).sum:=by
    intro l
    induction l with
    | nil=>intro _; simp
    | cons y l ih=>intro h; have h1:=h y (by simp); have h2:=ih fun z hz=>h z (by simp [hz]); simp only [QL,WI]; omega
  have key:∀ i,i≤p.length→∀ x:Int,0≤x→x+((p.drop i).map s).sum≤9223372036854775807→L x (i:Nat)=K (x+((p.drop i).map s).sum):=by
    refine dZ ?_ ?_
    · intro x _ _
      rw [hL]; simp
    · intro i hi ih x h0 hx
      obtain ⟨f1,f2⟩:=hf _ (QE hi)
      have hn:=nn (p.drop (i+1)) fun y hy=>(hf y (List.mem_of_mem_drop hy)).2
      rw [QG hi] at hx ⊢
      simp only [QL,WI] at hx ⊢
      rw [hL,bM hi,dI hi (by omega)]
      simp only [bZ,hi,decide_true,if_true,f1,QB,QA]
      rw [dX (by omega) (by omega),ih _ (by omega) (by omega),Int.add_assoc]
  intro x h0 hx
  simpa using key 0 (by omega) x h0 (by simpa using hx)
theorem aM2 {α:Type} {s:α→Int}:∀ l:List α,(∀ y∈l,0≤s y)→0≤(l.map s).sum
  | [],_=>by simp
  | y::l,h=>by have h1:=h y (by simp); have h2:=aM2 l fun z hz=>h z (by simp [hz]); simp only [QL,WI]; omega
theorem aAg {α:Type} {s:α→Int} {z:α→Nat}:∀ l:List α,(∀ y∈l,s y≤(z y:Int)+1)→(l.map s).sum≤(zL z l:Int)
  | [],_=>by simp [zL]
  | y::l,h=>by
    have h1:=h y (by simp); have h2:=aAg l fun w hw=>h w (by simp [hw])
    unfold zL at *
    simp only [QL,WI,QY] at *; omega
def mx {α:Type} (d:α→Int) (l:List α) (x:Int):Int:=l.foldl (fun b y=>if d y>b then d y else b) x
theorem aK9 {α:Type} {d:α→Int} {n:Int}:∀ (l:List α) (x:Int),mx d l x≤n↔x≤n∧∀ y∈l,d y≤n
  | [],x=>by simp [mx]
  | y::l,x=>by
    have:=aK9 (d:=d) (n:=n) l (if d y>x then d y else x)
    unfold mx at *
    rw [XL,this]
    simp only [WM,forall_eq_or_imp]
    split
    · constructor
      · rintro ⟨a,b⟩; exact ⟨by omega,a,b⟩
      · rintro ⟨a,b,c⟩; exact ⟨b,c⟩
    · constructor
      · rintro ⟨a,b⟩; exact ⟨a,by omega,b⟩
      · rintro ⟨a,b,c⟩; exact ⟨a,c⟩
theorem aXu (a b:Int):xG a b=some (if b>a then b else a):=by
  unfold xG
  by_cases h:b<a
  · have:¬ a<b:=by omega
    simp [h,this]
  · by_cases h2:a<b
    · simp [h,h2]
    · have:a=b:=by omega
      subst this; simp
def fP (p:aP):List aJ:=p.on_.flatMap (fun l=>l)++p.where_++p.order.flatMap (fun k=>[k.expr])++p.items
theorem bI3 {α β:Type} {f:α→List β} {z:α→Nat}:∀ l:List α,(∀ y∈l,(f y).length≤z y+1)→(l.flatMap f).length≤zL z l
  | [],_=>by simp [zL]
  | y::l,h=>by
    have h1:=h y (by simp); have h2:=bI3 l fun w hw=>h w (by simp [hw])
    unfold zL at *
    simp only [WH,QJ,QL,WI,QY] at *; omega
theorem aU1 (l:List dD):(l.flatMap fun k=>[k.expr])=l.map fun k=>k.expr:=by
  induction l with
  | nil=>rfl
  | cons x l ih=>rw [WH,ih]; rfl
theorem aVj (p:aP):(fP p).length≤eG p:=by
  have h1:=aA2 p
  have h2:=bI3 (f:=fun l:List aJ=>l) (z:=zL bG) p.on_ fun y _=>by have:=vW (z:=bG) y; omega
  have h3:=vW (z:=bG) p.where_
  have h4:=vW (z:=bG) p.items
  unfold fP
  simp only [QJ,aU1,WW]
  omega
theorem aI0 {p:aP} {e:aJ} (h:e∈fP p):bG e<eG p:=by
  unfold fP at h
  simp only [QO,WX,List.mem_singleton] at h
  rcases h with ((⟨l,h1,h2⟩ | h) | ⟨k,h1,rfl⟩) | h
  · have:=onZ h1 h2; have:=QZ h2; omega
  · have:=bBr h; have:=QZ h; omega
  · have:=bFa h1; have:=QZ h1; omega
  · have:=bDw h; have:=QZ h; omega
theorem bDz {s:aJ→Int}:∀ l:List (List aJ),(∀ r∈l,∀ y∈r,s y≤(bG y:Int)+1)→((l.flatMap (fun r=>r)).map s).sum≤(zL (zL bG) l:Int)
  | [],_=>by simp [zL]
  | r::l,h=>by
    have h1:=aAg (s:=s) (z:=bG) r (h r (by simp)); have h2:=bDz (s:=s) l fun w hw=>h w (by simp [hw])
    rw [WH,XD,XO]
    have:(zL (zL bG) (r::l):Int)=1+zL bG r+zL (zL bG) l:=by unfold zL; simp only [QY,QL,WI]; omega
    omega
theorem bC7 {s:aJ→Int} (p:aP) (h:∀ y∈fP p,s y≤(bG y:Int)+1):((fP p).map s).sum≤(eG p:Int):=by
  have h1:=aA2 p
  unfold fP at *
  have a1:=bDz (s:=s) p.on_ fun r hr y hy=>h y (by simp only [QO,WX]; exact .inl (.inl (.inl ⟨r,hr,hy⟩)))
  have a2:=aAg (s:=s) (z:=bG) p.where_ fun y hy=>h y (by simp only [QO]; exact .inl (.inl (.inr hy)))
  have a3:=aAg (s:=fun k:dD=>s k.expr) (z:=fun k=>bG k.expr) p.order fun y hy=>h y.expr (by rw [aU1]; simp only [QO,WN]; exact .inl (.inr ⟨y,hy,rfl⟩))
  have a4:=aAg (s:=s) (z:=bG) p.items fun y hy=>h y (by simp only [QO]; exact .inr hy)
  rw [aU1]
  simp only [XD,XO,XF]
  have:(p.order.map (s ∘ fun k=>k.expr))=p.order.map fun k:dD=>s k.expr:=rfl
  rw [this]
  unfold zL at a3
  omega
theorem X5 {l m:List aJ} (h:l.length+m.length≤4194304):appG 120 l m=some (l++m):=nK (by omega)
theorem parts_eq (p:aP) (hz:eG p≤1048576):aDn p=some (fP p)∧aE7 p=some (fP p):=by
  have hl:=aM8 p
  have hp:=aVj p
  unfold fP at hp
  simp only [QJ] at hp
  have o1:∀ acc:List aJ,acc.length+(p.order.flatMap fun k=>[k.expr]).length+p.items.length≤4194304→yV p acc 0=some (acc++(p.order.flatMap fun k=>[k.expr])++p.items):=by
    intro acc ha
    rw [gather (p:=p.order) (f:=fun k=>[k.expr]) (c:=4194304) (G:=fun y acc=>appG 120 acc ([y.expr]:List aJ)) (L:=fun acc i=>yV p acc i) (K:=fun x=>(appG 120 x p.items)>>=fun (y7:List aJ)=>some y7) (by omega) (fun y _ acc h=>X5 h) (fun i acc=>by rw [yV]) acc (by omega)]
    rw [X5 (by rw [QJ]; omega)]; rfl
  have o2:∀ acc:List aJ,acc.length+(p.order.flatMap fun k=>[k.expr]).length+p.items.length≤4194304→yU p acc 0=some (acc++(p.order.flatMap fun k=>[k.expr])++p.items):=by
    intro acc ha
    rw [gather (p:=p.order) (f:=fun k=>[k.expr]) (c:=4194304) (G:=fun y acc=>appG 120 acc ([y.expr]:List aJ)) (L:=fun acc i=>yU p acc i) (K:=fun x=>(appG 120 x p.items)>>=fun (y7:List aJ)=>some y7) (by omega) (fun y _ acc h=>X5 h) (fun i acc=>by rw [yU]) acc (by omega)]
    rw [X5 (by rw [QJ]; omega)]; rfl
  constructor
  · rw [aDn,gather (p:=p.on_) (f:=fun l=>l) (c:=4194304) (G:=fun y acc=>appG 120 acc y) (L:=fun acc i=>aBh p acc i) (K:=fun x=>(appG 120 x p.where_)>>=fun (y3:List aJ)=>yV p y3 0) (by omega) (fun y _ acc h=>X5 h) (fun i acc=>by rw [aBh]) [] (by simp only [WF]; omega)]
    rw [X5 (by simp only [QN]; omega)]
    simp only [QB,QA,QN]
    rw [o1 _ (by simp only [QJ]; omega)]; rfl
  · rw [aE7,gather (p:=p.on_) (f:=fun l=>l) (c:=4194304) (G:=fun y acc=>appG 120 acc y) (L:=fun acc i=>aCu p acc i) (K:=fun x=>(appG 120 x p.where_)>>=fun (y3:List aJ)=>yU p y3 0) (by omega) (fun y _ acc h=>X5 h) (fun i acc=>by rw [aCu]) [] (by simp only [WF]; omega)]
    rw [X5 (by simp only [QN]; omega)]
    simp only [QB,QA,QN]
    rw [o2 _ (by simp only [QJ]; omega)]; rfl
def dE (e:aJ):Int:=(yL e).getD 0
def sE (e:aJ):Int:=(yE e).getD 0
def dP (p:aP):Int:=(wT p).getD 0
def sP (p:aP):Int:=(wN p).getD 0
def DsE (e:aJ):Prop:=yL e=some (dE e)∧H5 e=some (dE e)∧yE e=some (sE e)∧E8 e=some (sE e)∧0≤sE e∧sE e≤(bG e:Int)+1
def DsP (p:aP):Prop:=wT p=some (dP p)∧aAy p=some (dP p)∧wN p=some (sP p)∧aBw p=some (sP p)∧0≤sP p∧sP p≤(eG p:Int)
theorem aVh (l:List aJ) (hl:l.length≤1048576) (H:∀ e∈l,DsE e) (x:Int):U7 l x 0=some (mx dE l x)∧aCq l x 0=some (mx dE l x):=by
  constructor
  · exact folded (p:=l) (g:=fun y b=>(yL y)>>=fun z=>some (if z>b then z else b)) (h:=fun y b=>if dE y>b then dE y else b) (L:=fun b i=>U7 l b i) (K:=fun b=>some b) hl (fun y hy b=>by rw [(H y hy).1]; rfl) (fun i b=>by rw [U7]; simp only [QB,WT,QA]) x
  · exact folded (p:=l) (g:=fun y b=>(H5 y)>>=fun z=>xG b z) (h:=fun y b=>if dE y>b then dE y else b) (L:=fun b i=>aCq l b i) (K:=fun b=>some b) hl (fun y hy b=>by rw [(H y hy).2.1]; exact aXu _ _) (fun i b=>by rw [aCq]; simp only [QB,WT]) x
theorem aPz (l:List aJ) (hl:l.length≤1048576) (hz:(l.map sE).sum≤4194304) (H:∀ e∈l,DsE e):P7 l=some ((l.map sE).sum)∧aCm l 0 0=some ((l.map sE).sum):=by
  constructor
  · rw [P7,summed (p:=l) (f:=yE) (s:=sE) (L:=fun x i=>aBf l x i) (K:=fun x=>some x) hl (fun y hy=>⟨(H y hy).2.2.1,(H y hy).2.2.2.2.1⟩) (fun i x=>by rw [aBf]) 0 (by omega) (by omega)]
    simp
  · rw [summed (p:=l) (f:=E8) (s:=sE) (L:=fun x i=>aCm l x i) (K:=fun x=>some x) hl (fun y hy=>⟨(H y hy).2.2.2.1,(H y hy).2.2.2.2.1⟩) (fun i x=>by rw [aCm]) 0 (by omega) (by omega)]
    simp
theorem bZs (p:aP) (hz:eG p≤1048576) (H:∀ e∈fP p,DsE e):DsP p:=by
  obtain ⟨p1,p2⟩:=parts_eq p hz
  have hl:=aVj p
  have hs:=bC7 (s:=sE) p fun y hy=>(H y hy).2.2.2.2.2
  have hn:=aM2 (s:=sE) (fP p) fun y hy=>(H y hy).2.2.2.2.1
  obtain ⟨a1,a2⟩:=aVh _ (by omega) H 0
  obtain ⟨b1,b2⟩:=aPz _ (by omega) (by omega) H
  have e1:wT p=some (mx dE (fP p) 0):=by rw [wT,p1]; simp only [QB,QA,F5,a1]
  have e2:wN p=some (((fP p).map sE).sum):=by rw [wN,p1]; simp only [QB,QA,b1]
  have d1:dP p=mx dE (fP p) 0:=by unfold dP; rw [e1]; rfl
  have d2:sP p=((fP p).map sE).sum:=by unfold sP; rw [e2]; rfl
  unfold DsP
  rw [d1,d2]
  exact ⟨e1,by rw [aAy,p2]; exact a2,e2,by rw [aBw,p2]; exact b2,hn,hs⟩
theorem bMk (e:aJ) (hz:bG e≤1048576) (HK:∀ k∈e.kids,DsE k) (HS:∀ p∈e.sub,DsP p):DsE e:=by
  have hl:=aYm e
  have hzz:=aEj e
  have s1:=aAg (s:=sE) (z:=bG) e.kids fun y hy=>(HK y hy).2.2.2.2.2
  have s2:=aAg (s:=sP) (z:=eG) e.sub fun y hy=>by have:=(HS y hy).2.2.2.2.2; omega
  have n1:=aM2 (s:=sE) e.kids fun y hy=>(HK y hy).2.2.2.2.1
  have n2:=aM2 (s:=sP) e.sub fun y hy=>(HS y hy).2.2.2.2.1
  obtain ⟨a1,-⟩:=aVh e.kids (by omega) HK 0
  obtain ⟨b1,-⟩:=aPz e.kids (by omega) (by omega) HK
  have e1:yL e=some (QC .i64 (1+mx dP e.sub (mx dE e.kids 0))):=by
    rw [yL,F5,a1]
    exact folded (p:=e.sub) (g:=fun y b=>(wT y)>>=fun z=>some (if z>b then z else b)) (h:=fun y b=>if dP y>b then dP y else b) (L:=fun b i=>V4 e b i) (K:=fun b=>some (QC .i64 (1+b))) (by omega) (fun y hy b=>by rw [(HS y hy).1]; rfl) (fun i b=>by rw [V4]; simp only [QB,WT,QA]) _
  have e2:H5 e=some (QC .i64 (1+mx dP e.sub (mx dE e.kids 0))):=by
    rw [H5,folded (p:=e.kids) (g:=fun y b=>(H5 y)>>=fun z=>xG b z) (h:=fun y b=>if dE y>b then dE y else b) (L:=fun b i=>aDs e b i) (K:=fun b=>V3 e b 0) (by omega) (fun y hy b=>by rw [(HK y hy).2.1]; exact aXu _ _) (fun i b=>by rw [aDs]; simp only [QB,WT]) 0]
    rw [Int.add_comm 1]
    exact folded (p:=e.sub) (g:=fun y b=>(aAy y)>>=fun z=>xG b z) (h:=fun y b=>if dP y>b then dP y else b) (L:=fun b i=>V3 e b i) (K:=fun b=>some (QC .i64 (b+1))) (by omega) (fun y hy b=>by rw [(HS y hy).2.1]; exact aXu _ _) (fun i b=>by rw [V3]; simp only [QB,WT]) _
  have e3:yE e=some (1+(e.kids.map sE).sum+(e.sub.map sP).sum):=by
    rw [yE,b1]
    simp only [QB,QA]
    rw [dX (by omega) (by omega)]
    exact summed (p:=e.sub) (f:=wN) (s:=sP) (L:=fun x i=>Z5 e x i) (K:=fun x=>some x) (by omega) (fun y hy=>⟨(HS y hy).2.2.1,(HS y hy).2.2.2.2.1⟩) (fun i x=>by rw [Z5]) _ (by omega) (by omega)
  have e4:E8 e=some (1+(e.kids.map sE).sum+(e.sub.map sP).sum):=by
    rw [E8,summed (p:=e.kids) (f:=E8) (s:=sE) (L:=fun x i=>aEc e x i) (K:=fun x=>Q5 e x 0) (by omega) (fun y hy=>⟨(HK y hy).2.2.2.1,(HK y hy).2.2.2.2.1⟩) (fun i x=>by rw [aEc]) 1 (by omega) (by omega)]
    exact summed (p:=e.sub) (f:=aBw) (s:=sP) (L:=fun x i=>Q5 e x i) (K:=fun x=>some x) (by omega) (fun y hy=>⟨(HS y hy).2.2.2.1,(HS y hy).2.2.2.2.1⟩) (fun i x=>by rw [Q5]) _ (by omega) (by omega)
  have d1:dE e=QC .i64 (1+mx dP e.sub (mx dE e.kids 0)):=by unfold dE; rw [e1]; rfl
  have d2:sE e=1+(e.kids.map sE).sum+(e.sub.map sP).sum:=by
    have:sE e=(yE e).getD 0:=rfl
    rw [this,e3]; rfl
  unfold DsE
  rw [← d1] at e1 e2
  rw [← d2] at e3 e4
  exact ⟨e1,e2,e3,e4,by omega,by omega⟩
theorem aYb:∀ n:Nat,(∀ e:aJ,bG e<n→bG e≤1048576→DsE e)∧(∀ p:aP,eG p<n→eG p≤1048576→DsP p)
  | 0=>⟨fun _ h=>absurd h (by omega),fun _ h=>absurd h (by omega)⟩
  | n+1=>by
    obtain ⟨i1,i2⟩:=aYb n
    exact ⟨fun e he hz=>bMk e hz (fun k hk=>i1 k (by have:=aJz hk; have:=QZ hk; omega) (by have:=aJz hk; omega)) fun p hp=>i2 p (by have:=aIr hp; have:=QZ hp; omega) (by have:=aIr hp; omega),
      fun p hp hz=>bZs p hz fun e he=>i1 e (by have:=aI0 he; omega) (by have:=aI0 he; omega)⟩
theorem bZo (e:aJ) (hz:bG e≤1048576):DsE e:=(aYb _).1 e (XV _) hz
theorem bE0 (p:aP) (hz:eG p≤1048576):DsP p:=(aYb _).2 p (XV _) hz
theorem bNg (c:aQ) (hs:xA c) (p:aP) (hz:eG p≤1048576):∃ b,aF8 c p=some b∧xW c p=some b:=by
  obtain ⟨a,a1,a2⟩:=bAv c hs
  obtain ⟨b,b1,b2⟩:=aU4 c hs
  have hab:a=b:=by rw [QR,a2,b2]
  subst hab
  obtain ⟨d1,d2,d3,d4,-⟩:=bE0 p hz
  unfold aF8 xW aPx
  simp only [a1,b1,d1,d2,d3,d4,QB,QA]
  cases a with
  | false=>exact ⟨false,by simp,by simp⟩
  | true =>
  obtain ⟨r,r1,r2,r3⟩:=bHn c (bCu (a2.1 rfl)) p [] hz (by intro r hr; simp at hr) (by simp)
  have q1:decide (24<dP p)=!decide (dP p≤24):=by rw [QR]; simp only [WQ,decide_eq_true_eq,decide_eq_false_iff_not]; omega
  have q2:decide (200<sP p)=!decide (sP p≤200):=by rw [QR]; simp only [WQ,decide_eq_true_eq,decide_eq_false_iff_not]; omega
  rw [r1,r2]
  simp only [q1,QF,beq_self_eq_true,WK,if_true,if_false,QD,QA]
  generalize decide (dP p≤24)=x
  cases x with
  | false=>exact ⟨false,by simp,by simp⟩
  | true =>
  simp only [QF,beq_self_eq_true,WK,if_true,if_false,QD,QA,q2]
  generalize decide (sP p≤200)=y
  cases y with
  | false=>exact ⟨false,by simp,by simp⟩
  | true=>exact ⟨r.2,by simp,by simp⟩
theorem aM6 (a:Int):0≤QC .i64 ((BitVec.ofInt (WS .i64) a &&& BitVec.ofInt (WS .i64) 255).toNat:Int)∧QC .i64 ((BitVec.ofInt (WS .i64) a &&& BitVec.ofInt (WS .i64) 255).toNat:Int)≤255:=by
  have h:(BitVec.ofInt (WS .i64) a &&& BitVec.ofInt (WS .i64) 255).toNat≤255:=by
    rw [BitVec.toNat_and]
    exact QV Nat.and_le_right (by decide)
  rw [dX (by omega) (by omega)]
  omega
def okCur (c:aL):Prop:=0≤c.i∧c.i≤(c.b.length:Int)∧c.b.length≤1048576
theorem aIt (c:aL) (h:okCur c):∃ x c',H9 c=some (x,c')∧0≤x∧x≤255∧okCur c':=by
  obtain ⟨h1,h2,h3⟩:=h
  unfold H9 aGj
  by_cases hi:c.i<(c.b.length:Int)
  · have e:∃ v,idx c.b c.i=some v:=by
      unfold idx
      rw [if_pos h1]
      exact ⟨_,QU (by omega)⟩
    obtain ⟨v,hv⟩:=e
    rw [if_pos (by simpa using hi),hv]
    simp only [QB,QA]
    refine ⟨_,_,rfl,(aM6 _).1,(aM6 _).2,?_⟩
    refine ⟨?_,?_,h3⟩
    · show 0≤QC .i64 (c.i+1); rw [dX (by omega) (by omega)]; omega
    · show QC .i64 (c.i+1)≤(c.b.length:Int); rw [dX (by omega) (by omega)]; omega
  · rw [if_neg (by simpa using hi)]
    exact ⟨_,_,rfl,(aM6 _).1,(aM6 _).2,h1,h2,h3⟩
theorem bBk {a b:Int} (h0:0≤a) (hb:0<b):∃ r,xV a b=some r∧0≤r∧r<b:=by
  unfold xV
  rw [if_neg (by omega)]
  exact ⟨_,rfl,Int.tmod_nonneg _ h0,Int.tmod_lt_of_pos _ hb⟩
theorem aB0 (c:aL) (n:Int) (h:okCur c):∃ x c',gZ c n=some (x,c')∧0≤x∧(0<n→x<n)∧okCur c':=by
  unfold gZ
  by_cases h0:n≤0
  · rw [if_pos (by simpa using h0)]; exact ⟨0,c,rfl,by omega,by omega,h⟩
  rw [if_neg (by simpa using h0)]
  by_cases h1:n≤256
  · rw [if_pos (by simpa using h1)]
    obtain ⟨x,c1,e1,a1,b1,o1⟩:=aIt c h
    obtain ⟨r,er,r0,r1⟩:=bBk a1 (b:=n) (by omega)
    simp only [e1,QB,QA,er]
    exact ⟨r,c1,rfl,r0,fun _=>r1,o1⟩
  · rw [if_neg (by simpa using h1)]
    obtain ⟨x1,c1,e1,a1,b1,o1⟩:=aIt c h
    obtain ⟨x2,c2,e2,a2,b2,o2⟩:=aIt c1 o1
    obtain ⟨x3,c3,e3,a3,b3,o3⟩:=aIt c2 o2
    obtain ⟨x4,c4,e4,a4,b4,o4⟩:=aIt c3 o3
    simp only [e1,e2,e3,e4,QB,QA]
    rw [dX (n:=x1 * 16777216) (by omega) (by omega),dX (n:=x2 * 65536) (by omega) (by omega),dX (n:=x3 * 256) (by omega) (by omega),dX (n:=x1 * 16777216+x2 * 65536) (by omega) (by omega),dX (n:=x1 * 16777216+x2 * 65536+x3 * 256) (by omega) (by omega),dX (n:=x1 * 16777216+x2 * 65536+x3 * 256+x4) (by omega) (by omega)]
    obtain ⟨r,er,r0,r1⟩:=bBk (a:=x1 * 16777216+x2 * 65536+x3 * 256+x4) (by omega) (b:=n) (by omega)
    rw [er]
    exact ⟨r,c4,rfl,r0,fun _=>r1,o4⟩
theorem bMj (c:aL) (n:Int) (h:okCur c):∃ x c',iC c n=some (x,c')∧okCur c':=by
  obtain ⟨x,c1,e1,_,_,o1⟩:=aB0 c n h
  unfold iC
  simp only [e1,QB,QA]
  exact ⟨_,_,rfl,o1⟩
theorem aQd {α:Type} {l:List α} {x:Int} (h0:0≤x) (h1:x<(l.length:Int)):∃ v,v∈l∧idx l x=some v:=by
  unfold idx
  rw [if_pos h0]
  exact ⟨_,QE (by omega),QU (by omega)⟩
theorem bJ0 (c:aL) (l:List (List UInt8)) (hl:0<l.length) (h:okCur c):∃ x c',tF c l=some (x,c')∧x∈l∧okCur c':=by
  obtain ⟨x,c1,e1,h0,h1,o1⟩:=aB0 c l.length h
  obtain ⟨v,hv,ev⟩:=aQd h0 (h1 (by omega))
  unfold tF
  simp only [e1,ev,QB,QA]
  exact ⟨_,_,rfl,hv,o1⟩
theorem aV1 (c:aL) (l:List Int) (hl:0<l.length) (h:okCur c):∃ x c',O6 c l=some (x,c')∧x∈l∧okCur c':=by
  obtain ⟨x,c1,e1,h0,h1,o1⟩:=aB0 c l.length h
  obtain ⟨v,hv,ev⟩:=aQd h0 (h1 (by omega))
  unfold O6
  simp only [e1,ev,QB,QA]
  exact ⟨_,_,rfl,hv,o1⟩
theorem bUj (p:List Int) (hp:p.length≤1048576):∃ c,aJl p=some c∧okCur c:=by
  unfold aJl
  have key:∀ i,i≤p.length→∀ h,∃ c,O0 p h (i:Nat)=some c∧okCur c:=by
    refine dZ ?_ ?_
    · intro h
      rw [O0]
      refine ⟨⟨p,0,h⟩,by simp,?_⟩
      exact ⟨by show (0:Int)≤0; omega,by show (0:Int)≤(p.length:Int); omega,hp⟩
    · intro i hi ih h
      rw [O0]
      by_cases h4:(i:Int)<4000
      · simp only [bZ,hi,h4,decide_true,if_true,bM hi,dI hi (by omega),QB,QA]
        exact ih _
      · simp only [bZ,hi,h4,decide_true,decide_false,if_true,QD,if_false]
        exact ⟨⟨p,0,h⟩,rfl,by show (0:Int)≤0; omega,by show (0:Int)≤(p.length:Int); omega,hp⟩
  exact key 0 (by omega) _
def Yes {α:Type} (m:Option α) (Q:α→Prop):Prop:=∃ r,m=some r∧Q r
theorem Yes.bind {α β:Type} {m:Option α} {k:α→Option β} {Q:α→Prop} {R:β→Prop} (h:Yes m Q) (hk:∀ x,Q x→Yes (k x) R):Yes (m>>=k) R:=by
  obtain ⟨x,e,hx⟩:=h
  obtain ⟨r,e2,hr⟩:=hk x hx
  exact ⟨r,by rw [e]; exact e2,hr⟩
theorem Yes.some {α:Type} {x:α} {Q:α→Prop} (h:Q x):Yes (some x) Q:=⟨x,rfl,h⟩
theorem Yes.mono {α:Type} {m:Option α} {Q R:α→Prop} (h:Yes m Q) (hk:∀ x,Q x→R x):Yes m R:=by
  obtain ⟨x,e,hx⟩:=h; exact ⟨x,e,hk x hx⟩
theorem Yes.ite {α:Type} {c:Prop} [Decidable c] {m m':Option α} {Q:α→Prop} (h:c→Yes m Q) (h':¬ c→Yes m' Q):Yes (if c then m else m') Q:=by
  split
  · exact h (by assumption)
  · exact h' (by assumption)
theorem jR (c:aL) (n:Int) (h:okCur c):Yes (gZ c n) fun r=>0≤r.1∧(0<n→r.1<n)∧okCur r.2:=by
  obtain ⟨x,c',e,h1,h2,h3⟩:=aB0 c n h; exact ⟨_,e,h1,h2,h3⟩
theorem jZ (c:aL) (n:Int) (h:okCur c):Yes (iC c n) fun r=>okCur r.2:=by
  obtain ⟨x,c',e,h1⟩:=bMj c n h; exact ⟨_,e,h1⟩
theorem aFy (p:Bool) (b:Bool) (c:aL) (n:Int) (h:okCur c):Yes (if (true&&(p==b))=true then iC c n else some ((default:Bool),c)) fun r=>okCur r.2:=Yes.ite (fun _=>jZ c n h) fun _=>Yes.some h
theorem bV7 (c:aL) (l:List (List UInt8)) (hl:0<l.length) (h:okCur c):Yes (tF c l) fun r=>okCur r.2:=by
  obtain ⟨x,c',e,_,h1⟩:=bJ0 c l hl h; exact ⟨_,e,h1⟩
theorem lJ {α:Type} {b:Nat} {l m:List α} (h:(l.length+m.length) * b≤140737488355328):Yes (appG b l m) fun r=>r=l++m:=⟨_,nK h,rfl⟩
theorem aC7 (c:aL) (l:List (List UInt8)) (hl:0<l.length) (h:okCur c):Yes (tF c l) fun r=>r.1∈l∧okCur r.2:=by
  obtain ⟨x,c',e,h0,h1⟩:=bJ0 c l hl h; exact ⟨_,e,h0,h1⟩
theorem bZf (c:aL) (h:okCur c):Yes (aGn c) fun r=>r.1.length≤8∧okCur r.2:=by
  unfold aGn
  refine Yes.bind (jZ _ _ h) fun r k=>Yes.ite (fun _=>?_) fun _=>?_
  · refine Yes.bind (aC7 _ _ (by decide) k) fun r ⟨hm,k⟩=>Yes.some ⟨?_,k⟩
    have:∀ v∈([[97,32,98],[102,114,111,109],[83,101,108,101,99,116],[49,120],[113,34,113],[0],[34],[105,116,39,115],[120,46,121],[45]]:List (List UInt8)),v.length≤8:=by decide
    exact this _ hm
  · refine Yes.bind (aC7 _ _ (by decide) k) fun r ⟨hm,k⟩=>Yes.some ⟨?_,k⟩
    have:∀ v∈([[97],[98],[99],[116],[117],[118],[105,100],[110,97,109,101],[65],[95,120,49]]:List (List UInt8)),v.length≤8:=by decide
    exact this _ hm
theorem aB4 (c:aL) (h:okCur c):Yes (wL c) fun r=>okI r.1∧okCur r.2:=by
  obtain ⟨x,c1,e1,_,_,o1⟩:=aB0 c 3 h
  obtain ⟨y,c2,e2,hy,o2⟩:=aV1 c1 [0,1,(-1),63,64,(-64),(-65),127,128,16383,16384,9223372036854775807,(-9223372036854775808),4611686018427387904] (by decide) o1
  obtain ⟨z,c3,e3,z0,z1,o3⟩:=aB0 c1 1000000 o1
  obtain ⟨w,c4,e4,w0,w1,o4⟩:=aB0 c1 20 o1
  have hyI:okI y:=by
    have:∀ v∈([0,1,(-1),63,64,(-64),(-65),127,128,16383,16384,9223372036854775807,(-9223372036854775808),4611686018427387904]:List Int),-9223372036854775808≤v∧v≤9223372036854775807:=by decide
    exact this y hy
  have hz:=z1 (by decide)
  have hw:=w1 (by decide)
  unfold wL
  simp only [e1,e2,e3,e4,QB,QA]
  split
  · exact ⟨_,rfl,hyI,o2⟩
  split
  · refine ⟨_,rfl,?_,o3⟩
    unfold okI; dsimp only; rw [dX (by omega) (by omega)]; omega
  · refine ⟨_,rfl,?_,o4⟩
    unfold okI; dsimp only; omega
def okV (B:Nat) (r:aA×aL):Prop:=okGValue r.1∧r.1.text.length≤B∧okCur r.2
theorem okV_mk {B:Nat} {k n:Int} {t:List UInt8} {c:aL} (h1:okI k) (h2:okI n) (h3:t.length≤B) (hB:B≤1000) (h:okCur c):okV B (⟨k,n,t⟩,c):=⟨⟨h1,h2,by unfold okS; dsimp only; omega⟩,h3,h⟩
theorem okI_small {n:Int} (h0 : -1000≤n) (h1:n≤1000):okI n:=by unfold okI; omega
theorem bRl (c:aL) (h:okCur c):Yes (aI6 c) (okV 4):=by
  unfold aI6
  refine Yes.bind (jR _ _ h) fun r ⟨_,_,k⟩=>Yes.ite (fun _=>?_) fun _=>Yes.ite (fun _=>?_) fun _=>Yes.ite (fun _=>?_) fun _=>Yes.ite (fun _=>?_) fun _=>?_
  · exact Yes.some (okV_mk (okI_small (by omega) (by omega)) (okI_small (by omega) (by omega)) (by simp) (by omega) k)
  · refine Yes.bind (aC7 _ _ (by decide) k) fun r ⟨hm,k⟩=>?_
    have:∀ v∈([[],[97],[98],[105,116,39,115],[97,98],[255]]:List (List UInt8)),v.length≤4:=by decide
    exact Yes.bind (Q:=fun v=>v=⟨2,0,r.1⟩) ⟨_,rfl,rfl⟩ fun v hv=>Yes.some (by subst hv; exact okV_mk (okI_small (by omega) (by omega)) (okI_small (by omega) (by omega)) (this _ hm) (by omega) k)
  · refine Yes.bind (jZ _ _ k) fun r k=>?_
    have:Yes (qQ r.1) fun v=>okI v.kind∧okI v.num∧v.text=[]:=by
      cases r.1
      · exact ⟨_,rfl,okI_small (by decide) (by decide),okI_small (by decide) (by decide),rfl⟩
      · exact ⟨_,rfl,okI_small (by decide) (by decide),okI_small (by decide) (by decide),rfl⟩
    refine Yes.bind this fun v ⟨h1,h2,h3⟩=>Yes.some ?_
    obtain ⟨a,b,t⟩:=v
    dsimp only at h1 h2 h3
    subst h3
    exact okV_mk h1 h2 (by simp) (by omega) k
  · refine Yes.bind (aB4 _ k) fun r ⟨h1,k⟩=>?_
    exact Yes.bind (Q:=fun v=>v=⟨1,r.1,[]⟩) ⟨_,rfl,rfl⟩ fun v hv=>Yes.some (by subst hv; exact okV_mk (okI_small (by omega) (by omega)) h1 (by simp) (by omega) k)
  · refine Yes.bind (jR _ _ k) fun r ⟨h0,h1,k⟩=>?_
    have:=h1 (by decide)
    exact Yes.bind (Q:=fun v=>v=⟨1,QC .i64 (r.1 - 2),[]⟩) ⟨_,rfl,rfl⟩ fun v hv=>Yes.some (by subst hv; exact okV_mk (okI_small (by omega) (by omega)) (by rw [dX (by omega) (by omega)]; exact okI_small (by omega) (by omega)) (by simp) (by omega) k)
theorem aDg (a b:Int) (q:Bool) (v:aA) (u t:Int) (ks:List aJ) (ss:List aP):bG (aJ.mk a b q v u t ks ss)=xI v+zL bG ks+zL eG ss:=by
  obtain ⟨v0,v1,v2⟩:=v
  simp only [bG,xI,aCs,aVd,zL]
theorem C8 {α:Type} {z:α→Nat} {B n:Nat}:∀ {l:List α},l.length≤n→(∀ y∈l,z y≤B)→zL z l≤n * (1+B):=by
  have key:∀ l:List α,(∀ y∈l,z y≤B)→zL z l≤l.length * (1+B):=fun l=>by
    induction l with
    | nil=>simp [zL]
    | cons x l ih =>
      intro h
      have h1:=ih fun y hy=>h y (WO _ hy)
      have h2:=h x (by simp)
      simp only [zL,QY,QL,WI,Nat.add_mul,XW] at h1 ⊢
      omega
  intro l hl h
  exact QV (key l h) (XI _ hl)
def pN (n:Int) (l:List (List UInt8)):Prop:=(l.length:Int)≤n∧∀ s∈l,s.length≤8
theorem mem1 {α:Type} {x:α} {p:α→Prop} (hx:p x):∀ y∈[x],p y:=fun y hy=>by
  have:y=x:=by simpa using hy
  rw [this]; exact hx
theorem uA {α:Type} {l:List α} {x:α} {p:α→Prop} (h:∀ y∈l,p y) (hx:p x):∀ y∈l++[x],p y:=fun y hy=>by
  rcases QO.1 hy with hy | hy
  · exact h y hy
  · have:y=x:=by simpa using hy
    rw [this]; exact hx
def Zb:Nat→Nat
  | 0=>10
  | n+1=>60+11 * Zb n
theorem cC9 (n:Nat):10≤Zb n:=by cases n <;> simp only [Zb] <;> omega
def FZ (B:Nat) (r:aJ×aL):Prop:=bG r.1≤B∧okCur r.2
def KZ (B m:Nat) (r:List aJ×aL):Prop:=(r.1.length≤m∧∀ y∈r.1,bG y≤B)∧okCur r.2
def PZ (B:Nat) (r:aP×aL):Prop:=eG r.1≤40+8 * B∧okCur r.2
theorem zV {v:aA} {B:Nat} (h:v.text.length≤B) (hn:okI v.num):xI v≤B:=by
  obtain ⟨a,b,c⟩:=v
  show c.length+zN b≤B
  rw [zN0 hn]; exact h
theorem bMd {v:aA} (h:xI v≤1048576):okI v.num:=by
  obtain ⟨a,b,c⟩:=v
  change c.length+zN b≤_ at h
  unfold zN at h
  split at h
  · assumption
  · omega
theorem bEs (c:aL) (ty:Int) (h:okCur c):Yes (aEy c ty) fun r=>(r.1.text.length≤4∧okI r.1.num)∧okCur r.2:=by
  have o0:okI 0:=by decide
  have o1:okI 1:=by decide
  unfold aEy
  refine Yes.bind (jZ _ _ h) fun r k=>Yes.ite (fun _=>Yes.some ⟨⟨by simp,o0⟩,k⟩) fun _=>Yes.ite (fun _=>?_) fun _=>Yes.ite (fun _=>?_) fun _=>?_
  · refine Yes.bind (aC7 _ _ (by decide) k) fun r ⟨hm,k⟩=>?_
    have:∀ v∈([[],[97],[98],[97,98]]:List (List UInt8)),v.length≤4:=by decide
    exact Yes.bind (Q:=fun v=>v.text.length≤4∧okI v.num) ⟨_,rfl,this _ hm,o0⟩ fun v hv=>Yes.some ⟨hv,k⟩
  · refine Yes.bind (jZ _ _ k) fun r k=>Yes.bind (Q:=fun v:aA=>v.text.length≤4∧okI v.num) ?_ fun v hv=>Yes.some ⟨hv,k⟩
    unfold qQ
    exact Yes.ite (fun _=>Yes.some ⟨by simp,o1⟩) fun _=>Yes.some ⟨by simp,o0⟩
  · exact Yes.bind (aB4 _ k) fun r ⟨hi,k⟩=>Yes.bind (Q:=fun v:aA=>v.text.length≤4∧okI v.num) ⟨_,rfl,by simp,hi⟩ fun v hv=>Yes.some ⟨hv,k⟩
theorem bT4 (c:aL) (l:List Int) (hl:0<l.length) (h:okCur c):Yes (O6 c l) fun r=>r.1∈l∧okCur r.2:=by
  obtain ⟨x,c',e,hm,k⟩:=aV1 c l hl h
  exact ⟨_,e,hm,k⟩
theorem bBg (c:aL) (ty:Int) (h:okCur c):Yes (aB5 c ty) fun r=>(r.1.text.length≤4∧okI r.1.num)∧okCur r.2:=by
  unfold aB5 aG6
  refine Yes.bind (bEs c ty h) fun r ⟨h1,k⟩=>Yes.ite (fun _=>Yes.bind (bT4 _ _ (by decide) k) fun q ⟨hm,k⟩=>Yes.some ⟨⟨h1.1,?_⟩,k⟩) fun _=>Yes.some ⟨h1,k⟩
  have:∀ v∈([0,1,2,3,5,1,2,9223372036854775807]:List Int),okI v:=by decide
  exact this _ hm
theorem cD3 (c:aL) (env:List (List Int)) (hv:kY env) (hl:env.length≤4194304) (ty:Int) (h:okCur c):Yes (aD8 c env ty) (FZ 10):=by
  have key:∀ i,i≤env.length→∀ x b0 b3 b4 (t:List UInt8) u a b j g,(t.length≤4∧okI b4)→okCur ⟨b,j,g⟩→Yes (aAq env ty x (i:Nat) b0 b3 b4 (t,u,a,b,j,g)) (FZ 10):=by
    refine dZ ?_ ?_
    · intro x b0 b3 b4 t u a b j g ht k
      rw [aAq,if_neg (by simp)]
      refine Yes.some ⟨?_,k⟩
      have:=zV (v:=⟨b3,b4,t⟩) ht.1 ht.2
      rw [aDg]; simp [zL]; omega
    · intro i hi ih x b0 b3 b4 t u a b j g ht k
      rw [aAq,if_pos (by simpa using hi)]
      have hr:=(hv _ (QE hi)).1
      have inner:∀ m,m≤env[i].length→∀ x b0 b3 b4 (t:List UInt8) u a b j g,(t.length≤4∧okI b4)→okCur ⟨b,j,g⟩→Yes (aAx env ty (i:Nat) x (m:Nat) b0 b3 b4 (t,u,a,b,j,g)) (FZ 10):=by
        refine dZ ?_ ?_
        · intro x b0 b3 b4 t u a b j g ht k
          rw [aAx]
          simp only [bM hi,bZ,WJ,decide_false,QD,if_false,dI hi (by omega),QB,QA]
          exact ih _ _ _ _ _ _ _ _ _ _ ht k
        · intro m hm im x b0 b3 b4 t u a b j g ht k
          have J2:∀ x b0 b3 b4 (t:List UInt8) u a b j g,(t.length≤4∧okI b4)→okCur ⟨b,j,g⟩→Yes (K9 env ty (i:Nat) (m:Nat) x b0 b3 b4 (t,u,a,b,j,g)) (FZ 10):=by
            intro x b0 b3 b4 t u a b j g ht k
            rw [K9,dI hm (by omega)]
            exact im _ _ _ _ _ _ _ _ _ _ ht k
          rw [aAx]
          simp only [bM hi,bZ,hm,decide_true,if_true,bM hm,QB,QA]
          refine Yes.ite (fun _=>?_) fun _=>J2 _ _ _ _ _ _ _ _ _ _ ht k
          exact Yes.bind (jZ _ _ k) fun r k=>Yes.ite (fun _=>J2 _ _ _ _ _ _ _ _ _ _ ⟨by simp,by decide⟩ k) fun _=>J2 _ _ _ _ _ _ _ _ _ _ ht k
      simpa using inner 0 (by omega) x b0 b3 b4 t u a b j g ht k
  unfold aD8
  refine Yes.bind (bBg c ty h) fun r ⟨h1,k⟩=>?_
  simpa using key 0 (by omega) _ _ _ _ _ _ _ _ _ _ h1 k
theorem bQt (B:Nat) (cat:aQ) (env:List (List Int)) (ty d:Int) (m:Int) (hm:m≤4) (H:∀ c,okCur c→Yes (qG c cat env ty (QC .i64 (d - 1))) (FZ B)) (c:aL) (h:okCur c):Yes (nR c cat env ty d m) (KZ B 4):=by
  have key:∀ (k:Nat) (i:Int) b j h (l:List aJ),m≤k+i→0≤i→i≤4→(l.length:Int)≤i→(∀ y∈l,bG y≤B)→okCur ⟨b,j,h⟩→Yes (xC env ty d m cat i (b,j,h,l)) (KZ B 4):=by
    intro k
    induction k with
    | zero =>
      intro i b j h l h1 h2 h3 h4 h5 h6
      rw [xC,if_neg (by simp; omega)]
      exact Yes.some ⟨⟨by show l.length≤4; omega,h5⟩,h6⟩
    | succ k ih =>
      intro i b j h l h1 h2 h3 h4 h5 h6
      rw [xC]
      refine Yes.ite (fun hi=>?_) fun _=>Yes.some ⟨⟨by show l.length≤4; omega,h5⟩,h6⟩
      have hi':i<m:=by simpa using hi
      refine Yes.bind (H _ h6) fun r ⟨hz,hr⟩=>Yes.bind (lJ (by simp; omega)) fun y hy=>?_
      subst hy
      rw [dX (by omega) (by omega)]
      exact ih _ _ _ _ _ (by omega) (by omega) (by omega) (by simp; omega) (uA h5 hz) hr
  rw [nR]
  exact key m.toNat 0 c.b c.i c.h [] (by omega) (by omega) (by omega) (by simp) (by simp) h
def qO (n:Int) (B:Nat) (o:List (List aJ)):Prop:=(o.length:Int)≤n∧∀ l∈o,l.length≤1∧∀ y∈l,bG y≤B
def qL (n:Int) (B:Nat) (l:List aJ):Prop:=(l.length:Int)≤n∧∀ y∈l,bG y≤B
def qK (B:Nat) (l:List dD):Prop:=l.length≤1∧∀ k∈l,bG k.expr≤B
theorem aMi {B:Nat} {t:List Int} {o:List (List aJ)} {w i:List aJ} {r:List dD} {n:List (List UInt8)} {d:Bool} {l:Int} (ht:t.length≤2) (ho:qO 2 B o) (hw:qL 1 B w) (hr:qK B r) (hi:qL 2 B i) (hn:pN 2 n):eG (aP.mk t o w r i n d l)≤40+8 * B:=by
  obtain ⟨o1,o2⟩:=ho
  obtain ⟨w1,w2⟩:=hw
  obtain ⟨r1,r2⟩:=hr
  obtain ⟨i1,i2⟩:=hi
  obtain ⟨n1,n2⟩:=hn
  have e1:eG (aP.mk t o w r i n d l)=zTb t+zL z0 t+zL (zL bG) o+zL bG w+zL U5 r+zL bG i+zL WU n:=by simp only [eG,aCs,aOo,aLg,zL]
  have a1:=C8 (z:=z0) (B:=0) (n:=2) (l:=t) (by omega) (fun _ _=>by simp [z0])
  have a2:=C8 (z:=zL bG) (B:=1 * (1+B)) (n:=2) (l:=o) (by omega) (fun y hy=>C8 (o2 y hy).1 fun x hx=>(o2 y hy).2 x hx)
  have a3:=C8 (z:=bG) (B:=B) (n:=1) (l:=w) (by omega) (fun y hy=>w2 y hy)
  have a4:=C8 (z:=U5) (B:=B) (n:=1) (l:=r) (by omega) (fun y hy=>by have:=r2 y hy; obtain ⟨p,q⟩:=y; simpa only [U5] using this)
  have a5:=C8 (z:=bG) (B:=B) (n:=2) (l:=i) (by omega) (fun y hy=>i2 y hy)
  have a6:=C8 (z:=WU) (B:=8) (n:=2) (l:=n) (by omega) n2
  have a0:zTb t=0:=by unfold zTb; omega
  rw [e1]; omega
theorem aL8 {cat:aQ} (hc:qE cat) {env:List (List Int)} (hv:kY env) {l:List Int} (hl:l.length≤1000):kY ((kG cat [] l).1::env):=by
  obtain ⟨a,b⟩:=aP3 cat hc l [] (by simp)
  exact aUy (by simp only [WF] at b; omega) a hv
theorem bKt {B:Nat} {d:Int} {cat:aQ} (hc:qE cat) (env:List (List Int)) (hv:kY env) (hl:env.length≤1000) (types:List Int) (hty:types.length≤2)
    (H:∀ c ty env',kY env'→env'.length=env.length+1→okCur c→Yes (qG c cat env' ty d) (FZ B)) (c:aL) (h:okCur c):Yes (xN c cat env types d) (PZ B):=by
  have J4:∀ y1 (w:List aJ) n i o t b j g r,qL 1 B w→pN 2 n→qL 2 B i→qO 2 B o→t.length≤2→qK B r→okCur ⟨b,j,g⟩→Yes (J7 y1 w n i o t b j g r) (PZ B):=fun y1 w n i o t b j g r hw hn hi ho ht hr k=>by
    unfold J7 aDw
    refine Yes.bind (jZ _ _ k) fun q k=>Yes.ite (fun _=>?_) fun _=>?_
    · exact Yes.bind (jR _ _ k) fun q ⟨_,_,k⟩=>Yes.some ⟨aMi ht ho hw hr hi hn,k⟩
    · exact Yes.some ⟨aMi ht ho hw hr hi hn,k⟩
  have J3:∀ env' y1 n i o t b j g (w:List aJ),kY env'→env'.length=env.length+1→qL 1 B w→pN 2 n→qL 2 B i→qO 2 B o→t.length≤2→okCur ⟨b,j,g⟩→Yes (Q8 d env' cat y1 n i (o,t,b,j,g,w)) (PZ B):=fun env' y1 n i o t b j g w he hel hw hn hi ho ht k=>by
    rw [Q8]
    refine Yes.bind (jZ _ _ k) fun q k=>Yes.ite (fun _=>?_) fun _=>?_
    · refine Yes.bind (jR _ _ k) fun q ⟨_,_,k⟩=>Yes.bind (H _ _ _ he hel k) fun q ⟨hq,k⟩=>Yes.bind (jZ _ _ k) fun q2 k=>Yes.bind (lJ (by simp)) fun z hz=>?_
      subst hz
      exact J4 _ _ _ _ _ _ _ _ _ _ hw hn hi ho ht ⟨by simp,mem1 (p:=fun (k:dD)=>bG k.expr≤B) hq⟩ k
    · exact J4 _ _ _ _ _ _ _ _ _ _ hw hn hi ho ht ⟨by simp,by simp⟩ k
  have L2:∀ env' y1 o t,kY env'→env'.length=env.length+1→qO 2 B o→t.length≤2→∀ x,x≤types.length→∀ b j g n i,pN x n→qL x B i→okCur ⟨b,j,g⟩→Yes (xB types d env' cat y1 o t ((x:Nat),b,j,g,n,i)) (PZ B):=by
    intro env' y1 o t he hel ho ht
    refine dZ ?_ ?_
    · intro b j g n i hn hi k
      rw [xB,if_neg (by simp)]
      have hn2:pN 2 n:=⟨by have:=hn.1; omega,hn.2⟩
      have hi2:qL 2 B i:=⟨by have:=hi.1; omega,hi.2⟩
      refine Yes.bind (jZ _ _ k) fun q k=>Yes.ite (fun _=>?_) fun _=>?_
      · exact Yes.bind (H _ _ _ he hel k) fun q ⟨hq,k⟩=>J3 _ _ _ _ _ _ _ _ _ _ he hel ⟨by simp,mem1 hq⟩ hn2 hi2 ho ht k
      · exact J3 _ _ _ _ _ _ _ _ _ _ he hel ⟨by simp,by simp⟩ hn2 hi2 ho ht k
    · intro x hx ih b j g n i hn hi k
      rw [xB,if_pos (by simpa using hx)]
      have l1:=hn.1
      have l2:=hi.1
      simp only [bM hx,dI hx (by omega),QB,QA]
      refine Yes.bind (H _ _ _ he hel k) fun q ⟨hq,k⟩=>Yes.bind (lJ (by simp; omega)) fun z hz=>Yes.bind (aC7 _ _ (by decide) k) fun s ⟨hs,k⟩=>Yes.bind (lJ (by simp; omega)) fun z2 hz2=>?_
      subst hz hz2
      have hs8:s.1.length≤8:=by
        have:∀ v∈([[97],[98],[99],[120],[121,32,122],[99,49]]:List (List UInt8)),v.length≤8:=by decide
        exact this _ hs
      exact ih _ _ _ _ _ ⟨by simp; omega,uA hn.2 hs8⟩ ⟨by simp; omega,uA hi.2 hq⟩ k
  have L0:∀ (y2:Int×aL) y1,0≤y2.1→y2.1<2→∀ (m:Nat) (x:Int) b j g o (t:List Int),2≤m+x→0≤x→x≤2→qO x B o→(t.length:Int)≤x→okCur ⟨b,j,g⟩→Yes (uQ env types d y2 cat y1 (x,b,j,g,o,t)) (PZ B):=by
    intro y2 y1 y0 yl m
    have e0:QC .i64 (1+y2.1)=1+y2.1:=dX (by omega) (by omega)
    have fin:∀ (x:Int) b j g o (t:List Int),¬ x<1+y2.1→x≤2→qO x B o→(t.length:Int)≤x→okCur ⟨b,j,g⟩→Yes (uQ env types d y2 cat y1 (x,b,j,g,o,t)) (PZ B):=by
      intro x b j g o t hx h2 ho ht k
      rw [uQ]
      dsimp only
      rw [e0,if_neg (by simpa using hx),(aB7 cat hc t (by omega)).2]
      simp only [QB,QA]
      rw [(aF2 _ env (by omega)).2]
      simp only [QA]
      exact L2 _ y1 o t (aL8 hc hv (by omega)) (by simp) ⟨by have:=ho.1; omega,ho.2⟩ (by omega) 0 (by omega) _ _ _ _ _ ⟨by simp,by simp⟩ ⟨by simp,by simp⟩ k
    induction m with
    | zero=>intro x b j g o t h1 h2 h3 ho ht k; exact fin x b j g o t (by omega) h3 ho ht k
    | succ m ih =>
      intro x b j g o t h1 h2 h3 ho ht k
      by_cases hx:x<1+y2.1
      · rw [uQ]
        dsimp only
        rw [e0,if_pos (by simpa using hx)]
        have l1:=ho.1
        have J1:∀ (q:Int) (w:List aJ) b j g,w.length≤1→(∀ y∈w,bG y≤B)→okCur ⟨b,j,g⟩→Yes (M8 env types d y2 x cat y1 (t++[q],o,b,j,g,w)) (PZ B):=fun q w b j g hw1 hw2 k=>by
          rw [M8]
          refine Yes.bind (lJ (by simp; omega)) fun z hz=>?_
          subst hz
          rw [dX (by omega) (by omega)]
          exact ih _ _ _ _ _ _ (by omega) (by omega) (by omega) ⟨by simp; omega,uA ho.2 ⟨hw1,hw2⟩⟩ (by simp; omega) k
        refine Yes.bind (jR _ _ k) fun q ⟨q0,q1,k⟩=>Yes.bind (lJ (by simp; omega)) fun z hz=>?_
        subst hz
        rw [(aB7 cat hc (t++[q.1]) (by simp; omega)).2]
        simp only [QB,QA]
        refine Yes.bind (aFy _ _ _ _ k) fun q2 k=>?_
        refine Yes.ite (fun _=>?_) fun _=>?_
        · rw [(aF2 _ env (by omega)).2]
          simp only [QA]
          refine Yes.bind (H _ _ _ (aL8 hc hv (by simp; omega)) (by simp) k) fun e ⟨he,k⟩=>Yes.bind (lJ (by simp)) fun z hz=>?_
          subst hz
          exact J1 _ _ _ _ _ (by simp) (mem1 he) k
        · exact J1 _ _ _ _ _ (by simp) (by simp) k
      · exact fin x b j g o t hx h3 ho ht k
  rw [xN]
  refine Yes.bind (jZ _ _ h) fun y1 k=>Yes.bind (jR _ _ k) fun y2 ⟨q0,q1,k⟩=>?_
  exact L0 y2 y1 q0 (q1 (by decide)) 2 0 _ _ _ _ _ (by omega) (by omega) (by omega) ⟨by simp,by simp⟩ (by simp) k
theorem yI {B:Nat} {a b u t:Int} {q:Bool} {ks:List aJ} (hk:ks.length≤4∧∀ y∈ks,bG y≤B):bG (aJ.mk a b q ⟨0,0,[]⟩ u t ks [])≤60+11 * B:=by
  have v0:xI ⟨0,0,[]⟩=0:=by decide
  rw [aDg,v0]; have:=C8 (z:=bG) hk.1 hk.2; simp only [zL,WF,WY,XP] at this ⊢; omega
theorem bGa {B:Nat} {a b u t:Int} {q:Bool} {ks:List aJ} {p:aP} (hk:ks.length≤1∧∀ y∈ks,bG y≤B) (hp:eG p≤40+8 * B):bG (aJ.mk a b q ⟨0,0,[]⟩ u t ks [p])≤60+11 * B:=by
  have v0:xI ⟨0,0,[]⟩=0:=by decide
  rw [aDg,v0]; have:=C8 (z:=bG) hk.1 hk.2; simp only [zL,WF,QY,QL,WY,WI,XP] at *; omega
theorem bWp (B:Nat) (cat:aQ) (env:List (List Int)) (ty d:Int) (H:∀ c,okCur c→Yes (qG c cat env ty (QC .i64 (d - 1))) (FZ B)) (c:aL) (h:okCur c):Yes (nR c cat env ty d 1) (KZ B 1):=by
  rw [nR,xC,if_pos (by simp)]
  refine Yes.bind (H _ h) fun r ⟨hz,hr⟩=>Yes.bind (lJ (by simp)) fun y hy=>?_
  subst hy
  rw [xC,if_neg (by decide)]
  exact Yes.some ⟨⟨by simp,by simpa using hz⟩,hr⟩
theorem bCc (c:aL) (env:List (List Int)) (hv:kY env) (hl:env.length≤4194304) (ty:Int) (h:okCur c) (B:Nat) (hB:10≤B):Yes ((iC c 3)>>=fun (y3:Bool×aL)=>if y3.1=true then ((aB5 y3.2 ty)>>=fun (y4:aA×aL)=>some ((aJ.mk 1 0 false y4.1 0 0 ([]:List aJ) ([]:List aP)),y4.2)) else ((aD8 y3.2 env ty)>>=fun (y5:aJ×aL)=>some (y5.1,y5.2))) (FZ B):=by
  refine Yes.bind (jZ _ _ h) fun r k=>Yes.ite (fun _=>?_) fun _=>?_
  · refine Yes.bind (bBg _ _ k) fun r ⟨h1,k⟩=>Yes.some ⟨?_,k⟩
    dsimp only
    have:=zV h1.1 h1.2
    rw [aDg]; simp [zL]; omega
  · exact Yes.bind (cD3 _ env hv hl ty k) fun r ⟨h1,k⟩=>Yes.some ⟨by show bG r.1≤B; omega,k⟩
theorem bXh {cat:aQ} (hc:qE cat):∀ (n:Nat) (d:Int) (c:aL) (ty:Int) (env:List (List Int)),-100≤d→d≤n→n≤4→kY env→env.length+n≤1000→okCur c→Yes (qG c cat env ty d) (FZ (Zb n)):=by
  intro n
  induction n with
  | zero =>
    intro d c ty env hd0 hd _ hv hl h
    rw [qG]
    refine Yes.bind (aFy _ _ _ _ h) fun r k=>Yes.bind (Q:=fun q=>q=true) ⟨_,rfl,by rw [if_pos (by simpa using hd)]⟩ fun q hq=>?_
    rw [if_pos hq]
    exact bCc _ env hv (by omega) ty k _ (XB _)
  | succ n ih =>
    intro d c ty env hd0 hd hn hv hl h
    have hB:Zb (n+1)=60+11 * Zb n:=rfl
    rw [qG]
    refine Yes.bind (aFy _ _ _ _ h) fun r k=>Yes.bind (Q:=fun q=>q=true∨0<d) ⟨_,rfl,?_⟩ fun q hq=>Yes.ite (fun _=>bCc _ env hv (by omega) ty k _ (cC9 _)) fun hq2=>?_
    · by_cases h0:d≤0
      · exact .inl (by rw [if_pos (by simpa using h0)])
      · exact .inr (by omega)
    have h0:0<d:=hq.resolve_left hq2
    rw [hB]
    have e1:QC .i64 (d - 1)=d - 1:=dX (by omega) (by omega)
    have K:∀ m c ty,m≤4→okCur c→Yes (nR c cat env ty d m) (KZ (Zb n) 4):=fun m c ty hm k=>bQt (Zb n) cat env ty d m hm (fun c k=>by rw [e1]; exact ih _ c ty env (by omega) (by omega) (by omega) hv (by omega) k) c k
    have K1:∀ c ty,okCur c→Yes (nR c cat env ty d 1) (KZ (Zb n) 1):=fun c ty k=>bWp (Zb n) cat env ty d (fun c k=>by rw [e1]; exact ih _ c ty env (by omega) (by omega) (by omega) hv (by omega) k) c k
    have P2:∀ c (t:Int),1<d→okCur c→Yes (xN c cat env [t] (QC .i64 (d - 2))) (PZ (Zb n)):=fun c t h2 k=>by
      rw [dX (n:=d - 2) (by omega) (by omega)]
      exact bKt hc env hv (by omega) [t] (by simp) (fun c ty env' he hel k=>ih _ c ty env' (by omega) (by omega) (by omega) he (by omega) k) c k
    have J1:∀ (y1 y3:Int×aL),okCur y3.2→Yes (aCj env d y1 cat y3) (FZ (60+11 * Zb n)):=fun y1 y3 k=>by
      rw [aCj]
      exact Yes.bind (jR _ _ k) fun r ⟨_,_,k⟩=>Yes.bind (K 2 _ _ (by omega) k) fun r2 ⟨hk,k⟩=>Yes.some ⟨yI hk,k⟩
    have J0:∀ (y1:Int×aL) (y2:Bool×aL) (y3:Int×aL) x,okCur y3.2→Yes (aDb env d y1 y2 y3 cat x) (FZ (60+11 * Zb n)):=fun y1 y2 y3 x k=>by
      rw [aDb]
      refine Yes.ite (fun _=>?_) fun _=>Yes.ite (fun _=>?_) fun _=>Yes.ite (fun _=>?_) fun _=>Yes.ite (fun _=>?_) fun _=>Yes.ite (fun _=>?_) fun _=>Yes.ite (fun _=>?_) fun _=>Yes.ite (fun _=>?_) fun _=>J1 _ _ k
      · exact Yes.bind (jR _ _ k) fun r ⟨_,_,k⟩=>Yes.bind (K 2 _ _ (by omega) k) fun r2 ⟨hk,k⟩=>Yes.some ⟨yI hk,k⟩
      · exact Yes.bind (K 1 _ _ (by omega) k) fun r2 ⟨hk,k⟩=>Yes.some ⟨yI hk,k⟩
      · exact Yes.bind (K 1 _ _ (by omega) k) fun r2 ⟨hk,k⟩=>Yes.some ⟨yI hk,k⟩
      · exact Yes.bind (K 3 _ _ (by omega) k) fun r2 ⟨hk,k⟩=>Yes.some ⟨yI hk,k⟩
      · refine Yes.bind (jR _ _ k) fun r ⟨r0,r1,k⟩=>?_
        have:=r1 (by decide)
        exact Yes.bind (K _ _ _ (by rw [dX (by omega) (by omega)]; omega) k) fun r2 ⟨hk,k⟩=>Yes.some ⟨yI hk,k⟩
      · refine Yes.ite (fun h2=>?_) fun _=>J1 _ _ k
        exact Yes.bind (K1 _ _ k) fun r2 ⟨hk,k⟩=>Yes.bind (P2 _ _ (by simpa using h2) k) fun r3 ⟨hp,k⟩=>Yes.some ⟨bGa hk hp,k⟩
      · refine Yes.ite (fun h2=>?_) fun _=>J1 _ _ k
        exact Yes.bind (P2 _ _ (by simpa using h2) k) fun r3 ⟨hp,k⟩=>Yes.some ⟨bGa ⟨by simp,by simp⟩ hp,k⟩
    refine Yes.ite (fun _=>?_) fun _=>Yes.ite (fun _=>?_) fun _=>?_
    · refine Yes.bind (jZ _ _ k) fun r k=>Yes.ite (fun _=>?_) fun _=>?_
      · exact Yes.bind (K 1 _ _ (by omega) k) fun r2 ⟨hk,k⟩=>Yes.some ⟨yI hk,k⟩
      · exact Yes.bind (jR _ _ k) fun r ⟨_,_,k⟩=>Yes.bind (K 2 _ _ (by omega) k) fun r2 ⟨hk,k⟩=>Yes.some ⟨yI hk,k⟩
    · exact Yes.bind (K 2 _ _ (by omega) k) fun r2 ⟨hk,k⟩=>Yes.some ⟨yI hk,k⟩
    · refine Yes.bind (Q:=FZ (60+11 * Zb n)) ?_ fun r hr=>Yes.some hr
      rw [aPt]
      exact Yes.bind (jR _ _ k) fun y1 ⟨_,_,k⟩=>Yes.bind (jZ _ _ k) fun y2 k=>Yes.bind (jR _ _ k) fun y3 ⟨_,_,k⟩=>Yes.ite (fun _=>J0 _ _ _ _ k) fun _=>J0 _ _ _ _ k
def CR (c:aQ):Prop:=(1≤c.tables.length∧c.tables.length≤3)∧∀ t∈c.tables,(1≤t.cols.length∧t.cols.length≤3)∧∀ x∈rD t,okT x
theorem CR.cat {c:aQ} (h:CR c):qE c:=⟨by have:=h.1; omega,fun t ht=>⟨by have:=(h.2 t ht).1; omega,(h.2 t ht).2⟩⟩
def okCR (r:aQ×aL):Prop:=CR r.1∧okCur r.2
theorem bLj (n s:List UInt8):xL ⟨n,[]⟩ s=some (-1):=by unfold xL; rw [yY]; simp
theorem bHi {i:Nat} (h:i≤1000):QC .i64 ((i:Int)+1)=((i+1:Nat):Int):=by rw [dX (by omega) (by omega)]; omega
theorem bWo (y1:Int×aL) (h0:0≤y1.1) (h3:y1.1<3):∀ (k i:Nat) b j h (T:List eD),3≤k+i→i≤3→T.length=i→(∀ t∈T,(1≤t.cols.length∧t.cols.length≤3)∧∀ x∈rD t,okT x)→okCur ⟨b,j,h⟩→Yes (M7 y1 i T b j h) okCR:=by
  intro k
  induction k with
  | zero =>
    intro i b j h T h1 h2 hT hC hc
    rw [M7,if_neg (by rw [decide_eq_true_eq,dX (by omega) (by omega)]; omega)]
    exact Yes.some ⟨⟨⟨by dsimp only; omega,by dsimp only; omega⟩,hC⟩,hc⟩
  | succ k ih =>
    intro i b j h T h1 h2 hT hC hc
    rw [M7]
    by_cases hi:(i:Int)<QC .i64 (1+y1.1)
    case neg =>
      rw [if_neg (by rw [decide_eq_true_eq]; exact hi)]
      rw [dX (by omega) (by omega)] at hi
      exact Yes.some ⟨⟨⟨by dsimp only; omega,by dsimp only; omega⟩,hC⟩,hc⟩
    rw [if_pos (decide_eq_true hi)]
    rw [dX (by omega) (by omega)] at hi
    have hi3:i<([[116],[117],[118]]:List (List UInt8)).length:=by show i<3; omega
    rw [bM hi3]
    simp only [QB,QA]
    refine Yes.bind (jR _ _ hc) fun y3 ⟨k0,k1,hc3⟩=>?_
    have k1:=k1 (by omega)
    generalize ([[116],[117],[118]]:List (List UInt8))[i]=y2
    have fin:∀ b j h (C:List gD),(1≤C.length∧C.length≤3)→(∀ x∈C.map gD.type,okT x)→okCur ⟨b,j,h⟩→Yes (appG 40 T ([(eD.mk y2 C)]:List eD)>>=fun y14=>M7 y1 (QC .i64 ((i:Int)+1)) y14 b j h) okCR:=by
      intro b j h C hl ht hc
      refine Yes.bind (lJ (by simp; omega)) fun y e=>?_
      subst e
      rw [bHi (by omega)]
      exact ih (i+1) _ _ _ _ (by omega) (by omega) (by simp; omega) (uA hC ⟨hl,ht⟩) hc
    have inner:∀ (m x:Nat) b j h (C:List gD),3≤m+x→x≤3→C.length≤x→(1≤x→1≤C.length)→(∀ x∈C.map gD.type,okT x)→okCur ⟨b,j,h⟩→Yes (aCc y1 i y3 T y2 x (C,b,j,h)) okCR:=by
      intro m
      induction m with
      | zero =>
        intro x b j h C m1 m2 hl hl1 ht hc
        rw [aCc,if_neg (by rw [decide_eq_true_eq,dX (by omega) (by omega)]; omega)]
        exact fin b j h C ⟨hl1 (by omega),by omega⟩ ht hc
      | succ m ihm =>
        intro x b j h C m1 m2 hl hl1 ht hc
        rw [aCc]
        by_cases hx:(x:Int)<QC .i64 (1+y3.1)
        case neg =>
          rw [if_neg (by rw [decide_eq_true_eq]; exact hx)]
          rw [dX (by omega) (by omega)] at hx
          exact fin b j h C ⟨hl1 (by omega),by omega⟩ ht hc
        rw [if_pos (decide_eq_true hx)]
        rw [dX (by omega) (by omega)] at hx
        have J3:∀ b j h (C:List gD),C.length≤x+1→1≤C.length→(∀ x∈C.map gD.type,okT x)→okCur ⟨b,j,h⟩→Yes (aCb y1 i y3 x T y2 (b,j,h,C)) okCR:=by
          intro b j h C hl hl1 ht hc
          rw [aCb,bHi (by omega)]
          exact ihm (x+1) _ _ _ _ (by omega) (by omega) hl (fun _=>hl1) ht hc
        have J2:∀ (y8:Int×aL) (nm:List UInt8) b j h,okT y8.1→okCur ⟨b,j,h⟩→Yes (aEt y1 i y3 x T y2 C (y8,nm,b,j,h)) okCR:=by
          intro y8 nm b j h h8 hc
          rw [aEt]
          obtain ⟨_,r,hr⟩:=aXp ⟨y2,C⟩ nm (by dsimp only; omega)
          rw [hr]
          simp only [QB,QA]
          refine Yes.ite (fun _=>?_) fun hn=>?_
          · refine Yes.bind (lJ (by simp; omega)) fun y e=>?_
            subst e
            refine J3 _ _ _ _ (by simp; omega) (by simp) ?_ hc
            rw [XD]
            exact uA ht h8
          · refine J3 _ _ _ _ (by omega) ?_ ht hc
            cases C with
            | cons _ _=>simp
            | nil =>
              rw [bLj] at hr
              simp only [QH] at hr
              subst hr
              simp at hn
        refine Yes.bind (bV7 _ _ (by decide) hc) fun y7 hc=>?_
        obtain ⟨v,c',e,hv,hc⟩:=aV1 y7.2 [1,1,2,3] (by decide) hc
        have h8:okT v:=by
          have:∀ v∈([1,1,2,3]:List Int),0≤v∧v≤3:=by decide
          exact this v hv
        rw [e]
        simp only [QB,QA]
        refine Yes.bind (jZ _ _ hc) fun y9 hc=>?_
        refine Yes.ite (fun _=>?_) fun _=>J2 _ _ _ _ _ h8 hc
        exact Yes.bind (bZf _ hc) fun y10 ⟨_,hc⟩=>J2 _ _ _ _ _ h8 hc
    exact inner 3 0 _ _ _ _ (by omega) (by omega) (by simp) (by omega) (by simp) hc3
theorem bJd (c:aL) (h:okCur c):Yes (aH5 c) okCR:=by
  unfold aH5
  refine Yes.bind (jR _ _ h) fun y1 ⟨k0,k1,hc⟩=>?_
  exact bWo y1 k0 (k1 (by omega)) 3 0 _ _ _ _ (by omega) (by omega) rfl (by simp) hc
theorem aCa (b:Bool):oO b=qQ b:=by
  cases b <;> rfl
theorem wS (b:Bool):qQ b=some ⟨3,if b then 1 else 0,[]⟩:=by
  cases b <;> rfl
theorem aNc (x:aA):qI x=kW x:=by
  unfold qI kW fI
  simp only [QB,QA]
  split
  · rfl
  split
  · rfl
  split
  · rfl
  split
  · congr 1
    have:(if (decide (x.num=0))=true then true else (decide (x.num=1)))=(if (decide (0≤x.num))=true then (decide (x.num≤1)) else false):=by
      simp only [decide_eq_true_eq,Bool.if_true_left,Bool.if_false_right,Bool.decide_eq_true]
      by_cases h0:x.num=0
      · simp [h0]
      · by_cases h1:x.num=1
        · simp [h1]
        · simp [h0,h1]; omega
    rw [this]
  · rfl
theorem bVk (a b c:Int):aJc [a,b,c]=some (if a≠0 then a else if b≠0 then b else c):=by
  have w1:QC .i64 (0+1)=1:=by decide
  have w2:QC .i64 (1+1)=2:=by decide
  have w3:QC .i64 (2+1)=3:=by decide
  unfold aJc
  rw [zB]
  rw [w1,zB]
  rw [w2,zB]
  rw [w3,zB]
  simp only [idx]
  by_cases ha:a=0 <;> by_cases hb:b=0 <;> by_cases hc:c=0 <;> simp [ha,hb,hc]
theorem bTr (a b:Int):aF3 a b=some (if a<b then -1 else if b<a then 1 else 0):=by
  unfold aF3 aHf
  simp only [QB,QA,decide_true,QF,QD,if_false,decide_eq_true_eq]
  split
  · rfl
  · split <;> rfl
theorem bVp (a b:List UInt8):aJy a b=some (if Op.bytesLess a b=true then -1 else if (!(Op.bytesLess a b||decide (a=b)))=true then 1 else 0):=by
  unfold aJy aGl
  simp only [QB,QA,decide_true,QF,QD,if_false]
  split
  · rfl
  · split <;> rfl
theorem aXn (x y:aA):aEa x y=vM x y:=by
  unfold aEa vM
  simp only [QB,bTr,bVp,bVk,QA,decide_eq_true_eq]
  by_cases h1:x.kind<y.kind
  · simp [h1]
  by_cases h2:y.kind<x.kind
  · simp [h1,h2]
  by_cases h3:x.num<y.num
  · simp [h1,h2,h3]
  by_cases h4:y.num<x.num
  · simp [h1,h2,h3,h4]
  simp only [h1,h2,h3,h4,if_false,ne_eq,not_true_eq_false]
  split
  · rfl
  · split <;> rfl
theorem bZ2 (k:Int) (hk:k≤8) (x:aA):L9 k x=some true:=by
  unfold L9
  simp [hk]
theorem aFb (x:aA):vT x=some (decide (x.kind=0)):=rfl
theorem aS5 (x:aA) (k:Int):vF x k=some (decide (x.kind=k)||decide (x.kind=0)):=by
  unfold vF
  simp only [aFb]
  by_cases h:x.kind=k <;> simp [h]
theorem aTi (x:aA):∃ b,kW x=some b:=by
  rw [← aNc]
  unfold qI
  repeat (split; exact ⟨_,rfl⟩)
  exact ⟨_,rfl⟩
theorem bHe (x y:aA):∃ b,vM x y=some b:=by
  unfold vM
  repeat (split; exact ⟨_,rfl⟩)
  exact ⟨_,rfl⟩
def gvE (x u:aA):Bool:=(decide (x.kind=u.kind))&&((decide (x.num=u.num))&&((decide (x.text=u.text))&&true))
theorem bDq (x u:aA):((decide (x.kind=u.kind))&&((decide (x.num=u.num))&&((decide (x.text=u.text))&&true)))=gvE x u:=by rw [gvE]
def F4 (k:Int) (x y:aA):aA×Int :=
  if (x.kind=3∨x.kind=0)∧(y.kind=3∨y.kind=0) then
    if gvE x ⟨3,if decide (k=1) then 1 else 0,[]⟩||gvE y ⟨3,if decide (k=1) then 1 else 0,[]⟩ then (⟨3,if decide (k=1) then 1 else 0,[]⟩,0) else if x.kind=0∨y.kind=0 then (⟨0,0,[]⟩,0) else (⟨3,if decide (k=2) then 1 else 0,[]⟩,0)
  else (⟨0,0,[]⟩,1)
theorem bDm (k:Int) (x y:aA):aHa k x y=some (F4 k x y):=by
  unfold aHa F4
  simp only [aS5,aFb,wS,QB,QA,bDq]
  have n1:∀ u,gvE x u=false∨gvE x u=true:=fun u=>by cases gvE x u <;> simp
  have n2:∀ u,gvE y u=false∨gvE y u=true:=fun u=>by cases gvE y u <;> simp
  rcases n1 ⟨3,if decide (k=1)=true then 1 else 0,[]⟩ with e1 | e1 <;> rcases n2 ⟨3,if decide (k=1)=true then 1 else 0,[]⟩ with e2 | e2 <;> rw [e1,e2] <;> clear n1 n2 e1 e2
  all_goals
    by_cases a:x.kind=3 <;> by_cases b:x.kind=0 <;> by_cases c:y.kind=3 <;> by_cases d:y.kind=0 <;> simp_all
theorem bFx (k:Int) (x y:aA):aHr k x y=some (F4 k x y):=by
  have w1:QC .i64 (0+1)=1:=by decide
  have w2:QC .i64 (1+1)=2:=by decide
  unfold aHr F4
  rw [J9,w1,J9,w2,J9]
  simp only [aCa,wS,QB,QA,bDq,idx]
  have n1:∀ u,gvE x u=false∨gvE x u=true:=fun u=>by cases gvE x u <;> simp
  have n2:∀ u,gvE y u=false∨gvE y u=true:=fun u=>by cases gvE y u <;> simp
  rcases n1 ⟨3,if decide (k=1)=true then 1 else 0,[]⟩ with e1 | e1 <;> rcases n2 ⟨3,if decide (k=1)=true then 1 else 0,[]⟩ with e2 | e2 <;> rw [e1,e2] <;> clear n1 n2 e1 e2
  all_goals
    by_cases a:x.kind=3 <;> by_cases b:x.kind=0 <;> by_cases c:y.kind=3 <;> by_cases d:y.kind=0 <;> simp_all
def aHm (k o:Int):Bool:=if k=3 then decide (o=0) else if k=6 then decide (o≤0) else decide (0≤o)
theorem bJx (k:Int) (hk:k=3∨k=6∨k=8) (x y:aA) (o:Int) (ho:vM x y=some o):aBa k x y=some ⟨3,if aHm k o then 1 else 0,[]⟩:=by
  unfold aBa
  rw [aXn,ho]
  rcases hk with rfl | rfl | rfl <;> simp [aCa,wS,aHm]
theorem bX4 (k:Int) (hk:k=3∨k=6∨k=8) (o:Int):aCw k o=some (aHm k o):=by
  unfold aCw
  rcases hk with rfl | rfl | rfl <;> simp [aHm]
def tri (v:aA):Prop:=v=⟨0,0,[]⟩∨v=⟨3,0,[]⟩∨v=⟨3,1,[]⟩
theorem aIf (b:Bool):tri ⟨3,if b then 1 else 0,[]⟩:=by cases b <;> simp [tri]
theorem bT7 (k:Int) (hk:k=3∨k=6∨k=8) (x y:aA):∃ r,qR k x y=some r∧rU k x y=some r∧(r.2=0→tri r.1):=by
  obtain ⟨a,ha⟩:=aTi x
  obtain ⟨b,hb⟩:=aTi y
  obtain ⟨o,ho⟩:=bHe x y
  have hk8:k≤8:=by omega
  have h1:¬ k<1:=by omega
  have h14:¬ 14<k:=by omega
  have h2:¬ k≤2:=by omega
  have h9:k≠9:=by omega
  have h10:k≠10:=by omega
  have h11:k≠11:=by omega
  have h12:k≠12:=by omega
  have h13:k≠13:=by omega
  have h14':k≠14:=by omega
  have h10':¬ 10≤k:=by omega
  have g1:1≤k:=by omega
  have g14:k≤14:=by omega
  unfold qR rU aF4 fI aFd
  simp only [aNc,ha,hb,ho,aFb,bZ2 k hk8,bJx k hk x y o ho,bX4 k hk,wS,QB,QA,h1,h14,h2,h9,h10,h11,h12,h13,h14',h10',g1,g14,hk8]
  have hb:=aIf (aHm k o)
  have ht:tri ⟨0,0,[]⟩:=.inl rfl
  by_cases e:x.kind=y.kind <;> by_cases c:x.kind=0 <;> by_cases d:y.kind=0 <;> cases a <;> cases b <;> simp_all
theorem bCq {x:aA} (h:tri x):kW x=some true:=by rcases h with rfl | rfl | rfl <;> decide
theorem bQx (x y:aA) (hx:tri x) (hy:tri y):∃ r,qR 1 x y=some r∧rU 1 x y=some r∧r.2=0∧tri r.1:=by
  unfold qR rU fI
  simp only [aNc,bCq hx,bCq hy,bDm,bFx,QB,QA]
  refine ⟨F4 1 x y,by simp,by simp,?_⟩
  rcases hx with rfl | rfl | rfl <;> rcases hy with rfl | rfl | rfl <;> simp [F4,gvE,tri]
abbrev i0:Int := -9223372036854775808
abbrev i1:Int:=9223372036854775807
def v0:aA:=⟨0,0,[]⟩
def vBl (b:Bool):aA:=⟨3,if b then 1 else 0,[]⟩
theorem bIv (m:Int):∃ k:Int,QC .i64 m=m - k * 18446744073709551616∧i0≤QC .i64 m∧QC .i64 m≤i1:=by
  rw [YA]
  exact ⟨(m+9223372036854775808) / 18446744073709551616,by omega,by simp only [i0]; omega,by simp only [i1]; omega⟩
theorem bGh {a b:Int} (hb:2≤b∨b ≤ -2) (ha:okI a) : -4611686018427387904≤a.tdiv b∧a.tdiv b≤4611686018427387904:=by
  have h:(a.tdiv b).natAbs=a.natAbs / b.natAbs:=Int.natAbs_tdiv a b
  have h2:a.natAbs / b.natAbs≤a.natAbs / 2:=Nat.div_le_div_left (by omega) (by omega)
  have h3:=ha.1
  have h4:=ha.2
  omega
theorem bAk {a b:Int} (ha:okI a) (hb:okI b) (h0:b≠0):(QC .i64 ((QC .i64 (a * b)).tdiv b)=a∧¬ (b = -1∧a=i0))↔okI (a * b):=by
  have a1:=ha.1
  have a2:=ha.2
  have b1:=hb.1
  have b2:=hb.2
  constructor
  · rintro ⟨h,hn⟩
    obtain ⟨k,hk,k1,k2⟩:=bIv (a * b)
    by_cases h2:2≤b∨b ≤ -2
    · have hs:=bGh h2 (a:=QC .i64 (a * b)) ⟨k1,k2⟩
      rw [dX (by omega) (by omega)] at h
      have e:=Int.mul_tdiv_add_tmod (QC .i64 (a * b)) b
      rw [h,XS b a] at e
      have l1:=XT (QC .i64 (a * b)) b
      have l2:(QC .i64 (a * b)).natAbs % b.natAbs<b.natAbs:=Nat.mod_lt _ (by omega)
      have:k=0:=by omega
      subst this
      have e3:a * b=QC .i64 (a * b):=by omega
      rw [e3]; exact ⟨k1,k2⟩
    · have:b=1∨b = -1:=by omega
      rcases this with rfl | rfl
      · rw [Int.mul_one]; exact ha
      · have:a≠i0:=fun e=>hn ⟨rfl,e⟩
        simp only [i0] at this
        constructor <;> omega
  · intro hm
    rw [dX hm.1 hm.2,Int.mul_tdiv_cancel _ h0,dX ha.1 ha.2]
    refine ⟨rfl,?_⟩
    rintro ⟨rfl,rfl⟩
    have:=hm.2
    simp only [i0] at this
    omega
theorem okI_w {m:Int}:okI (QC .i64 m):=by obtain ⟨_,_,h⟩:=bIv m; exact h
def oQ (n:Int):Int×Bool:=if okI n then (n,true) else (0,false)
theorem addN {a b:Int} (ha:okI a) (hb:okI b):aDu a b=some (oQ (a+b)):=by
  have a1:=ha.1
  have a2:=ha.2
  have b1:=hb.1
  have b2:=hb.2
  unfold aDu oQ
  simp only [QB,QA,orB,uK,decide_eq_true_eq]
  by_cases h0:0<b
  · have e:¬ b<0:=by omega
    rw [dX (n:=9223372036854775807 - b) (by omega) (by omega)]
    by_cases h1:9223372036854775807 - b<a
    · rw [if_neg (fun h:okI _=>by have:=h.2; omega)]; simp [h0,h1]
    · rw [if_pos (show okI (a+b) from ⟨by omega,by omega⟩),dX (n:=a+b) (by omega) (by omega)]; simp [h0,h1,e]
  · by_cases h2:b<0
    · rw [dX (n := -9223372036854775808 - b) (by omega) (by omega)]
      by_cases h1:a < -9223372036854775808 - b
      · rw [if_neg (fun h:okI _=>by have:=h.1; omega)]; simp [h0,h1,h2]
      · rw [if_pos (show okI (a+b) from ⟨by omega,by omega⟩),dX (n:=a+b) (by omega) (by omega)]; simp [h0,h1,h2]
    · rw [if_pos (show okI (a+b) from ⟨by omega,by omega⟩),dX (n:=a+b) (by omega) (by omega)]; simp [h0,h2]
theorem aOs {a b:Int} (ha:okI a) (hb:okI b):aEz a b=some (oQ (a - b)):=by
  have a1:=ha.1
  have a2:=ha.2
  have b1:=hb.1
  have b2:=hb.2
  unfold aEz oQ
  simp only [QB,QA,orB,uK,decide_eq_true_eq]
  by_cases h0:b<0
  · have e:¬ 0<b:=by omega
    rw [dX (n:=9223372036854775807+b) (by omega) (by omega)]
    by_cases h1:9223372036854775807+b<a
    · rw [if_neg (fun h:okI _=>by have:=h.2; omega)]; simp [h0,h1]
    · rw [if_pos (show okI (a - b) from ⟨by omega,by omega⟩),dX (n:=a - b) (by omega) (by omega)]; simp [h0,h1,e]
  · by_cases h2:0<b
    · rw [dX (n := -9223372036854775808+b) (by omega) (by omega)]
      by_cases h1:a < -9223372036854775808+b
      · rw [if_neg (fun h:okI _=>by have:=h.1; omega)]; simp [h0,h1,h2]
      · rw [if_pos (show okI (a - b) from ⟨by omega,by omega⟩),dX (n:=a - b) (by omega) (by omega)]; simp [h0,h1,h2]
    · rw [if_pos (show okI (a - b) from ⟨by omega,by omega⟩),dX (n:=a - b) (by omega) (by omega)]; simp [h0,h2]
theorem cD1 (a b:Int):aP6 a b=aDu a b:=rfl
theorem aUr (a b:Int):aFx a b=aEz a b:=rfl
theorem bQa {a b:Int} (ha:okI a) (hb:okI b):aGw a b=some (oQ (a * b)):=by
  unfold aGw oQ wX
  by_cases h0:a=0
  · subst h0
    have o:okI 0:=⟨by decide,by decide⟩
    simp [o]; decide
  · have k:=bAk hb ha h0
    rw [XS b a] at k
    have g:QC .i64 ((QC .i64 (a * b)).tdiv a)=b∨¬ QC .i64 ((QC .i64 (a * b)).tdiv a)=b:=Classical.em _
    have w:okI (a * b)→QC .i64 (a * b)=a * b:=fun h=>dX h.1 h.2
    generalize QC .i64 ((QC .i64 (a * b)).tdiv a)=q at k g
    by_cases m1:a = -1 <;> by_cases m2:b = -9223372036854775808 <;> rcases g with g | g <;> by_cases o:okI (a * b) <;> simp_all [i0]
theorem bKk {a b:Int} (ha:okI a) (hb:okI b):aIm a b=some (oQ (a * b)):=by
  unfold aIm oQ wX
  by_cases h0:a=0
  · subst h0
    have o:okI 0:=⟨by decide,by decide⟩
    simp [o]
  by_cases h1:b=0
  · subst h1
    have o:okI 0:=⟨by decide,by decide⟩
    simp [o]
  have k:=bAk ha hb h1
  have g:QC .i64 ((QC .i64 (a * b)).tdiv b)=a∨¬ QC .i64 ((QC .i64 (a * b)).tdiv b)=a:=Classical.em _
  have w:okI (a * b)→QC .i64 (a * b)=a * b:=fun h=>dX h.1 h.2
  have z:a = -1→b = -9223372036854775808→¬ okI (a * b):=by rintro rfl rfl h; have:=h.2; omega
  generalize QC .i64 ((QC .i64 (a * b)).tdiv b)=q at k g
  by_cases m1:a = -1 <;> by_cases m2:b = -9223372036854775808 <;> by_cases m3:b = -1 <;> by_cases m4:a = -9223372036854775808 <;> rcases g with g | g <;> by_cases o:okI (a * b) <;> simp_all [i0]
def yO (r:Int×Bool):aA×Int:=if r.2=true then (⟨1,r.1,[]⟩,0) else (⟨0,0,[]⟩,2)
def arP (op a b:Int):aA×Int :=
  if op=10 then yO (oQ (a+b)) else if op=11 then yO (oQ (a - b)) else if op=12 then yO (oQ (a * b)) else
    if b=0 then (⟨0,0,[]⟩,3) else if op=14 then (⟨1,a.tmod b,[]⟩,0) else if a = -9223372036854775808∧b = -1 then (⟨0,0,[]⟩,2) else (⟨1,a.tdiv b,[]⟩,0)
theorem aQ9 {a b:Int} (ha:okI a) (hb:b≠0) (h:¬ (a = -9223372036854775808∧b = -1)):okI (a.tdiv b):=by
  have a1:=ha.1
  have a2:=ha.2
  by_cases h2:2≤b∨b ≤ -2
  · have:=bGh h2 ha
    exact ⟨by omega,by omega⟩
  · have:b=1∨b = -1:=by omega
    rcases this with rfl | rfl
    · rw [XH]; exact ha
    · rw [XU,XH]
      have:a ≠ -9223372036854775808:=fun e=>h ⟨e,rfl⟩
      exact ⟨by omega,by omega⟩
theorem arI {op a b:Int} (ha:okI a) (hb:okI b):aDr op a b=some (arP op a b):=by
  unfold aDr arP aDj
  simp only [addN ha hb,aOs ha hb,bQa ha hb,QB,QA,decide_eq_true_eq]
  have n:∀ r:Int×Bool,(if (!r.2)=true then some ((⟨0,0,[]⟩:aA),(2:Int)) else (I5 r.1).bind fun y5=>some (y5,0))=some (yO r):=by
    rintro ⟨r,b⟩
    cases b <;> simp [yO,I5]
  by_cases h1:op=10
  · rw [if_pos h1,if_pos h1,n]
  by_cases h2:op=11
  · rw [if_neg h1,if_pos h2,if_neg h1,if_pos h2,n]
  by_cases h3:op=12
  · rw [if_neg h1,if_neg h2,if_pos h3,if_neg h1,if_neg h2,if_pos h3,n]
  rw [if_neg h1,if_neg h2,if_neg h3,if_neg h1,if_neg h2,if_neg h3]
  unfold aM9 wX xV I5
  by_cases b0:b=0
  · simp [b0]
  by_cases h4:op=14
  · simp [b0,h4]
  by_cases h5:a = -9223372036854775808∧b = -1
  · obtain ⟨rfl,rfl⟩:=h5
    simp [h4]
  · have w:=aQ9 ha b0 h5
    rw [dX w.1 w.2]
    by_cases h6:a = -9223372036854775808
    · have:b ≠ -1:=fun e=>h5 ⟨h6,e⟩
      simp [b0,h4,h6,this]
    · simp [b0,h4,h6]
theorem bGg {op a b:Int} (ho:op=13∨op=14) (ha:okI a) (hb:okI b):aIz op a b=some (arP op a b):=by
  have h1:¬ op=10:=by omega
  have h2:¬ op=11:=by omega
  have h3:¬ op=12:=by omega
  unfold arP aIz
  rw [if_neg h1,if_neg h2,if_neg h3]
  unfold wX xV
  rw [aUr,aOs ⟨by decide,by decide⟩ ha]
  unfold D5 wI
  by_cases b0:b=0
  · simp [b0]
  by_cases b1:b = -1
  · subst b1
    by_cases h4:op=14
    · have:a.tmod (-1)=0:=by rw [Int.tmod_neg,Int.tmod_one]
      simp [h4,this]
    · have e:a.tdiv (-1)=0 - a:=by rw [XU,XH]; omega
      rw [e]
      have h13:op=13:=by omega
      have a1:=ha.1
      have a2:=ha.2
      by_cases h5:a = -9223372036854775808
      · subst h5
        have t2:oQ (0 - -9223372036854775808)=(0,false):=by decide
        simp only [t2]
        simp [h4]
      · have:okI (0 - a):=⟨by omega,by omega⟩
        have t2:oQ (0 - a)=(0 - a,true):=if_pos this
        simp only [t2]
        simp [h4,h5]
  · have h5:¬ (a = -9223372036854775808∧b = -1):=fun h=>b1 h.2
    have w:=aQ9 ha b0 h5
    rw [dX w.1 w.2]
    rcases ho with rfl | rfl <;> simp [b0,b1]
def rO (x:aA):Bool:=(kW x).getD false
theorem aIy (x:aA):kW x=some (rO x):=by
  obtain ⟨b,hb⟩:=aTi x
  unfold rO; rw [hb]; rfl
theorem bHj (x:aA):qI x=some (rO x):=by rw [aNc,aIy]
theorem aNq {x:aA} (h:rO x=true):x.text.length≤200:=by
  have h2:=aIy x
  rw [h] at h2
  unfold kW at h2
  simp only [QB,QA,uK] at h2
  split at h2
  · simp only [QH,QK,decide_eq_true_eq] at h2; rw [h2.2]; simp
  · split at h2
    · simp only [QH,decide_eq_true_eq] at h2; rw [h2]; simp
    · split at h2
      · simp only [QH,QK,decide_eq_true_eq] at h2; omega
      · split at h2
        · obtain ⟨y,_,hy⟩:=Option.bind_eq_some_iff.1 h2
          simp only [QH,QK,decide_eq_true_eq] at hy
          rw [hy.2]; simp
        · simp at h2
def tQ (x y:aA):Int:=(vM x y).getD 0
theorem aI5 (x y:aA):vM x y=some (tQ x y):=by
  obtain ⟨b,hb⟩:=bHe x y
  unfold tQ; rw [hb]; rfl
def aJp (k o:Int):Bool:=if k=3 then decide (o=0) else if k=4 then !decide (o=0) else if k=5 then decide (o<0) else if k=6 then decide (o≤0) else if k=7 then decide (0<o) else decide (0≤o)
theorem bX9 (k:Int) (x y:aA):aBa k x y=some (vBl (aJp k (tQ x y))):=by
  unfold aBa aJp vBl
  rw [aXn,aI5]
  simp only [aCa,wS,QB,QA,decide_eq_true_eq]
  by_cases h3:k=3
  · simp [h3]
  by_cases h4:k=4
  · simp [h4]
  by_cases h5:k=5
  · simp [h5]
  by_cases h6:k=6
  · simp [h6]
  by_cases h7:k=7
  · simp [h7]
  simp [h3,h4,h5,h6,h7]
theorem cAh (k o:Int):aCw k o=some (aJp k o):=by
  unfold aCw aJp
  simp only [decide_eq_true_eq]
  by_cases h3:k=3
  · simp [h3]
  by_cases h4:k=4
  · simp [h4]
  by_cases h5:k=5
  · simp [h5]
  by_cases h6:k=6
  · simp [h6]
  by_cases h7:k=7
  · simp [h7]
  simp [h3,h4,h5,h6,h7]
def vY (op:Int) (x:aA):Bool:=decide (x.kind=0)||decide (op≤8)||(if op=9 then decide (x.kind=2) else decide (x.kind=1))
theorem bJy (op:Int) (x:aA):L9 op x=some (vY op x):=by
  unfold L9 vY
  simp only [orB,QB,QA,decide_eq_true_eq]
  by_cases h1:x.kind=0
  · simp [h1]
  by_cases h2:op≤8
  · simp [h2]
  by_cases h3:op=9 <;> simp [h1,h2,h3]
def jF (op:Int) (x y:aA):aA×Int :=
  if (decide (op<1)||decide (14<op)||!rO x||!rO y)=true then (⟨0,0,[]⟩,1)
  else if op≤2 then F4 op x y
  else if (vY op x&&vY op y&&(decide (8<op)||decide (x.kind=0)||decide (y.kind=0)||decide (x.kind=y.kind)))=false then (⟨0,0,[]⟩,1)
  else if (decide (x.kind=0)||decide (y.kind=0))=true then (⟨0,0,[]⟩,0)
  else if op≤8 then (vBl (aJp op (tQ x y)),0)
  else if op=9 then (if 200<x.text.length+y.text.length then (⟨0,0,[]⟩,2) else (⟨2,0,x.text++y.text⟩,0))
  else arP op x.num y.num
theorem aOf {a b:List UInt8} (h:a.length+b.length≤1000):aA9 a b=some (a++b):=by
  unfold aA9; rw [if_pos (by simp only [maxLen]; omega)]
theorem aFm {op:Int} {x y:aA} (hx:okI x.num) (hy:okI y.num):rU op x y=some (jF op x y):=by
  unfold rU jF
  simp only [bHj,bJy,orB,QB,QA,decide_eq_true_eq]
  by_cases h1:op<1
  · simp [h1]
  by_cases h2:14<op
  · simp [h2]
  rcases hvx:rO x with _ | _
  · simp [h1,h2]
  rcases hvy:rO y with _ | _
  · simp [h1,h2]
  by_cases h3:op≤2
  · simp [h1,h2,h3,bFx]
  have tx:=aNq hvx
  have ty:=aNq hvy
  simp only [h1,h2,h3,decide_false,QX,QF,QT,QM,beq_self_eq_true,if_true,if_false,QA,QD,bX9,arI hx hy]
  rcases vY op x with _ | _
  · simp
  rcases vY op y with _ | _
  · simp
  by_cases h4:op≤8
  · have h4':¬ 8<op:=by omega
    by_cases k1:x.kind=0
    · simp [h4,h4',k1]
    by_cases k2:y.kind=0
    · simp [h4,h4',k1,k2]
    by_cases k3:x.kind=y.kind <;> simp [h4,h4',k1,k2,k3]
  · have h4':8<op:=by omega
    by_cases k1:x.kind=0
    · simp [h4,h4',k1]
    by_cases k2:y.kind=0
    · simp [h4,h4',k1,k2]
    by_cases h9:op=9
    · subst h9
      rw [dX (n:=(x.text.length:Int)+y.text.length) (by omega) (by omega),aOf (by omega)]
      by_cases hl:200<x.text.length+y.text.length
      · have:(200:Int)<(x.text.length:Int)+(y.text.length:Int):=by omega
        simp [k1,k2,hl,this]
      · have:¬ (200:Int)<(x.text.length:Int)+(y.text.length:Int):=by omega
        simp [k1,k2,hl,this,aMf]
    · simp [h4,h4',k1,k2,h9]
theorem aMb (a b c:Int):fI a b c=some (decide (b≤a)&&decide (a≤c)):=by
  unfold fI
  by_cases h:b≤a <;> simp [h]
theorem cAl (op:Int) (x y:aA) (h:2<op) (h14:op≤14):aFd op x y=some (vY op x&&vY op y&&(decide (8<op)||decide (x.kind=0)||decide (y.kind=0)||decide (x.kind=y.kind))):=by
  unfold aFd vY
  simp only [aS5,aFb,QB,QA,orB,uK,decide_eq_true_eq]
  by_cases h9:op=9
  · subst h9
    rcases decide (x.kind=2) with _ | _ <;> rcases decide (x.kind=0) with _ | _ <;> rcases decide (y.kind=2) with _ | _ <;> rcases decide (y.kind=0) with _ | _ <;> rfl
  by_cases h10:10≤op
  · have e1:¬ op≤8:=by omega
    have e2:8<op:=by omega
    simp only [h9,h10,e1,e2,if_true,if_false,decide_true,decide_false]
    rcases decide (x.kind=1) with _ | _ <;> rcases decide (x.kind=0) with _ | _ <;> rcases decide (y.kind=1) with _ | _ <;> rcases decide (y.kind=0) with _ | _ <;> rfl
  · have e1:op≤8:=by omega
    have e2:¬ 8<op:=by omega
    simp only [h9,h10,e1,e2,if_false,decide_true,decide_false]
    generalize x.kind=a
    generalize y.kind=b
    by_cases k:a=b
    · by_cases k1:a=0 <;> by_cases k2:b=0 <;> simp [k,k2]
    · by_cases k1:a=0
      · have:¬ (0:Int)=b:=fun e=>k (k1.trans e)
        simp [k1,this]
      · by_cases k2:b=0 <;> simp [k,k1,k2]
theorem bC4 (r:Int×Bool):D5 r.1 r.2=some (yO r):=by
  obtain ⟨a,b⟩:=r
  cases b <;> rfl
theorem aCh {op:Int} {x y:aA} (hx:okI x.num) (hy:okI y.num):qR op x y=some (jF op x y):=by
  unfold qR jF
  simp only [aIy,aMb,orB,QB,QA,decide_eq_true_eq]
  by_cases h1:op<1
  · have:¬ 1≤op:=by omega
    simp [h1,this]
  have h1':1≤op:=by omega
  by_cases h2:14<op
  · have:¬ op≤14:=by omega
    simp [h2,this]
  have h2':op≤14:=by omega
  rcases hvx:rO x with _ | _
  · simp [h1,h2,h1',h2']
  rcases hvy:rO y with _ | _
  · simp [h1,h2,h1',h2']
  by_cases h3:op≤2
  · simp [h1,h2,h3,h1',h2',bDm]
  have tx:=aNq hvx
  have ty:=aNq hvy
  rw [cAl op x y (by omega) h2']
  simp only [h1,h2,h3,h1',h2',decide_true,decide_false,QX,QF,QT,QW,QM,beq_self_eq_true,if_true,if_false,QA,QD,cD1,aUr,addN hx hy,aOs hx hy,bKk hx hy,bC4,aFb]
  generalize (vY op x&&vY op y&&(decide (8<op)||decide (x.kind=0)||decide (y.kind=0)||decide (x.kind=y.kind)))=t
  rcases t with _ | _
  · simp
  by_cases k1:x.kind=0
  · simp [k1]
  by_cases k2:y.kind=0
  · simp [k1,k2]
  simp only [k1,k2,decide_false,QF,QD,if_false,beq_self_eq_true,QW,if_true,QA,XK]
  by_cases h9:op=9
  · subst h9
    rw [dX (n:=(x.text.length:Int)+y.text.length) (by omega) (by omega),aOf (by omega)]
    by_cases hl:200<x.text.length+y.text.length
    · have:(200:Int)<(x.text.length:Int)+(y.text.length:Int):=by omega
      simp [hl,this]
    · have:¬ (200:Int)<(x.text.length:Int)+(y.text.length:Int):=by omega
      simp [hl,this,aEb]
  by_cases h10:op=10
  · subst h10; simp [arP]
  by_cases h11:op=11
  · subst h11; simp [arP]
  by_cases h12:op=12
  · subst h12; simp [arP]
  unfold aF4
  by_cases h13:op=13
  · subst h13
    simp [bGg (.inl rfl) hx hy]
  by_cases h14:op=14
  · subst h14
    simp [bGg (.inr rfl) hx hy]
  have h8:op≤8:=by omega
  simp [h9,h10,h11,h12,h13,h14,h8,aI5,cAh,wS,vBl]
theorem aKj {r:Int×Bool} (h:okI r.1):okI (yO r).1.num:=by
  unfold yO; split
  · exact h
  · exact ⟨by decide,by decide⟩
theorem aL4 (n:Int):okI (oQ n).1:=by
  unfold oQ; split
  · assumption
  · exact ⟨by decide,by decide⟩
theorem ok0:okI 0:=⟨by decide,by decide⟩
theorem ok1:okI 1:=⟨by decide,by decide⟩
theorem aPq (b:Bool):okI (vBl b).num:=by cases b <;> first | exact ok0 | exact ok1
theorem bYm {op a b:Int} (ha:okI a) (hb:okI b):okI (arP op a b).1.num:=by
  unfold arP
  split
  · exact aKj (aL4 _)
  split
  · exact aKj (aL4 _)
  split
  · exact aKj (aL4 _)
  split
  · exact ok0
  rename_i h0
  split
  · have h:(a.tmod b).natAbs=a.natAbs % b.natAbs:=XT a b
    have h2:a.natAbs % b.natAbs<b.natAbs:=Nat.mod_lt _ (by omega)
    have b1:=hb.1
    have b2:=hb.2
    exact ⟨by show -9223372036854775808≤a.tmod b; omega,by show a.tmod b≤9223372036854775807; omega⟩
  split
  · exact ok0
  · exact aQ9 ha h0 ‹_›
theorem cDz (op:Int) (x y:aA):okI (F4 op x y).1.num:=by
  unfold F4
  repeat' split
  all_goals first | exact ok0 | exact ok1
theorem yP {op:Int} {x y:aA} (hx:okI x.num) (hy:okI y.num):okI (jF op x y).1.num:=by
  unfold jF
  split
  · exact ok0
  split
  · exact cDz _ _ _
  split
  · exact ok0
  split
  · exact ok0
  split
  · exact aPq _
  split
  · split <;> exact ok0
  · exact bYm hx hy
def unP (op:Int) (x:aA):aA×Int :=
  if (!rO x||(!decide (op=15)&&!decide (op=16)))=true then (⟨0,0,[]⟩,1)
  else if x.kind=0 then (⟨0,0,[]⟩,0)
  else if op=15∧x.kind=3 then (vBl (decide (x.num=0)),0)
  else if op=16∧x.kind=1 then yO (oQ (0 - x.num)) else (⟨0,0,[]⟩,1)
theorem unI {op:Int} {x:aA} (hx:okI x.num):aBd op x=some (unP op x):=by
  unfold aBd unP
  simp only [bHj,orB,uK,bOf,QB,QA,arI ok0 hx]
  rcases rO x with _ | _
  · simp
  by_cases k:x.kind=0
  · by_cases h5:op=15
    · simp [h5,k]
    · by_cases h6:op=16 <;> simp [h5,h6,k]
  by_cases h5:op=15
  · subst h5
    by_cases k3:x.kind=3 <;> simp [k,k3,aCa,wS,vBl]
  by_cases h6:op=16
  · subst h6
    by_cases k1:x.kind=1 <;> simp [k,k1,arP]
  · simp [h5,h6]
theorem bXw {x:aA} (h:rO x=true) (k:x.kind=0):x=⟨0,0,[]⟩:=by
  have h2:=aIy x
  rw [h] at h2
  unfold kW at h2
  simp only [QB,QA,uK,k,decide_true,if_true,QH,QK,decide_eq_true_eq] at h2
  obtain ⟨a,b,c⟩:=x
  simp_all
theorem unS {op:Int} {x:aA} (hx:okI x.num):aDz op x=some (unP op x):=by
  unfold aDz unP
  simp only [aIy,aS5,aFb,aUr,aOs ok0 hx,bC4,QB,QA]
  rcases hv:rO x with _ | _
  · simp
  by_cases k:x.kind=0
  · have:=bXw hv k
    subst this
    by_cases h5:op=15
    · simp [h5]
    · by_cases h6:op=16 <;> simp [h5,h6]
  by_cases h5:op=15
  · subst h5
    by_cases k3:x.kind=3 <;> simp [k,k3,wS,vBl]
  by_cases h6:op=16
  · subst h6
    by_cases k1:x.kind=1 <;> simp [k,k1]
  · simp [h5,h6]
theorem bAl {op:Int} {x:aA} (_:okI x.num):okI (unP op x).1.num:=by
  unfold unP
  split
  · exact ok0
  split
  · exact ok0
  split
  · exact aPq _
  split
  · exact aKj (aL4 _)
  · exact ok0
def D6 (x a b:aA):aA×Int:=if (jF 8 x a).2≠0 then (⟨0,0,[]⟩,(jF 8 x a).2) else if (jF 6 x b).2≠0 then (⟨0,0,[]⟩,(jF 6 x b).2) else jF 2 (jF 8 x a).1 (jF 6 x b).1
theorem bUu {x a b:aA} (hx:okI x.num) (ha:okI a.num) (hb:okI b.num):aIe x a b=some (D6 x a b):=by
  unfold aIe D6
  simp only [aFm hx ha,aFm hx hb,aFm (yP (op:=8) hx ha) (yP (op:=6) hx hb),QB,QA]
  by_cases h1:(jF 8 x a).2=0
  · by_cases h2:(jF 6 x b).2=0 <;> simp [h1,h2]
  · simp [h1]
theorem bQd {x a b:aA} (hx:okI x.num) (ha:okI a.num) (hb:okI b.num):aJ5 x a b=some (D6 x a b):=by
  unfold aJ5 D6
  simp only [aCh hx ha,aCh hx hb,aCh (yP (op:=8) hx ha) (yP (op:=6) hx hb),QB,QA]
  by_cases h1:(jF 8 x a).2=0
  · by_cases h2:(jF 6 x b).2=0 <;> simp [h1,h2]
  · simp [h1]
theorem aY1 {x a b:aA} (hx:okI x.num) (ha:okI a.num) (hb:okI b.num):okI (D6 x a b).1.num:=by
  unfold D6
  split
  · exact ok0
  split
  · exact ok0
  · exact yP (yP hx ha) (yP hx hb)
def qH (x:aA):List aA→aA→aA×Int
  | [],o=>(o,0)
  | y::l,o=>if (jF 3 x y).2≠0 then (⟨0,0,[]⟩,(jF 3 x y).2) else qH x l (jF 1 o (jF 3 x y).1).1
theorem bEt {op:Int} {x y:aA} (hx:okI x.num) (hy:okI y.num) {r:aA×Int} (h:qR op x y=some r):jF op x y=r:=by
  rw [aCh hx hy] at h; exact Option.some.inj h
theorem aGh {x:aA} (h:tri x):okI x.num:=by rcases h with rfl | rfl | rfl <;> first | exact ok0 | exact ok1
theorem eqP {x y:aA} (hx:okI x.num) (hy:okI y.num) (h:(jF 3 x y).2=0):tri (jF 3 x y).1:=by
  obtain ⟨r,h1,_,h3⟩:=bT7 3 (by simp) x y
  have:=bEt hx hy h1
  subst this
  exact h3 h
theorem orP {x y:aA} (hx:tri x) (hy:tri y):(jF 1 x y).2=0∧tri (jF 1 x y).1:=by
  obtain ⟨r,h1,_,h3⟩:=bQx x y hx hy
  have:=bEt (aGh hx) (aGh hy) h1
  subst this
  exact h3
theorem bWd (x:aA) (p:List aA) (hl:p.length≤1048576) (hx:okI x.num) (hp:∀ y∈p,okI y.num):∀ i,i≤p.length→∀ a b c,tri ⟨a,b,c⟩ →
    I8 p x (i:Nat) a b c=some (qH x (p.drop i) ⟨a,b,c⟩)∧R8 p x (i:Nat) a b c=some (qH x (p.drop i) ⟨a,b,c⟩):=by
  refine dZ ?_ ?_
  · intro a b c _
    rw [R8,I8]
    simp [qH]
  · intro i hi ih a b c ht
    rw [R8,I8,QG hi]
    have hy:=hp _ (QE hi)
    have hc:=yP (op:=3) hx hy
    simp only [bZ,bM hi,dI hi (by omega),hi,decide_true,if_true,QB,QA,aFm hx hy,aCh hx hy,qH]
    by_cases hz:(jF 3 x p[i]).2=0
    · have h3:=orP ht (eqP hx hy hz)
      simp only [hz,decide_true,QF,QD,if_false,QA,aFm (aGh ht) hc,aCh (aGh ht) hc,h3.1,ne_eq,not_true_eq_false]
      exact ih _ _ _ h3.2
    · simp [hz]
theorem aXj {x:aA} {p:List aA} (hl:p.length≤1048576) (hx:okI x.num) (hp:∀ y∈p,okI y.num):aF1 x p=some (qH x p (vBl false))∧aDc x p=some (qH x p (vBl false)):=by
  have:=bWd x p hl hx hp 0 (by omega) 3 0 [] (by simp [tri])
  unfold aF1 aDc
  rw [aCa,wS]
  simpa [vBl] using this
theorem aH0 {x:aA} (hx:okI x.num):∀ {p:List aA} {o:aA},(∀ y∈p,okI y.num)→tri o→okI (qH x p o).1.num
  | [],o,_,ho=>aGh ho
  | y::p,o,hp,ho=>by
    rw [qH]
    by_cases hz:(jF 3 x y).2=0
    · rw [if_neg (by simp [hz])]
      exact aH0 hx (fun y hy=>hp y (WO _ hy)) (orP ho (eqP hx (hp y (by simp)) hz)).2
    · rw [if_pos hz]; exact ok0
def bD {α β:Type} (g:α→β×Int):List α→List β×Int
  | []=>([],0)
  | x::l=>if (g x).2≠0 then ([],(g x).2) else if (bD g l).2≠0 then ([],(bD g l).2) else ((g x).1::(bD g l).1,0)
theorem aCz {α β γ:Type} {p:List α} {b:Nat} {g:α→β×Int} {F:α→Option (β×Int)} {L:List β→Int→Option γ} {K:List β→Option γ} {E:Int→γ} (hp:p.length≤1048576) (hb:b≤64) (hF:∀ x∈p,F x=some (g x))
    (hL:∀ (i:Nat) acc,L acc (i:Int)=if (decide ((i:Int)<(p.length:Int)))=true then ((idx p (i:Int))>>=fun x=>(F x)>>=fun y=>if (!decide (y.2=0))=true then some (E y.2) else (appG b acc [y.1])>>=fun z=>L z (QC .i64 ((i:Int)+1))) else K acc) :
    ∀ acc,acc.length≤1048576→L acc 0=if (bD g p).2≠0 then some (E (bD g p).2) else K (acc++(bD g p).1):=by
  have key:∀ i,i≤p.length→∀ acc,acc.length≤1048576+i→L acc (i:Nat)=if (bD g (p.drop i)).2≠0 then some (E (bD g (p.drop i)).2) else K (acc++(bD g (p.drop i)).1):=by
    refine dZ ?_ ?_
    · intro acc _
      rw [hL]; simp [bD]
    · intro i hi ih acc ha
      rw [hL,bM hi,dI hi (by omega),QG hi]
      simp only [bZ,hi,decide_true,if_true,QB,QA,hF _ (QE hi),bD]
      by_cases h0:(g p[i]).2=0
      · have e:appG b acc [(g p[i]).1]=some (acc++[(g p[i]).1]):=nK (QV (Nat.mul_le_mul_left _ hb) (by simp only [QQ]; omega))
        simp only [h0,decide_true,QF,QD,if_false,ne_eq,not_true_eq_false,e,QA]
        rw [ih _ (by simp; omega)]
        by_cases h1:(bD g (p.drop (i+1))).2=0
        · simp [h1]
        · simp [h1]
      · simp [h0]
  intro acc ha
  simpa using key 0 (by omega) acc (by omega)
def tru (v:aA):Bool:=decide (v.kind=3)&&decide (v.num=1)
theorem bP7 (v:aA):aI4 v=some (tru v):=by unfold aI4 tru; simp only [uK,QB,QA]
theorem bZv (v:aA):aGv v=some (tru v):=by unfold aGv tru; simp only [uK,QB,QA]
abbrev Row1:=List aA
abbrev Rows:=List (List aA)
abbrev Gf:=Row1→aA×Int
def iR (g:Gf):Rows→Rows×Int
  | []=>([],0)
  | x::l=>if (g x).2≠0 then ([],(g x).2) else if (iR g l).2≠0 then ([],(iR g l).2) else (if tru (g x).1=true then x::(iR g l).1 else (iR g l).1,0)
def whE:List Gf→Rows→Rows×Int
  | [],r=>(r,0)
  | g::l,r=>if (iR g r).2≠0 then ([],(iR g r).2) else whE l (iR g r).1
def mM (r t:Rows):Rows:=r.flatMap fun a=>t.map fun b=>a++b
def joE:List (Rows×List Gf)→Rows→Rows×Int
  | [],r=>(r,0)
  | s::l,r=>if (whE s.2 (mM r s.1)).2≠0 then ([],(whE s.2 (mM r s.1)).2) else joE l (whE s.2 (mM r s.1)).1
theorem aF6 (g:Gf):∀ r:Rows,(iR g r).1.Sublist r
  | []=>by simp [iR]
  | x::l=>by
    rw [iR]
    split
    · exact XG _
    split
    · exact XG _
    dsimp only
    split
    · exact (aF6 g l).cons_cons x
    · exact (aF6 g l).cons x
theorem L6:∀ (gs:List Gf) (r:Rows),(whE gs r).1.Sublist r
  | [],r=>List.Sublist.refl _
  | g::gs,r=>by
    rw [whE]
    split
    · exact XG _
    · exact (L6 gs _).trans (aF6 g r)
def sS:List Bool→Row1→Row1→Bool
  | d::ds,x::a,y::b=>if (if d=true then -(tQ x y) else tQ x y)≠0 then decide ((if d=true then -(tQ x y) else tQ x y)<0) else sS ds a b
  | _,_,_=>false
def lQ {α:Type} [Inhabited α] (lt:α→α→Bool) (x:α) (l:List α):Nat→Nat
  | 0=>0
  | n+1=>if lt x (l[n]!)=true then lQ lt x l n else n+1
theorem bGn {α:Type} [Inhabited α] (lt:α→α→Bool) (x:α) (l:List α):∀ n,lQ lt x l n≤n
  | 0=>by simp [lQ]
  | n+1=>by
    rw [lQ]; split
    · have:=bGn lt x l n; omega
    · omega
def G6 {α:Type} [Inhabited α] (lt:α→α→Bool) (x:α) (l:List α):List α:=l.take (lQ lt x l l.length)++x::l.drop (lQ lt x l l.length)
def mF {α:Type} [Inhabited α] (lt:α→α→Bool):List α→List α→List α
  | s,[]=>s
  | s,x::l=>mF lt (G6 lt x s) l
theorem bI0 {α:Type} [Inhabited α] (lt:α→α→Bool) (x:α) (l:List α):(G6 lt x l).length=l.length+1:=by
  unfold G6
  have:=bGn lt x l l.length
  simp only [QJ,QY,XC,List.length_drop]
  omega
theorem aW6 {α:Type} [Inhabited α] (lt:α→α→Bool) (x:α) (l:List α):(G6 lt x l).Perm (x::l):=by
  unfold G6
  refine List.perm_middle.trans (List.Perm.cons x ?_)
  rw [List.take_append_drop]
theorem aE2 {α:Type} [Inhabited α] (lt:α→α→Bool):∀ (l s:List α),(mF lt s l).Perm (s++l)
  | [],s=>by simp [mF]
  | x::l,s=>by
    rw [mF]
    refine (aE2 lt l _).trans ?_
    refine ((aW6 lt x s).append_right l).trans ?_
    exact List.perm_middle.symm
theorem bHm {α:Type} [Inhabited α] (lt:α→α→Bool) (h:∀ a b,lt a b=false):∀ (l s:List α),mF lt s l=s++l
  | [],s=>by simp [mF]
  | x::l,s=>by
    have e:lQ lt x s s.length=s.length:=by
      cases s.length with
      | zero=>rfl
      | succ n=>rw [lQ,h]; simp
    rw [mF,bHm lt h l]
    unfold G6
    rw [e]; simp
def kLt (ds:List Bool) (a b:aU):Bool:=sS ds a.keys b.keys
def iZ (ks:List (Gf×Bool)) (r:Rows):Rows×Int :=
  if (bD (fun row=>bD (fun k:Gf×Bool=>k.1 row) ks) r).2≠0 then ([],(bD (fun row=>bD (fun k:Gf×Bool=>k.1 row) ks) r).2)
  else ((mF (kLt (ks.map (·.2))) [] (QP aU.mk r (bD (fun row=>bD (fun k:Gf×Bool=>k.1 row) ks) r).1)).map (·.row),0)
def aLz (x y:aA):Bool:=decide (x.kind=y.kind)&&(decide (x.num=y.num)&&(decide (x.text=y.text)&&true))
theorem aWa (x y:aA):aLz x y=true↔x=y:=by
  obtain ⟨a,b,c⟩:=x
  obtain ⟨d,e,f⟩:=y
  simp [aLz]
instance:DecidableEq aA:=fun a b=>decidable_of_iff _ (aWa a b)
def mE:Rows→Rows→Rows
  | o,[]=>o
  | o,x::l=>if x∈o then mE o l else mE (o++[x]) l
def aB2 (n:Int) (r:Rows):Rows:=if 0≤n∧n<(r.length:Int) then r.take n.toNat else r
def uN (dis:Bool) (lim:Int) (r:Rows):Rows:=aB2 lim (if dis=true then mE [] r else r)
def mI (is:List Gf) (r:Rows):Rows×Int:=bD (fun row=>bD (fun g:Gf=>g row) is) r
structure Qry where
  st:List (Rows×List Gf)
  wh:List Gf
  ks:List (Gf×Bool)
  is:List Gf
  dis:Bool
  lim:Int
def aC3 (q:Qry):Rows×Int :=
  if (joE q.st [[]]).2≠0 then ([],(joE q.st [[]]).2) else if (whE q.wh (joE q.st [[]]).1).2≠0 then ([],(whE q.wh (joE q.st [[]]).1).2) else
  if (iZ q.ks (whE q.wh (joE q.st [[]]).1).1).2≠0 then ([],(iZ q.ks (whE q.wh (joE q.st [[]]).1).1).2) else
  if (mI q.is (iZ q.ks (whE q.wh (joE q.st [[]]).1).1).1).2≠0 then ([],(mI q.is (iZ q.ks (whE q.wh (joE q.st [[]]).1).1).1).2) else
  (uN q.dis q.lim (mI q.is (iZ q.ks (whE q.wh (joE q.st [[]]).1).1).1).1,0)
theorem bAo (g:Gf) (r:Rows):(iR g r).1.length≤r.length:=(aF6 g r).length_le
theorem aD9 (gs:List Gf) (r:Rows):(whE gs r).1.length≤r.length:=(L6 gs r).length_le
theorem rJ {l m:Rows} (h:l.length+m.length≤4194304):appG 24 l m=some (l++m):=nK (by omega)
theorem bY3 {cl:bU} {p1:List bU} {x15:Int} {g:Gf} {x0:Rows} (hl:x0.length≤1048576) (H:∀ r∈x0,nM r cl.c0 cl.c1 cl.c2 cl.c3=some (g r)) :
    ∀ i,i≤x0.length→∀ acc:Rows,acc.length≤i→X8 cl p1 x15 x0 acc (i:Nat)=if (iR g (x0.drop i)).2≠0 then some ([],(iR g (x0.drop i)).2) else Q7 p1 (acc++(iR g (x0.drop i)).1) (QC .i64 (x15+1)):=by
  refine dZ ?_ ?_
  · intro acc _
    rw [X8]; simp [iR]
  · intro i hi ih acc ha
    rw [X8,bM hi,QG hi]
    simp only [bZ,hi,decide_true,if_true,QB,QA,H _ (QE hi),bP7,iR]
    by_cases h0:(g x0[i]).2=0
    · simp only [h0,decide_true,QF,QD,if_false,ne_eq,not_true_eq_false]
      by_cases ht:tru (g x0[i]).1=true
      · rw [if_pos ht,rJ (by simp; omega)]
        simp only [QA]
        rw [aDk,dI hi (by omega),ih _ (by simp; omega)]
        by_cases h1:(iR g (x0.drop (i+1))).2=0 <;> simp [h1,ht]
      · rw [if_neg ht,aDk,dI hi (by omega),ih _ (by omega)]
        by_cases h1:(iR g (x0.drop (i+1))).2=0 <;> simp [h1,ht]
    · simp [h0]
theorem bQb {P:Row1→Prop} {c:aQ} {d:GDb} {env:Rows} {ev:aJ→Gf} {l:List aJ} (hl:l.length≤1048576) (H:∀ e∈l,∀ r,P r→nM r c d env e=some (ev e r)) :
    ∀ i,i≤l.length→∀ rows:Rows,rows.length≤1048576→(∀ r∈rows,P r)→Q7 (l.map (bU.mk c d env)) rows (i:Nat)=some (whE ((l.drop i).map ev) rows):=by
  refine dZ ?_ ?_
  · intro rows _ _
    rw [Q7]; simp [whE]
  · intro i hi ih rows hr hP
    have hi':i<(l.map (bU.mk c d env)).length:=by simpa using hi
    rw [Q7,bM hi',QG hi]
    simp only [bZ,hi',decide_true,if_true,QB,QA,XQ,QL,whE]
    have k:=bY3 (cl:=bU.mk c d env l[i]) (p1:=l.map (bU.mk c d env)) (x15:=(i:Int)) (g:=ev l[i]) hr (fun r hr=>H _ (QE hi) r (hP r hr)) 0 (by omega) [] (by simp)
    simp only [Int.ofNat_zero,WG,QN] at k
    replace k:X8 (bU.mk c d env l[i]) (l.map (bU.mk c d env)) (i:Int) rows [] 0=_:=k
    rw [k,dI hi (by omega)]
    by_cases h1:(iR (ev l[i]) rows).2=0
    · simp only [h1,ne_eq,not_true_eq_false,if_false]
      exact ih _ (QV (bAo _ _) hr) fun r hr=>hP r ((aF6 _ _).subset hr)
    · simp [h1]
theorem bHf {P:Row1→Prop} {c:aQ} {d:GDb} {env:Rows} {ev:aJ→Gf} {l:List aJ} (hl:l.length≤1048576) (H:∀ e∈l,∀ r,P r→nM r c d env e=some (ev e r)) (rows:Rows) (hr:rows.length≤1048576) (hP:∀ r∈rows,P r) :
    aBo rows (l.map (bU.mk c d env))=some (whE (l.map ev) rows):=by
  rw [aBo]
  simpa using bQb hl H 0 (by omega) rows hr hP
theorem bQj (a b:Row1) (ha:a.length≤1048576) (hb:b.length≤1048576):aHj [a,b]=some (a++b):=by
  have w1:QC .i64 (0+1)=1:=by decide
  have w2:QC .i64 (1+1)=2:=by decide
  have g:aLo [] ((a.length:Int)+b.length)=some []:=by
    unfold aLo aJv
    rw [if_pos ⟨rfl,by omega,by omega,by omega⟩]
  have e1:appG 32 [] a=some a:=by rw [nK (by simp; omega)]; rfl
  have e2:appG 32 a b=some (a++b):=nK (by omega)
  have l1:QC .i64 (a.length:Int)=a.length:=dX (by omega) (by omega)
  have l2:QC .i64 ((a.length:Int)+b.length)=(a.length:Int)+b.length:=dX (by omega) (by omega)
  have n1:¬ ((a.length:Int)<0):=by omega
  have n2:¬ ((a.length:Int)+b.length<0):=by omega
  have J:∀ p x (y:Row1) k,aFw p x y k=wZ p (QC .i64 (x+(y.length:Int))) (QC .i64 (k+1)):=fun p x y k=>by rw [aFw]
  have k2:wU [a,b] (a++b) 2=some (a++b):=by rw [wU]; simp
  have k1:wU [a,b] a 1=some (a++b):=by
    rw [wU,w2]
    simp [idx,e2,k2]
  have k0:wU [a,b] [] 0=some (a++b):=by
    rw [wU,w1]
    simp [idx,e1,k1]
  have m2:wZ [a,b] ((a.length:Int)+b.length) 2=some (a++b):=by
    rw [wZ,g]
    simp [k0]
  have m1:wZ [a,b] (a.length:Int) 1=some (a++b):=by
    rw [wZ]
    simp only [J,l2,w2]
    simp only [QY,WF,idx]
    simp only [QB,List.getElem?_cons_succ,show Int.toNat 1=1 from rfl,List.getElem?_cons_zero,l2]
    rw [if_pos (by simp)]
    simp [l2,w2,m2]
    omega
  unfold aHj
  rw [wZ]
  simp [idx,J,l1,show QC .i64 1=1 by decide,m1]
def fM (n:Nat) (r:Row1):Prop:=r.length≤n * 1000∧∀ v∈r,okI v.num
theorem cBm {n:Nat} {a b:Row1} (ha:fM n a) (hb:fM 1 b):fM (n+1) (a++b):=by
  obtain ⟨a1,a2⟩:=ha
  obtain ⟨b1,b2⟩:=hb
  refine ⟨by simp; omega,fun v hv=>?_⟩
  rcases QO.1 hv with hv | hv
  · exact a2 v hv
  · exact b2 v hv
theorem aAt {n m:Nat} (h:n≤m) {r:Row1} (hr:fM n r):fM m r:=⟨QV hr.1 (XI _ h),hr.2⟩
theorem aJb (r t:Rows):(mM r t).length=r.length * t.length:=by
  unfold mM
  induction r with
  | nil=>simp
  | cons a r ih=>rw [WH,QJ,ih,WW,QY,XJ]; omega
theorem aQs {n:Nat} {r t:Rows} (hr:∀ x∈r,fM n x) (ht:∀ x∈t,fM 1 x):∀ x∈mM r t,fM (n+1) x:=by
  intro x hx
  unfold mM at hx
  obtain ⟨a,ha,hx⟩:=WX.1 hx
  obtain ⟨b,hb,rfl⟩:=WN.1 hx
  exact cBm (hr a ha) (ht b hb)
theorem bQy {x19:Int} {p0:eT} {x4:Rows} {x27:Int} {t:Rows} {a:Row1} (ht:t.length≤1048576) (ha:a.length≤1048576) (hB:∀ x∈t,x.length≤1048576) :
    ∀ j,j≤t.length→∀ acc:Rows,acc.length+t.length≤2097152+j→aBq x19 t a p0 x4 x27 (acc,(j:Nat))=K5 x19 t p0 x4 (acc++(t.drop j).map fun b=>a++b) (QC .i64 (x27+1)):=by
  refine dZ ?_ ?_
  · intro acc _
    rw [aBq]; simp
  · intro j hj ih acc hacc
    rw [aBq]
    simp only [bZ,hj,decide_true,if_true,bM hj,QB,QA,bQj a _ ha (hB _ (QE hj))]
    rw [rJ (by simp; omega)]
    simp only [QA]
    rw [dI hj (by omega),ih _ (by simp; omega),QG hj]
    simp only [QL,WE,WR]
theorem bRw {x19:Int} {p0:eT} {x4 t:Rows} (hx:x4.length * t.length≤1048576) (hx4:x4.length≤1048576) (ht:t.length≤1048576) (h4:∀ x∈x4,x.length≤1048576) (hB:∀ x∈t,x.length≤1048576) :
    ∀ i,i≤x4.length→∀ acc:Rows,acc.length=i * t.length→K5 x19 t p0 x4 acc (i:Nat)=(idx p0.on_ x19)>>=fun (y5:List bU)=>(aBo (acc++mM (x4.drop i) t) y5)>>=fun (y6:(List (List aA))×Int)=>if (!decide (y6.2=0))=true then (some (([]:List (List aA)),y6.2)) else (R7 p0 y6.1 (QC .i64 (x19+1))):=by
  refine dZ ?_ ?_
  · intro acc _
    rw [K5]; simp [mM]
  · intro i hi ih acc ha
    rw [K5]
    simp only [bZ,hi,decide_true,if_true,bM hi,QB,QA]
    have hm:(i+1) * t.length≤x4.length * t.length:=XI _ hi
    rw [XJ] at hm
    have:=bQy (x19:=x19) (p0:=p0) (x4:=x4) (x27:=(i:Int)) ht (h4 _ (QE hi)) hB 0 (by omega) acc (by omega)
    rw [show ((0:Nat):Int)=0 from rfl] at this
    rw [this,dI hi (by omega),ih _ (by simp [ha,XJ]),QG hi]
    simp only [mM,WH,WE,WG]
    rfl
theorem aOw (R:Nat):∀ (st:List (Rows×List Gf)) (r:Rows) (n:Nat),(∀ s∈st,s.1.length≤R)→r.length≤n→(joE st r).1.length≤n * R ^ st.length
  | [],r,n,_,h=>by simpa [joE] using h
  | s::st,r,n,hs,h=>by
    rw [joE]
    split
    · simp
    · have h1:(whE s.2 (mM r s.1)).1.length≤n * R:=by
        refine QV (aD9 _ _) ?_
        rw [aJb]
        exact XX h (hs s (by simp))
      have:=aOw R st _ _ (fun s hs'=>hs s (WO _ hs')) h1
      rw [QY,XY,Nat.mul_comm (R ^ st.length),← Nat.mul_assoc]
      exact this
theorem aNz:∀ (st:List (Rows×List Gf)) (r:Rows) (n:Nat),(∀ s∈st,∀ x∈s.1,fM 1 x)→(∀ x∈r,fM n x)→∀ x∈(joE st r).1,fM (n+st.length) x
  | [],r,n,_,h=>by simpa [joE] using h
  | s::st,r,n,hs,h=>by
    rw [joE]
    split
    · simp
    · have:=aNz st _ (n+1) (fun s hs'=>hs s (WO _ hs')) (fun x hx=>aQs h (hs s (by simp)) x ((L6 s.2 _).subset hx))
      rw [QY,show n+(st.length+1)=n+1+st.length by omega]
      exact this
structure cFz (N:Nat) (c:aQ) (d:GDb) (env:Rows) (ev:aJ→Gf) (p:aP):Prop where
  on:p.on_.length=p.tables.length
  t3:p.tables.length≤3
  on1:∀ l∈p.on_,l.length≤1048576
  wh:p.where_.length≤1048576
  ord:p.order.length≤1048576
  it:p.items.length≤1048576
  tb:∀ i∈p.tables,0≤i∧i<(d.tables.length:Int)
  N1:N≤1048576
  R:∃ R:Nat,1≤R∧R ^ p.tables.length≤N∧(∀ t∈d.tables,t.rows.length≤R)
  db:∀ t∈d.tables,∀ x∈t.rows,fM 1 x
def rowsOf (d:GDb) (i:Int):Rows:=(d.tables[i.toNat]?.getD ⟨[]⟩).rows
def Y8 (d:GDb) (ev:aJ→Gf) (p:aP):List (Rows×List Gf):=QP (fun i l=>(rowsOf d i,l.map ev)) p.tables p.on_
def jH (d:GDb) (ev:aJ→Gf) (p:aP):Qry:=⟨Y8 d ev p,p.where_.map ev,p.order.map fun k=>(ev k.expr,k.desc),p.items.map ev,p.distinct,p.limit⟩
theorem aN9 (c:aQ) (d:GDb) (env:Rows) (l:List aJ) (h:l.length≤1048576):K4 l c d env=some (l.map (bU.mk c d env)):=by
  unfold K4
  have e:(l.flatMap fun y=>[bU.mk c d env y])=l.map (bU.mk c d env):=by
    clear h
    induction l with
    | nil=>rfl
    | cons y l ih=>rw [WH,ih]; rfl
  have:=gather (p:=l) (f:=fun y=>[bU.mk c d env y]) (G:=fun y acc=>appG 8 acc ([(bU.mk c d env y)]:List bU)) (L:=fun acc i=>aBl c d env l acc i) (K:=some) (c:=1048576) (by omega)
    (fun y hy acc ha=>by
      simp only [QQ] at ha
      exact nK (by simp only [QQ]; omega))
    (fun i acc=>by rw [aBl])
    [] (by rw [e,WW]; simp only [WF]; omega)
  rw [this,e]
  rfl
theorem bSm {c:aQ} {d:GDb} {env:Rows} {ev:aJ→Gf} {x:eT} {l:List (List aJ)} {w:List aJ} {R N:Nat} (hN:N≤1048576) (R1:1≤R)
    (ho:x.on_=l.map fun l=>l.map (bU.mk c d env)) (hw:x.where_=w.map (bU.mk c d env)) (hlt:l.length=x.tables.length) (hl:∀ y∈l,y.length≤1048576) (hwl:w.length≤1048576) (t3:x.tables.length≤3)
    (hR:∀ t∈x.tables,t.length≤R) (hRN:R ^ x.tables.length≤N) (hB:∀ t∈x.tables,∀ r∈t,fM 1 r)
    (H:∀ e,(e∈w∨∃ y∈l,e∈y)→∀ r,fM 3 r→nM r c d env e=some (ev e r)) :
    ∀ i,i≤x.tables.length→∀ rows:Rows,rows.length≤R ^ i→(∀ r∈rows,fM i r)→R7 x rows (i:Nat) =
      some (if (joE (QP (fun t l=>(t,l.map ev)) (x.tables.drop i) (l.drop i)) rows).2≠0 then ([],(joE (QP (fun t l=>(t,l.map ev)) (x.tables.drop i) (l.drop i)) rows).2) else whE (w.map ev) (joE (QP (fun t l=>(t,l.map ev)) (x.tables.drop i) (l.drop i)) rows).1):=by
  have pw:∀ i,i≤x.tables.length→R ^ i≤N:=fun i hi=>QV (XZ R1 hi) hRN
  refine dZ ?_ ?_
  · intro rows hr hP
    rw [R7]
    have:=pw _ (XB _)
    simp only [bZ,WJ,decide_false,QD,if_false,hw,WP,XR,joE,ne_eq,not_true_eq_false,QB]
    rw [bHf hwl (fun e he=>H e (.inl he)) rows (by omega) (fun r hr=>aAt t3 (hP r hr))]
    rfl
  · intro i hi ih rows hr hP
    have hil:i<l.length:=by omega
    have hio:i<x.on_.length:=by rw [ho]; simpa using hil
    have pi:=pw i (by omega)
    have ps:=pw (i+1) (by omega)
    have ht:=hR _ (QE hi)
    have hcl:(mM rows x.tables[i]).length≤R ^ (i+1):=by rw [aJb,XY]; exact XX hr ht
    have hRN1:R≤1048576:=QV (QV (by have:=XZ R1 (show 1≤i+1 by omega); simpa using this) ps) hN
    rw [R7,bM hi]
    simp only [bZ,hi,decide_true,if_true,QB,QA]
    have j1:=bRw (x19:=(i:Int)) (p0:=x) (x4:=rows) (t:=x.tables[i]) (by rw [← aJb]; omega) (by omega) (by omega) (fun y hy=>by have:=(hP y hy).1; omega) (fun y hy=>by have:=(hB _ (QE hi) y hy).1; omega) 0 (by omega) [] (by simp)
    rw [show ((0:Nat):Int)=0 from rfl] at j1
    rw [j1,bM hio]
    have e1:x.on_[i]=l[i].map (bU.mk c d env):=by simp [ho]
    simp only [QB,QA,WG,QN,e1]
    have hcB:∀ r∈mM rows x.tables[i],fM (i+1) r:=aQs hP (hB _ (QE hi))
    rw [bHf (hl _ (QE hil)) (fun e he=>H e (.inr ⟨_,QE hil,he⟩)) _ (by omega) (fun r hr=>aAt (by omega) (hcB r hr))]
    simp only [QA]
    rw [QG hi,QG hil,WZ,joE]
    by_cases h0:(whE (l[i].map ev) (mM rows x.tables[i])).2=0
    · simp only [h0,decide_true,QF,QD,if_false,ne_eq,not_true_eq_false]
      rw [dI hi (by omega)]
      exact ih _ (QV (aD9 _ _) hcl) fun r hr=>hcB r ((L6 _ _).subset hr)
    · simp [h0]
theorem bHc (x y:aA) : -1≤tQ x y∧tQ x y≤1:=by
  have h:=aI5 x y
  unfold vM at h
  generalize tQ x y=n at h
  repeat' split at h
  all_goals (simp only [QH] at h; omega)
def aB9 (N:Nat):Prop:=∀ (x:eT) (l:List aU),l.length≤N→x.order.length≤1048576→(∀ k∈l,k.keys.length=x.order.length)→aGt l (eX.mk x)=some (mF (kLt (x.order.map (·.desc))) [] l)
theorem bX5 {x:eT} {a b:aU} (ho:x.order.length≤1048576) (ha:a.keys.length=x.order.length) (hb:b.keys.length=x.order.length) :
    ∀ i,i≤x.order.length→∃ n,aAz x a b (i:Nat)=some n∧decide (n<0)=sS ((x.order.map (·.desc)).drop i) (a.keys.drop i) (b.keys.drop i):=by
  refine dZ ?_ ?_
  · refine ⟨0,?_,?_⟩
    · rw [aAz]; simp
    · rw [List.drop_of_length_le (by simp)]; simp [sS]
  · intro i hi ih
    obtain ⟨n,h1,h2⟩:=ih
    have ia:i<a.keys.length:=by omega
    have ib:i<b.keys.length:=by omega
    have id:i<(x.order.map (·.desc)).length:=by simpa using hi
    rw [aAz]
    simp only [bZ,hi,decide_true,if_true,bM hi,bM ia,bM ib,QB,QA,aXn,aI5]
    rw [QG ia,QG ib,QG id,sS]
    have hr:=bHc a.keys[i] b.keys[i]
    generalize tQ a.keys[i] b.keys[i]=o at hr ⊢
    rw [dX (n:=0 - o) (by omega) (by omega)]
    have J:∀ m:Int,∃ n,aAh x (i:Int) a b m=some n∧decide (n<0)=if m≠0 then decide (m<0) else sS ((x.order.map (·.desc)).drop (i+1)) (a.keys.drop (i+1)) (b.keys.drop (i+1)):=by
      intro m
      rw [aAh]
      by_cases hm:m=0
      · refine ⟨n,?_,?_⟩
        · rw [if_neg (by simp [hm]),dI hi (by omega)]; exact h1
        · rw [if_neg (by simp [hm])]; exact h2
      · exact ⟨m,by rw [if_pos (by simp [hm])],by rw [if_pos hm]⟩
    simp only [XQ]
    by_cases hd:x.order[i].desc=true
    · rw [if_pos hd]
      simp only [hd,if_true]
      have:=J (0 - o)
      rwa [Int.zero_sub] at this ⊢
    · rw [if_neg hd]
      simp only [hd,QD,if_false]
      exact J o
theorem bVs {x:eT} {a b:aU} (ho:x.order.length≤1048576) (ha:a.keys.length=x.order.length) (hb:b.keys.length=x.order.length) :
    ∃ n,vD a b x=some n∧decide (n<0)=kLt (x.order.map (·.desc)) a b:=by
  have:=bX5 ho ha hb 0 (by omega)
  unfold vD kLt
  simpa using this
theorem bAb {α:Type} (A:List α) (x:α) (Z:List α):idx (A++x::Z) (A.length:Int)=some x:=by rw [bBz]; simp
theorem bDh {α:Type} (A:List α) (x y:α) (Z:List α):pV (A++x::Z) (A.length:Int) y=some (A++y::Z):=by
  unfold pV; rw [if_pos ⟨by omega,by simp⟩]; simp
def KL (m:Nat) (l:List aU):Prop:=∀ k∈l,k.keys.length=m
theorem bEc {x:eT} (ho:x.order.length≤1048576) (n x8:Int) (v:aU) (hv:v.keys.length=x.order.length) (l C:List aU) (hl:KL x.order.length l) (hl2:l.length≤1048576):∀ k,k≤l.length →
    Z8 0 n (eX.mk x) x8 (k:Int) (l.take k++v::(l.drop k++C)) =
    zX 0 n (eX.mk x) (QC .i64 (x8+1)) (l.take (lQ (kLt (x.order.map (·.desc))) v l k)++v::(l.drop (lQ (kLt (x.order.map (·.desc))) v l k)++C))
  | 0,_=>by
    rw [Z8]
    simp [lQ]
  | k+1,hk=>by
    have hk':k<l.length:=by omega
    have et:l.take (k+1)=l.take k++[l[k]]:=by rw [List.take_add_one,QU hk']; rfl
    have lk:(l.take k).length=k:=by simp; omega
    have e0:((k+1:Nat):Int)=((l.take k++[l[k]]).length:Int):=by simp; omega
    have e1:(k:Int)=((l.take k).length:Int):=by rw [lk]
    have ew:QC .i64 (((k+1:Nat):Int) - 1)=(k:Int):=by rw [dX] <;> omega
    have i1:∀ Z,idx ((l.take k++[l[k]])++v::Z) ((k+1:Nat):Int)=some v:=fun Z=>by rw [e0]; exact bAb _ _ _
    have i2:∀ Z,idx ((l.take k++[l[k]])++Z) (k:Int)=some l[k]:=by
      intro Z
      have:=bAb (l.take k) l[k] Z
      rw [lk] at this
      rw [WE]
      exact this
    have s1:∀ Z,pV ((l.take k++[l[k]])++v::Z) ((k+1:Nat):Int) l[k]=some ((l.take k++[l[k]])++l[k]::Z):=fun Z=>by rw [e0]; exact bDh _ _ _ _
    have s3:∀ Z,pV ((l.take k++[l[k]])++Z) (k:Int) v=some (l.take k++v::Z):=by
      intro Z
      have:=bDh (l.take k) l[k] v Z
      rw [lk] at this
      rw [WE]
      exact this
    obtain ⟨m,hm1,hm2⟩:=bVs ho hv (hl l[k] (QE hk'))
    rw [Z8,et]
    have hp:decide ((0:Int)<((k+1:Nat):Int))=true:=by rw [decide_eq_true_eq]; omega
    have eb:=getElem!_pos l k hk'
    simp only [hp,beq_self_eq_true,WK,if_true,ew,i1,i2,QB,QA,hm1,hm2]
    rw [lQ,eb]
    by_cases hr:kLt (x.order.map (·.desc)) v l[k]=true
    · rw [if_pos hr,if_pos hr,s1]
      simp only [QA,i2,s3]
      rw [← bEc ho n x8 v hv l C hl hl2 k (by omega),QG hk']
      rfl
    · rw [if_neg hr,if_neg hr,et]
theorem bDj {x:eT} (ho:x.order.length≤1048576) (n:Nat):∀ (Z S:List aU),S.length+Z.length=n→n≤1048576→KL x.order.length (S++Z) →
    zX 0 (n:Int) (eX.mk x) (S.length:Int) (S++Z)=some (mF (kLt (x.order.map (·.desc))) S Z)
  | [],S,hn,_,_=>by
    rw [zX]
    simp at hn
    simp [hn,mF]
  | v::Z,S,hn,h2,hm=>by
    simp only [QY] at hn
    rw [zX]
    have hlt:S.length<n:=by omega
    simp only [bZ,hlt,decide_true,if_true]
    have r:=bEc ho (n:Int) (S.length:Int) v (hm v (by simp)) S Z (fun k hk=>hm k (by simp [hk])) (by omega) S.length (XB _)
    rw [List.take_length,WP,QN] at r
    rw [r,dI hlt (by omega),mF]
    have e:S.take (lQ (kLt (x.order.map (·.desc))) v S S.length)++v::(S.drop (lQ (kLt (x.order.map (·.desc))) v S S.length)++Z)=G6 (kLt (x.order.map (·.desc))) v S++Z:=by simp [G6]
    have l1:=bI0 (kLt (x.order.map (·.desc))) v S
    rw [e,← l1]
    refine bDj ho n Z _ (by omega) h2 fun k hk=>?_
    rcases QO.1 hk with hk | hk
    · have:=(aW6 (kLt (x.order.map (·.desc))) v S).subset hk
      exact hm k (by simp at this ⊢; rcases this with h | h <;> simp [h])
    · exact hm k (by simp [hk])
theorem bMt:aB9 19:=by
  intro x l hl ho hk
  have hI:aEu l 0 (l.length:Int) (eX.mk x)=some (mF (kLt (x.order.map (·.desc))) [] l):=by
    unfold aEu
    have e:QC .i64 (0+1)=1:=by decide
    rw [e]
    cases l with
    | nil=>rw [zX]; simp [mF]
    | cons y l=>exact bDj ho (l.length+1) l [y] (by simp; omega) (by simp at hl; omega) hk
  unfold aGt aP9
  rw [aFf]
  have c1:decide ((20:Int)≤(l.length:Int))=false:=by rw [decide_eq_false_iff_not]; omega
  have c2:decide ((20:Int)<(l.length:Int))=false:=by rw [decide_eq_false_iff_not]; omega
  simp only [c1,QD,if_false,hI,QB,QA]
  rw [aIn]
  simp only [c2,QD,if_false,QA]
theorem aAm {α β γ:Type} (f:α→β) (g:β→γ×Int):∀ l:List α,bD g (l.map f)=bD (fun x=>g (f x)) l
  | []=>rfl
  | x::l=>by simp only [QL,bD,aAm f g l]
theorem aJs {α β:Type} {g:α→β×Int}:∀ {l:List α},(bD g l).2=0→(bD g l).1.length=l.length
  | [],_=>rfl
  | x::l,h=>by
    rw [bD] at h ⊢
    by_cases h1:(g x).2=0
    · by_cases h2:(bD g l).2=0
      · simp [h1,h2,aJs h2]
      · simp [h1,h2] at h
    · simp [h1] at h
theorem aDy {α β:Type} {g:α→β×Int} (l:List α):(bD g l).1.length≤l.length:=by
  by_cases h:(bD g l).2=0
  · rw [aJs h]; exact XB _
  · cases l with
    | nil=>simp [bD]
    | cons x l =>
      rw [bD] at h ⊢
      by_cases h1:(g x).2=0
      · by_cases h2:(bD g l).2=0
        · simp [h1,h2] at h
        · simp [h1,h2]
      · simp [h1]
theorem aCt {α β:Type} {g:α→β×Int}:∀ {l:List α} {y:β},y∈(bD g l).1→∃ x∈l,y=(g x).1∧(g x).2=0
  | [],y,h=>by simp [bD] at h
  | x::l,y,h=>by
    rw [bD] at h
    by_cases h1:(g x).2=0
    · by_cases h2:(bD g l).2=0
      · simp only [h1,h2,ne_eq,not_true_eq_false,if_false,WM] at h
        rcases h with rfl | h
        · exact ⟨x,by simp,rfl,h1⟩
        · obtain ⟨z,hz,e⟩:=aCt h
          exact ⟨z,WO _ hz,e⟩
      · simp [h1,h2] at h
    · simp [h1] at h
abbrev Sb (c:aQ) (d:GDb) (env:Rows) (k:dD):mU:=mU.mk (bU.mk c d env k.expr) k.desc
theorem bYx (l:List aU) (hl:l.length≤1048576):∀ i,i≤l.length→∀ acc:Rows,acc.length≤i→Y0 l acc (i:Nat)=some (acc++(l.drop i).map (·.row),0):=by
  refine dZ ?_ ?_
  · intro acc _
    rw [Y0]; simp
  · intro i hi ih acc ha
    rw [Y0]
    simp only [bZ,hi,decide_true,if_true,bM hi,QB,QA]
    rw [rJ (by simp only [QQ]; omega)]
    simp only [QA]
    rw [dI hi (by omega),ih _ (by simp only [QJ,QQ]; omega),QG hi]
    simp only [QL,WE,WR]
abbrev nU (ev:aJ→Gf) (ks:List dD) (r:Row1):Row1×Int:=bD (fun k:dD=>ev k.expr r) ks
theorem bYf {N:Nat} (hN:N≤1048576) (hS:aB9 N) {P:Row1→Prop} {c:aQ} {d:GDb} {env:Rows} {ev:aJ→Gf} {ks:List dD} {x:eT} (hx:x.order=ks.map (Sb c d env)) (hk:ks.length≤1048576)
    (H:∀ k∈ks,∀ r,P r→nM r c d env k.expr=some (ev k.expr r)) {rows:Rows} (hr:rows.length≤N) (hP:∀ r∈rows,P r) :
    ∀ i,i≤rows.length→∀ b:List aU,b.length=i→KL ks.length b→U2 rows x (i:Nat) b =
      if (bD (nU ev ks) (rows.drop i)).2≠0 then some ([],(bD (nU ev ks) (rows.drop i)).2)
      else some ((mF (kLt (ks.map (·.desc))) [] (b++QP aU.mk (rows.drop i) (bD (nU ev ks) (rows.drop i)).1)).map (·.row),0):=by
  have ho:x.order.length=ks.length:=by rw [hx,WW]
  have hd:x.order.map (·.desc)=ks.map (·.desc):=by rw [hx,XF]; rfl
  refine dZ ?_ ?_
  · intro b hb hK
    rw [U2]
    simp only [bZ,WJ,decide_false,QD,if_false,WP,bD,ne_eq,not_true_eq_false,XR,WV,QB]
    rw [hS x b (by omega) (by omega) (fun k hk=>by rw [ho]; exact hK k hk)]
    simp only [QA]
    have hl:(mF (kLt (x.order.map (·.desc))) [] b).length=b.length:=by simpa using (aE2 (kLt (x.order.map (·.desc))) b []).length_eq
    have:=bYx (mF (kLt (x.order.map (·.desc))) [] b) (by omega) 0 (by omega) [] (by simp)
    rw [hd] at this
    simpa [hd] using this
  · intro i hi ih b hb hK
    rw [U2,bM hi,QG hi]
    simp only [bZ,hi,decide_true,if_true,QB,QA,bD]
    have hPr:=hP _ (QE hi)
    have m:=aCz (p:=x.order) (b:=32) (g:=fun k=>ev k.eval.c3 rows[i]) (F:=fun y3=>nM rows[i] y3.eval.c0 y3.eval.c1 y3.eval.c2 y3.eval.c3)
      (L:=fun acc j=>aBr rows[i] rows (i:Int) x b acc j) (E:=fun e=>([],e)) (K:=fun acc=>(appG 48 b ([(aU.mk rows[i] acc)]:List aU))>>=fun (y6:List aU)=>U2 rows x (QC .i64 ((i:Int)+1)) y6)
      (by omega) (by omega) (fun k hk=>by
        rw [hx] at hk
        obtain ⟨q,hq,rfl⟩:=WN.1 hk
        exact H q hq _ hPr) (fun j acc=>by rw [aBr]) [] (by simp)
    rw [m,hx,aAm]
    simp only [QN]
    by_cases h0:(bD (fun k:dD=>ev k.expr rows[i]) ks).2=0
    · have hkl:=aJs h0
      have ea:appG 48 b [aU.mk rows[i] (bD (fun k:dD=>ev k.expr rows[i]) ks).1]=some (b++[aU.mk rows[i] (bD (fun k:dD=>ev k.expr rows[i]) ks).1]):=nK (by simp only [QQ]; omega)
      simp only [nU,h0,ne_eq,not_true_eq_false,if_false,ea,QB,QA]
      rw [dI hi (by omega),ih _ (by simp [hb]) (fun k hk=>by
        rcases QO.1 hk with hk | hk
        · exact hK k hk
        · simp at hk; subst hk; exact hkl)]
      by_cases h1:(bD (nU ev ks) (rows.drop (i+1))).2=0
      · simp only [h1,ne_eq,not_true_eq_false,if_false,WZ,WE,WR]
      · simp [h1]
    · simp [h0,nU]
theorem bPs {N:Nat} (hN:N≤1048576) (hS:aB9 N) {P:Row1→Prop} {c:aQ} {d:GDb} {env:Rows} {ev:aJ→Gf} {ks:List dD} {x:eT} (hx:x.order=ks.map (Sb c d env)) (hk:ks.length≤1048576)
    (H:∀ k∈ks,∀ r,P r→nM r c d env k.expr=some (ev k.expr r)) {rows:Rows} (hr:rows.length≤N) (hP:∀ r∈rows,P r) :
    aHx x rows=some (iZ (ks.map fun k=>(ev k.expr,k.desc)) rows):=by
  have:=bYf hN hS hx hk H hr hP 0 (by omega) [] rfl (fun k hk=>by simp at hk)
  rw [show ((0:Nat):Int)=0 from rfl] at this
  rw [aHx,this]
  unfold iZ
  have e:(fun row:Row1=>bD (fun k:Gf×Bool=>k.1 row) (ks.map fun k=>(ev k.expr,k.desc)))=nU ev ks:=by
    funext row; rw [aAm]
  have e2:(ks.map fun k=>(ev k.expr,k.desc)).map (·.2)=ks.map (·.desc):=by rw [XF]; rfl
  rw [e,e2,WG,QN]
  split <;> rfl
theorem bSg {P:Row1→Prop} {c:aQ} {d:GDb} {env:Rows} {ev:aJ→Gf} {l:List aJ} (hl:l.length≤1048576) (H:∀ e∈l,∀ r,P r→nM r c d env e=some (ev e r)) {r:Row1} (hr:P r) :
    aEh r (l.map (bU.mk c d env))=some (bD (fun e=>ev e r) l):=by
  have m:=aCz (p:=l.map (bU.mk c d env)) (b:=32) (g:=fun k=>ev k.c3 r) (F:=fun y1=>nM r y1.c0 y1.c1 y1.c2 y1.c3)
    (L:=fun acc j=>aFn r (l.map (bU.mk c d env)) acc j) (E:=fun e=>([],e)) (K:=fun acc=>some (acc,0)) (by simpa using hl) (by omega) (fun k hk=>by
      obtain ⟨q,hq,rfl⟩:=WN.1 hk
      exact H q hq _ hr) (fun j acc=>by rw [aFn]) [] (by simp)
  rw [aEh,aKz,m,aAm]
  by_cases h0:(bD (fun e=>ev e r) l).2=0
  · simp only [h0,ne_eq,not_true_eq_false,if_false,QN,QB,QA]
    rw [← h0]
  · have e:(bD (fun e=>ev e r) l).1=[]:=by
      cases l with
      | nil=>simp [bD] at h0
      | cons x l =>
        rw [bD] at h0 ⊢
        by_cases h1:(ev x r).2=0
        · by_cases h2:(bD (fun e=>ev e r) l).2=0
          · simp [h1,h2] at h0
          · simp [h1,h2]
        · simp [h1]
    simp only [h0,ne_eq,not_false_eq_true,if_true,QB,QA]
    rw [← e]
theorem bPi (a b:Row1) (ha:a.length≤1048576):aK0 a b=some (decide (a=b)):=by
  unfold aK0
  by_cases hl:a.length=b.length
  · have key:∀ i,i≤a.length→aA5 a b (i:Nat)=some (decide (a.drop i=b.drop i)):=by
      refine dZ ?_ ?_
      · rw [aA5]
        rw [WP,hl,WP]; simp
      · intro i hi ih
        have hb:i<b.length:=by omega
        rw [aA5]
        simp only [bZ,hi,decide_true,if_true,bM hi,bM hb,QB,QA]
        rw [dI hi (by omega),ih,QG hi,QG hb]
        have e:=aWa a[i] b[i]
        unfold aLz at e
        by_cases h:a[i]=b[i]
        · rw [if_neg (by rw [e.2 h]; decide),h]; simp only [List.cons.injEq,true_and]
        · rw [if_pos (by rw [Bool.eq_false_iff.2 (fun h'=>h (e.1 h'))]; rfl)]; simp only [List.cons.injEq,h,false_and,decide_false]
    have:=key 0 (by omega)
    simp only [WG] at this
    rw [if_neg (by simp; omega)]
    exact this
  · have:a≠b:=fun e=>hl (by rw [e])
    rw [if_pos (by simp; omega)]
    simp [this]
theorem bRs (o:Rows) (y:Row1) (ho:o.length≤1048576) (hy:y.length≤1048576):aHo o y=some (decide (y∈o)):=by
  have key:∀ i,i≤o.length→∃ n,R4 o y (i:Nat)=some n∧decide (0≤n)=decide (y∈o.drop i):=by
    refine dZ ?_ ?_
    · refine ⟨-1,?_,?_⟩
      · rw [R4]; simp
      · simp
    · intro i hi ⟨n,h1,h2⟩
      rw [R4]
      simp only [bZ,hi,decide_true,if_true,bM hi,QB,QA,aP4,bPi y _ hy,dI hi (show o.length≤4611686018427387904 by omega)]
      rw [QG hi]
      by_cases h:y=o[i]
      · refine ⟨i,by simp [h],?_⟩
        rw [decide_eq_true (show (0:Int)≤i by omega),decide_eq_true (by rw [← h]; simp)]
      · refine ⟨n,?_,?_⟩
        · rw [if_neg (by simp [h])]; exact h1
        · rw [h2]; simp only [WM,h,false_or]
  obtain ⟨n,h1,h2⟩:=key 0 (by omega)
  unfold aHo aOr
  rw [show ((0:Nat):Int)=0 from rfl] at h1
  rw [h1]
  simpa using h2
theorem bXk (r:Row1) (h:r.length≤1048576):aK8 r=some r:=by
  unfold aK8
  split
  · rename_i e
    simp only [decide_eq_true_eq] at e
    have:r=[]:=XM (by omega)
    rw [this]
  · rw [nK (by simp only [WF]; omega)]; rfl
theorem bLh (p:Rows) (hp:p.length≤1048576) (hr:∀ y∈p,y.length≤1048576):aCk p=some (mE [] p):=by
  have key:∀ i,i≤p.length→∀ acc:Rows,acc.length≤i→aCy p acc (i:Nat)=some (mE acc (p.drop i)):=by
    refine dZ ?_ ?_
    · intro acc _
      rw [aCy]; simp [mE]
    · intro i hi ih acc ha
      have hy:=hr _ (QE hi)
      rw [aCy]
      simp only [bZ,hi,decide_true,if_true,bM hi,QB,QA,bRs acc _ (by omega) hy,bXk _ hy]
      rw [QG hi,mE]
      by_cases h:p[i]∈acc
      · simp only [h,decide_true,QF,QD,if_false,if_true]
        rw [aB1,dI hi (by omega)]
        exact ih acc (by omega)
      · simp only [h,decide_false,QS,if_true,if_false]
        rw [rJ (by simp only [QQ]; omega)]
        simp only [QA]
        rw [aB1,dI hi (by omega)]
        exact ih _ (by simp only [QJ,QQ]; omega)
  unfold aCk
  simpa using key 0 (by omega) [] (by simp)
theorem aIs:∀ (l o:Rows),(mE o l).length≤o.length+l.length
  | [],o=>by simp [mE]
  | x::l,o=>by
    rw [mE]
    split
    · have:=aIs l o; simp; omega
    · have:=aIs l (o++[x]); simp at this ⊢; omega
theorem bC2 (n:Int) (r:Rows) (hr:r.length≤1048576):((some (if (decide (0≤n))=true then (decide (n<(r.length:Int))) else false))>>=fun (y8:Bool)=>if y8=true then ((iW r 0 n)>>=fun (y9:List (List aA))=>some (y9,(0:Int))) else (some (r,0)))=some (aB2 n r,0):=by
  unfold aB2
  simp only [QB,QA]
  by_cases h0:0≤n
  · by_cases h1:n<(r.length:Int)
    · obtain ⟨m,rfl⟩:∃ m:Nat,n=m:=⟨n.toNat,by omega⟩
      have:m≤r.length:=by omega
      simp [h0,h1,aPo this]
    · simp [h0,h1]
  · simp [h0]
theorem bJm {x:eT} (r:Rows) (hr:r.length≤1048576) (hl:∀ y∈r,y.length≤1048576):(if x.distinct=true then ((aCk r)>>=fun (y6:List (List aA))=>wY x y6) else (wY x r))=some (uN x.distinct x.limit r,0):=by
  have J:∀ y:Rows,y.length≤1048576→wY x y=some (aB2 x.limit y,0):=fun y hy=>by
    unfold wY aH7
    exact bC2 x.limit y hy
  unfold uN
  by_cases hd:x.distinct=true
  · rw [if_pos hd,if_pos hd,bLh r hr hl]
    exact J _ (by have:=aIs r []; simp at this; omega)
  · rw [if_neg hd,if_neg hd]; exact J r hr
theorem bOu {N:Nat} (hS:aB9 N) {c:aQ} {d:GDb} {env:Rows} {ev:aJ→Gf} {x:eT} {l:List (List aJ)} {w it:List aJ} {ks:List dD} {R:Nat} (hN:N≤1048576) (R1:1≤R)
    (ho:x.on_=l.map fun l=>l.map (bU.mk c d env)) (hw:x.where_=w.map (bU.mk c d env)) (hx:x.order=ks.map (Sb c d env)) (hi:x.items=⟨it.map (bU.mk c d env)⟩)
    (hlt:l.length=x.tables.length) (hl:∀ y∈l,y.length≤1048576) (hwl:w.length≤1048576) (hkl:ks.length≤1048576) (hil:it.length≤1048576) (t3:x.tables.length≤3)
    (hR:∀ t∈x.tables,t.length≤R) (hRN:R ^ x.tables.length≤N) (hB:∀ t∈x.tables,∀ r∈t,fM 1 r)
    (H:∀ e,(e∈w∨(∃ y∈l,e∈y)∨(∃ k∈ks,e=k.expr)∨e∈it)→∀ r,fM 3 r→nM r c d env e=some (ev e r)) :
    aA6 x=some (aC3 ⟨QP (fun t l=>(t,l.map ev)) x.tables l,w.map ev,ks.map fun k=>(ev k.expr,k.desc),it.map ev,x.distinct,x.limit⟩):=by
  have j:=bSm hN R1 ho hw hlt hl hwl t3 hR hRN hB (fun e he=>H e (he.elim .inl fun h=>.inr (.inl h))) 0 (by omega) [[]] (by simp) (fun r hr=>by simp at hr; subst hr; exact ⟨by simp,by simp⟩)
  rw [show ((0:Nat):Int)=0 from rfl,WG,WG] at j
  rw [aA6,aO5,j]
  unfold aC3
  dsimp only
  have js:(QP (fun (t:Rows) (l:List aJ)=>(t,l.map ev)) x.tables l).length=x.tables.length:=by simp [hlt]
  have jm:∀ (T:List Rows) (L:List (List aJ)),∀ s∈QP (fun (t:Rows) (l:List aJ)=>(t,l.map ev)) T L,s.1∈T:=by
    intro T
    induction T with
    | nil=>intro L s hs; simp at hs
    | cons t T ih =>
      intro L s hs
      cases L with
      | nil=>simp at hs
      | cons y L =>
        rw [WZ,WM] at hs
        rcases hs with rfl | hs
        · simp
        · exact WO _ (ih L s hs)
  have jl:=aOw R (QP (fun (t:Rows) (l:List aJ)=>(t,l.map ev)) x.tables l) [[]] 1 (fun s hs=>hR _ (jm _ _ s hs)) (by simp)
  have jB:=aNz (QP (fun (t:Rows) (l:List aJ)=>(t,l.map ev)) x.tables l) [[]] 0 (fun s hs=>hB _ (jm _ _ s hs)) (fun r hr=>by simp at hr; subst hr; exact ⟨by simp,by simp⟩)
  rw [js,XW] at jl
  rw [js,Nat.zero_add] at jB
  generalize joE (QP (fun (t:Rows) (l:List aJ)=>(t,l.map ev)) x.tables l) [[]]=J at jl jB ⊢
  obtain ⟨J1,J2⟩:=J
  dsimp only at jl jB ⊢
  by_cases h0:J2=0
  · subst h0
    have wl:=aD9 (w.map ev) J1
    have wB:∀ r∈(whE (w.map ev) J1).1,fM 3 r:=fun r hr=>aAt t3 (jB r ((L6 _ _).subset hr))
    simp only [ne_eq,not_true_eq_false,if_false,QB,QA]
    generalize whE (w.map ev) J1=W at wl wB ⊢
    obtain ⟨W1,W2⟩:=W
    dsimp only at wl wB ⊢
    by_cases h1:W2=0
    · subst h1
      simp only [decide_true,QF,QD,if_false]
      rw [bPs hN hS hx hkl (fun k hk r hr=>H k.expr (.inr (.inr (.inl ⟨k,hk,rfl⟩))) r hr) (QV wl (QV jl hRN)) wB]
      simp only [QA]
      have sl:(iZ (ks.map fun k=>(ev k.expr,k.desc)) W1).1.length≤W1.length:=by
        unfold iZ
        split
        · simp
        · rw [WW,(aE2 _ _ _).length_eq]
          simp only [QN,List.length_zipWith]
          omega
      have sB:∀ r∈(iZ (ks.map fun k=>(ev k.expr,k.desc)) W1).1,fM 3 r:=by
        unfold iZ
        split
        · simp
        · intro r hr
          obtain ⟨k,hk,rfl⟩:=WN.1 hr
          have hk2:=(aE2 _ _ _).subset hk
          rw [QN] at hk2
          have:∀ (A B:List Row1) (k:aU),k∈QP aU.mk A B→k.row∈A:=by
            intro A
            induction A with
            | nil=>intro B k hk; simp at hk
            | cons a A ih =>
              intro B k hk
              cases B with
              | nil=>simp at hk
              | cons b B =>
                rw [WZ,WM] at hk
                rcases hk with rfl | hk
                · simp
                · exact WO _ (ih B k hk)
          exact wB _ (this _ _ _ hk2)
      generalize iZ (ks.map fun k=>(ev k.expr,k.desc)) W1=S at sl sB ⊢
      obtain ⟨S1,S2⟩:=S
      dsimp only at sl sB ⊢
      by_cases h2:S2=0
      · subst h2
        simp only [decide_true,QF,QD,if_false]
        have sN:S1.length≤1048576:=by omega
        have m:=aCz (p:=S1) (b:=24) (g:=fun row=>bD (fun e=>ev e row) it) (F:=fun y3=>aEh y3 x.items.c0)
          (L:=fun acc j=>aD5 (S1,0) x acc j) (E:=fun e=>([],e)) (K:=fun acc=>if x.distinct=true then ((aCk acc)>>=fun (y6:List (List aA))=>wY x y6) else (wY x acc))
          sN (by omega) (fun r hr=>by rw [hi]; exact bSg hil (fun e he r hr=>H e (.inr (.inr (.inr he))) r hr) (sB r hr)) (fun j acc=>by rw [aD5]) [] (by simp)
        rw [m]
        have e:mI (it.map ev) S1=bD (fun row=>bD (fun e=>ev e row) it) S1:=by
          unfold mI
          congr 1
          funext row
          rw [aAm]
        rw [e]
        have ml:=aDy (g:=fun row=>bD (fun e=>ev e row) it) S1
        have mm:∀ y∈(bD (fun row=>bD (fun e=>ev e row) it) S1).1,y.length≤1048576:=by
          intro y hy
          obtain ⟨r,_,rfl,_⟩:=aCt hy
          exact QV (aDy _) hil
        generalize bD (fun row=>bD (fun e=>ev e row) it) S1=M at ml mm ⊢
        obtain ⟨M1,M2⟩:=M
        dsimp only at ml mm ⊢
        by_cases h3:M2=0
        · subst h3
          simp only [ne_eq,not_true_eq_false,if_false,QN]
          exact bJm M1 (by omega) mm
        · simp [h3]
      · simp [h2]
    · simp [h1]
  · simp [h0]
def nP (d:GDb) (l:List Int):Bool:=l.all fun i=>decide (0≤i)&&decide (i<(d.tables.length:Int))
def kS (d:GDb) (ev:aJ→Gf) (p:aP):Rows×Int:=if (p.tables.length=0∨p.on_.length≠p.tables.length)∨nP d p.tables=false then ([],4) else aC3 (jH d ev p)
theorem cCt {c:aQ} {d:GDb} {env:Rows} {p:aP} {b0:List Rows} {b1:List (List bU)} {w:List bU} (ho:p.order.length≤1048576) (hi:p.items.length≤1048576) :
    ∀ i,i≤p.order.length→∀ acc:List mU,acc.length≤i→aAw c d env p b0 b1 (w,(i:Nat),acc)=aA6 (eT.mk b0 b1 w (acc++(p.order.drop i).map (Sb c d env)) ⟨p.items.map (bU.mk c d env)⟩ p.distinct p.limit):=by
  refine dZ ?_ ?_
  · intro acc _
    rw [aAw,aN9 c d env p.items hi]
    simp only [bZ,WJ,decide_false,QD,if_false,QB,QA,WP,WY,WV]
    generalize aA6 _=q
    cases q <;> rfl
  · intro i h ih acc ha
    rw [aAw,QG h]
    simp only [bZ,h,decide_true,if_true,bM h,QB,QA]
    rw [aN9 c d env [p.order[i].expr] (by simp)]
    simp only [QA,QL,WY]
    have e:idx [bU.mk c d env p.order[i].expr] 0=some (bU.mk c d env p.order[i].expr):=rfl
    rw [e]
    simp only [QA]
    rw [nK (by simp only [QQ]; omega)]
    simp only [QA]
    rw [dI h (by omega),ih _ (by simp only [QJ,QQ]; omega)]
    simp only [WE,WR]
theorem bM8 {c:aQ} {d:GDb} {env:Rows} {p:aP} {b0:List Rows} (hn:p.on_.length≤1048576) (hn1:∀ l∈p.on_,l.length≤1048576) (hw:p.where_.length≤1048576) (ho:p.order.length≤1048576) (hi:p.items.length≤1048576) :
    ∀ i,i≤p.on_.length→∀ acc:List (List bU),acc.length≤i→P8 c d env p b0 (i:Nat) acc=aA6 (eT.mk b0 (acc++(p.on_.drop i).map fun l=>l.map (bU.mk c d env)) (p.where_.map (bU.mk c d env)) (p.order.map (Sb c d env)) ⟨p.items.map (bU.mk c d env)⟩ p.distinct p.limit):=by
  refine dZ ?_ ?_
  · intro acc _
    rw [P8,aN9 c d env p.where_ hw]
    simp only [bZ,WJ,decide_false,QD,if_false,QB,QA,WP,WY,WV]
    have:=cCt (c:=c) (d:=d) (env:=env) (b0:=b0) (b1:=acc) (w:=p.where_.map (bU.mk c d env)) ho hi 0 (by omega) [] (by simp)
    rw [show ((0:Nat):Int)=0 from rfl,WG,QN] at this
    exact this
  · intro i h ih acc ha
    rw [P8,QG h]
    simp only [bZ,h,decide_true,if_true,bM h,QB,QA]
    rw [aN9 c d env _ (hn1 _ (QE h))]
    simp only [QA]
    rw [nK (by simp only [QQ]; omega)]
    simp only [QA]
    rw [dI h (by omega),ih _ (by simp only [QJ,QQ]; omega)]
    simp only [QL,WE,WR]
theorem aWi {d:GDb} {i:Int} (h0:0≤i) (h1:i<(d.tables.length:Int)):∃ t,idx d.tables i=some t∧t.rows=rowsOf d i∧t∈d.tables:=by
  obtain ⟨n,rfl⟩:∃ n:Nat,i=n:=⟨i.toNat,by omega⟩
  have hn:n<d.tables.length:=by omega
  refine ⟨d.tables[n],bM hn,?_,QE hn⟩
  unfold rowsOf
  simp [hn]
theorem bUa {c:aQ} {d:GDb} {env:Rows} {p:aP} (ht:p.tables.length≤1048576) :
    ∀ i,i≤p.tables.length→∀ acc:List Rows,acc.length≤i→aB8 p c d env (i:Nat) acc=if nP d (p.tables.drop i)=true then P8 c d env p (acc++(p.tables.drop i).map (rowsOf d)) 0 [] else some ([],4):=by
  refine dZ ?_ ?_
  · intro acc _
    rw [aB8]
    simp [nP]
  · intro i h ih acc ha
    rw [aB8,QG h]
    simp only [bZ,h,decide_true,if_true,bM h,QB,QA,orB]
    have e:nP d (p.tables[i]::p.tables.drop (i+1))=((decide (0≤p.tables[i])&&decide (p.tables[i]<(d.tables.length:Int)))&&nP d (p.tables.drop (i+1))):=rfl
    by_cases h0:p.tables[i]<0
    · have:¬ 0≤p.tables[i]:=by omega
      rw [if_neg (show ¬ nP d (p.tables[i]::p.tables.drop (i+1))=true by rw [e]; simp [this])]; simp [h0]
    · by_cases h1:(d.tables.length:Int)≤p.tables[i]
      · have:¬ p.tables[i]<(d.tables.length:Int):=by omega
        rw [if_neg (show ¬ nP d (p.tables[i]::p.tables.drop (i+1))=true by rw [e]; simp [this])]; simp [h1]
      · have h0':0≤p.tables[i]:=by omega
        have h1':p.tables[i]<(d.tables.length:Int):=by omega
        obtain ⟨t,e1,e2,_⟩:=aWi h0' h1'
        simp only [e,h0,h1,h0',h1',decide_true,decide_false,QT,QD,if_false,QM,e1,e2,QA]
        rw [nK (by simp only [QQ]; omega)]
        simp only [QA]
        rw [dI h (by omega),ih _ (by simp only [QJ,QQ]; omega)]
        simp only [QL,WE,WR]
structure aPn (N R:Nat) (p:aP):Prop where
  t3:p.tables.length≤3
  RN:R ^ p.tables.length≤N
  on:p.on_.length≤1048576
  on1:∀ l∈p.on_,l.length≤1048576
  wh:p.where_.length≤1048576
  ord:p.order.length≤1048576
  it:p.items.length≤1048576
structure DbB (R:Nat) (d:GDb):Prop where
  R1:1≤R
  rows:∀ t∈d.tables,t.rows.length≤R
  row:∀ t∈d.tables,∀ r∈t.rows,fM 1 r
theorem bJ3 {α β γ δ:Type} (f:α→β) (g:β→γ→δ):∀ (A:List α) (B:List γ),QP g (A.map f) B=QP (fun a b=>g (f a) b) A B
  | [],B=>by simp
  | a::A,[]=>by simp
  | a::A,b::B=>by simp only [QL,WZ,bJ3 f g A B]
theorem aMt {d:GDb} {l:List Int} (h:nP d l=true) {t:Rows} (ht:t∈l.map (rowsOf d)):∃ x∈d.tables,x.rows=t:=by
  obtain ⟨i,hi,rfl⟩:=WN.1 ht
  have:=List.all_eq_true.1 h i hi
  simp only [QK,decide_eq_true_eq] at this
  obtain ⟨x,_,h2,h3⟩:=aWi this.1 this.2
  exact ⟨x,h3,h2⟩
theorem bJe {N R:Nat} (hS:aB9 N) (hN:N≤1048576) {c:aQ} {d:GDb} (hd:DbB R d) {env:Rows} {ev:aJ→Gf} {p:aP} (hp:aPn N R p)
    (H:∀ e∈fP p,∀ r,fM 3 r→nM r c d env e=some (ev e r)):xX c d env p=some (kS d ev p):=by
  rw [xX]
  unfold kS
  simp only [QB,QA,orB]
  by_cases h0:p.tables.length=0
  · simp [h0]
  by_cases h1:p.on_.length=p.tables.length
  case neg =>
    have:¬ (p.on_.length:Int)=(p.tables.length:Int):=by omega
    simp [h1,this]
  have e0:¬ (p.tables.length:Int)=0:=by omega
  have e1:(p.on_.length:Int)=(p.tables.length:Int):=by omega
  have t3:=hp.t3
  have k:=bUa (c:=c) (d:=d) (env:=env) (p:=p) (by omega) 0 (by omega) [] (by simp)
  rw [show ((0:Nat):Int)=0 from rfl,WG,QN] at k
  simp only [e0,e1,decide_false,decide_true,QF,XK,QD,if_false,k,h0,h1,ne_eq,not_true_eq_false,or_self,false_or]
  by_cases h2:nP d p.tables=true
  case neg=>simp [h2]
  rw [if_pos h2,if_neg (by simp [h2])]
  have k1:=bM8 (c:=c) (d:=d) (env:=env) (p:=p) (b0:=p.tables.map (rowsOf d)) hp.on hp.on1 hp.wh hp.ord hp.it 0 (by omega) [] (by simp)
  rw [show ((0:Nat):Int)=0 from rfl,WG,QN] at k1
  rw [k1]
  have r:=bOu (c:=c) (d:=d) (env:=env) (ev:=ev) hS (x:=eT.mk (p.tables.map (rowsOf d)) (p.on_.map fun l=>l.map (bU.mk c d env)) (p.where_.map (bU.mk c d env)) (p.order.map (Sb c d env)) ⟨p.items.map (bU.mk c d env)⟩ p.distinct p.limit)
    (l:=p.on_) (w:=p.where_) (it:=p.items) (ks:=p.order) (R:=R) hN hd.R1 rfl rfl rfl rfl (by simpa using h1) hp.on1 hp.wh hp.ord hp.it (by simpa using t3)
    (fun t ht=>by obtain ⟨x,hx,rfl⟩:=aMt h2 ht; exact hd.rows x hx) (by simpa using hp.RN) (fun t ht=>by obtain ⟨x,hx,rfl⟩:=aMt h2 ht; exact hd.row x hx)
    (fun e he=>H e (by
      unfold fP
      rcases he with he | ⟨y,hy,he⟩ | ⟨k,hk,rfl⟩ | he
      · simp [he]
      · simp only [QO,WX]
        exact .inl (.inl (.inl ⟨y,hy,he⟩))
      · simp only [QO,WX]
        exact .inl (.inr ⟨k,hk,by simp⟩)
      · simp [he]))
  rw [r]
  dsimp only
  rw [bJ3]
  rfl
end Go.Ab
