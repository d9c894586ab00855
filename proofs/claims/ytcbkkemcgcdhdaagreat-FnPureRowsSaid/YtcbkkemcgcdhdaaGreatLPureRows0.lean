/- What the functions compute,in plain Lean. -/
import Derived.Test.YtcbkkemcgcdhdaaGreatFPureRows
namespace Go.Ab
open Go
open _root_.Option renaming bind_some→QA,bind_eq_bind→QB,some.injEq→QH,bind_assoc→WS
open Go.IntKind renaming wrap→QC,bits→WR,wrap_i64→YE
open _root_.Bool renaming false_eq_true→QD,not_true→QF,and_eq_true→QI,and_assoc→QJ,true_and→QM,eq_iff_iff→QO,not_false→QP,and_true→QV,false_or→QW,or_false→QX,false_and→QZ,and_false→WA,true_or→WB,or_true→WC,and_self→WF,not_eq_true'→WP
open _root_.List renaming getElem_mem→QE,drop_eq_getElem_cons→QG,map_cons→QK,length_cons→QL,length_append→QN,getElem?_eq_getElem→QQ,mem_append→QR,nil_append→QS,zipWith→QT,length_pos_of_mem→QY,length_nil→WD,mem_map→WE,flatMap_cons→WG,sum_cons→WH,length_map→WI,length_singleton→WJ,replicate→WK,append_assoc→WL,mem_cons_of_mem→WM,drop_zero→WN,mem_cons→WQ,length→WT,map_map→WU,drop_length→WV,all_cons→WX,append_nil→WY,zipWith_cons_cons→WZ,length_take→XB,mem_flatMap→XC,map_append→XD,nil_sublist→XF,singleton_append→XG,eq_nil_of_length_eq_zero→XK,getElem_of_mem→XL,sum_append→XM,map_nil→XN,sum_nil→XO,length_reverse→XP,all_eq_true→XQ,reverse_perm→XR,map_reverse→XS,map_id→XT,getElem_map→XU,zipWith_nil_left→XV
open _root_.Nat renaming le_trans→QU,lt_irrefl→WO,le_refl→XA,mul_le_mul_right→XI,succ_mul→XJ,zero_le→XZ,one_mul→YA,mul_le_mul→YB,pow_succ→YC,pow_le_pow_right→YD
open _root_.Prod renaming snd→WW
open _root_.Int renaming tdiv_one→XH,mul_comm→XW,natAbs_tmod→XX,tdiv_neg→XY
theorem dY {n:Int} (h1 : -9223372036854775808≤n) (h2:n≤9223372036854775807):QC .i64 n=n:=by rw [YE]; omega
theorem dJ {i n:Nat} (h:i<n) (hn:n≤4611686018427387904):QC .i64 ((i:Int)+1)=((i+1:Nat):Int):=by rw [dY] <;> omega
theorem dD (i n:Nat):decide ((i:Int)<(n:Int))=decide (i<n):=by simp
theorem aT9 {α:Type} (l:List α) (i:Nat):idx l (i:Int)=l[i]?:=by simp [idx]
theorem bH {α:Type} {l:List α} {i:Nat} (h:i<l.length):idx l (i:Int)=some l[i]:=by rw [aT9]; simp [h]
theorem eH {M:Nat→Prop} {n:Nat} (h0:M n) (h:∀ i,i<n→M (i+1)→M i):∀ i,i≤n→M i:=by
  have:∀ k i,i+k=n→M i:=by
    intro k
    induction k with
    | zero => intro i hi; have : i = n := by omega
              subst this; exact h0
    | succ k ih=>intro i hi; exact h i (by omega) (ih (i+1) (by omega))
  exact fun i hi=>this (n - i) i (by omega)
theorem bLw {α:Type} {by':Nat} {n:Nat} {z:α} (h:(n:Int) * by'≤140737488355328):mkG by' (n:Int) z=some (WK n z):=by
  unfold mkG; rw [if_pos ⟨by omega,h⟩]; simp
def zL {α:Type} (z:α→Nat) (l:List α):Nat:=l.length+(l.map z).sum
def z0 {α:Type} (_:α):Nat:=0
theorem aKu {α:Type} (z:α→Nat) (x:α) (l:List α):((x::l).map z).sum=z x+(l.map z).sum:=by simp
theorem aQl {α:Type} {z:α→Nat}:∀ {p:List α} {y:α},y∈p→z y≤(p.map z).sum
  | x::p,y,h=>by
    rw [aKu]
    rcases WQ.1 h with rfl | h
    · omega
    · have:=aQl (z:=z) h; omega
def zTb (l:List Int):Nat:=1000000000 * (l.length - 2)
instance (n:Int):Decidable (okI n):=inferInstanceAs (Decidable (_∧_))
def zN (n:Int):Nat:=if okI n then 0 else 1000000000
theorem zN0 {n:Int} (h:okI n):zN n=0:=if_pos h
def yL:aA→Nat
  | ⟨_,a1,a2⟩=>a2.length+zN a1
mutual
def Y2:dV→Nat
  | ⟨a0,a1⟩=>bJ a0
def eX:aQ→Nat
  | ⟨a0,a1,a2,a3,a4,a5,a6,a7⟩=>zTb a0+(zL z0) a0+(a1.length+aHd a1)+(a2.length+C8 a2)+(a3.length+aDz a3)+(a4.length+C8 a4)+(zL WT) a5
def bJ:aJ→Nat
  | ⟨a0,a1,a2,a3,a4,a5,a6,a7⟩=>yL a3+(a6.length+C8 a6)+(a7.length+aM2 a7)
def aM2:List aQ→Nat
  | []=>0
  | x::l=>eX x+aM2 l
def C8:List aJ→Nat
  | []=>0
  | x::l=>bJ x+C8 l
def aDz:List dV→Nat
  | []=>0
  | x::l=>Y2 x+aDz l
def aHd:List (List aJ)→Nat
  | []=>0
  | x::l=>(x.length+C8 x)+aHd l
end
theorem aVu:∀ l:List aQ,aM2 l=(l.map eX).sum
  | []=>by simp [aM2]
  | x::l=>by rw [aKu,← aVu l]; simp only [aM2]
theorem aCl:∀ l:List aJ,C8 l=(l.map bJ).sum
  | []=>by simp [C8]
  | x::l=>by rw [aKu,← aCl l]; simp only [C8]
theorem aPf:∀ l:List dV,aDz l=(l.map Y2).sum
  | []=>by simp [aDz]
  | x::l=>by rw [aKu,← aPf l]; simp only [aDz]
theorem aQh:∀ l:List (List aJ),aHd l=(l.map (zL bJ)).sum
  | []=>by simp [aHd]
  | x::l=>by rw [aKu,← aQh l]; simp only [aHd,zL,aCl]
theorem nL {α:Type} {b:Nat} {l m:List α} (h:(l.length+m.length) * b≤140737488355328):appG b l m=some (l++m):=by unfold appG; rw [if_pos h]
theorem gather {α β γ:Type} {p:List α} {f:α→List β} {G:α→List β→Option (List β)} {L:List β→Int→Option γ} {K:List β→Option γ} {c:Nat} (hp:p.length≤4194304)
    (hG:∀ y∈p,∀ acc:List β,acc.length+(f y).length≤c→G y acc=some (acc++f y))
    (hL:∀ (i:Nat) acc,L acc (i:Int)=if (decide ((i:Int)<(p.length:Int)))=true then ((idx p (i:Int))>>=fun y=>(G y acc)>>=fun z=>L z (QC .i64 ((i:Int)+1))) else K acc) :
    ∀ acc:List β,acc.length+(p.flatMap f).length≤c→L acc 0=K (acc++p.flatMap f):=by
  have key:∀ i,i≤p.length→∀ acc:List β,acc.length+((p.drop i).flatMap f).length≤c→L acc (i:Nat)=K (acc++(p.drop i).flatMap f):=by
    refine eH ?_ ?_
    · intro acc _
      rw [hL]; simp
    · intro i hi ih acc ha
      rw [QG hi,WG,QN] at ha
      rw [hL,bH hi,dJ hi (by omega)]
      simp only [dD,hi,decide_true,if_true,QB,QA,hG _ (QE hi) acc (by omega)]
      rw [ih _ (by rw [QN]; omega),QG hi,WG,WL]
  intro acc ha
  simpa using key 0 (by omega) acc (by simpa using ha)
theorem folded {α β γ:Type} {p:List α} {g:α→β→Option β} {h:α→β→β} {L:β→Int→Option γ} {K:β→Option γ} (hp:p.length≤1048576)
    (hg:∀ y∈p,∀ b,g y b=some (h y b))
    (hL:∀ (i:Nat) b,L b (i:Int)=if (decide ((i:Int)<(p.length:Int)))=true then ((idx p (i:Int))>>=fun y=>(g y b)>>=fun z=>L z (QC .i64 ((i:Int)+1))) else K b) :
    ∀ b,L b 0=K (p.foldl (fun b y=>h y b) b):=by
  have key:∀ i,i≤p.length→∀ b,L b (i:Nat)=K ((p.drop i).foldl (fun b y=>h y b) b):=by
    refine eH ?_ ?_
    · intro b; rw [hL]; simp
    · intro i hi ih b
      rw [hL,bH hi,dJ hi (by omega)]
      simp only [dD,hi,decide_true,if_true,QB,QA,hg _ (QE hi)]
      rw [ih,QG hi,List.foldl_cons]
  intro b
  simpa using key 0 (by omega) b
theorem L8 {α:Type} {z:α→Nat} {l:List α} {x:α} (h:x∈l):z x+l.length≤zL z l:=by
  have:=aQl (z:=z) h
  unfold zL; omega
theorem aEl (x:aJ):bJ x=yL x.value+zL bJ x.kids+zL eX x.sub:=by
  obtain ⟨a0,a1,a2,⟨b0,b1,b2⟩,a4,a5,a6,a7⟩:=x
  simp only [bJ,yL,aCl,aVu,zL]
theorem aAh (q:aQ):eX q=zTb q.tables+zL z0 q.tables+zL (zL bJ) q.on_+zL bJ q.where_+(q.order.length+(q.order.map fun k=>bJ k.expr).sum)+zL bJ q.items+zL WT q.names:=by
  obtain ⟨a0,a1,a2,a3,a4,a5,a6,a7⟩:=q
  simp only [eX,aCl,aPf,aQh,zL]
  have:(a3.map Y2)=a3.map fun k=>bJ k.expr:=List.map_congr_left fun k _=>by obtain ⟨k0,k1⟩:=k; simp only [Y2]
  rw [this]
theorem wI {α:Type} {z:α→Nat} (l:List α):l.length≤zL z l:=by unfold zL; omega
theorem aKn {x k:aJ} (h:k∈x.kids):bJ k+x.kids.length≤bJ x:=by have:=aEl x; have:=L8 (z:=bJ) h; omega
theorem aM0 {x:aJ} {p:aQ} (h:p∈x.sub):eX p+x.sub.length≤bJ x:=by have:=aEl x; have:=L8 (z:=eX) h; omega
theorem bB7 (x:aJ):x.kids.length+x.sub.length≤bJ x:=by have:=aEl x; have:=wI (z:=bJ) x.kids; have:=wI (z:=eX) x.sub; omega
theorem onZ {q:aQ} {l:List aJ} {e:aJ} (h:l∈q.on_) (he:e∈l):bJ e+l.length+q.on_.length≤eX q:=by have:=aAh q; have:=L8 (z:=zL bJ) h; have:=L8 (z:=bJ) he; omega
theorem bGz {q:aQ} {e:aJ} (h:e∈q.where_):bJ e+q.where_.length≤eX q:=by have:=aAh q; have:=L8 (z:=bJ) h; omega
theorem bHw {q:aQ} {e:aJ} (h:e∈q.items):bJ e+q.items.length≤eX q:=by have:=aAh q; have:=L8 (z:=bJ) h; omega
theorem bMb {q:aQ} {k:dV} (h:k∈q.order):bJ k.expr+q.order.length≤eX q:=by have:=aAh q; have:=aQl (z:=fun k:dV=>bJ k.expr) h; omega
theorem aR9 (q:aQ):q.tables.length+q.on_.length+q.where_.length+q.order.length+q.items.length+q.names.length≤eX q:=by
  have:=aAh q; have:=wI (z:=z0) q.tables; have:=wI (z:=zL bJ) q.on_; have:=wI (z:=bJ) q.where_; have:=wI (z:=bJ) q.items; have:=wI (z:=WT) q.names; omega
theorem aRw (s:List UInt8):∃ b,pV s=some b∧qZ s=some b:=by
  unfold qZ pV fM
  exact ⟨_,rfl,rfl⟩
theorem bZ7 (s:List UInt8):∃ b,zM s=some b:=by
  obtain ⟨b,h1,h2⟩:=aRw s
  unfold zM
  by_cases h:s=[]
  · exact ⟨true,by simp [h]⟩
  · exact ⟨b,by simp [h,h1]⟩
theorem bG3 (x:aA):qP x=kU x∧∃ b,kU x=some b:=by
  unfold qP kU fM
  simp only [QB,QA]
  by_cases h0:x.kind=0
  · simp [h0]
  by_cases h1:x.kind=1
  · simp [h1]
  by_cases h2:x.kind=2
  · simp [h2]
  by_cases h3:x.kind=3
  · by_cases n0:x.num=0
    · simp [h3,n0]
    by_cases n1:x.num=1
    · simp [h3,n1]
    have e:(if decide (0≤x.num)=true then decide (x.num≤1) else false)=false:=by
      by_cases p:0≤x.num
      · simp [p]; omega
      · simp [p]
    rw [e]
    simp [h3,n0,n1]
  · simp [h0,h1,h2,h3]
theorem bI1 (x:aA):∃ b,U0 x=some b∧aCo x=some b:=by
  obtain ⟨h1,b,h2⟩:=bG3 x
  unfold U0 aCo
  rw [h1,h2]
  cases b <;> simp
theorem orB (b c:Bool):(if b=true then true else c)=(b||c):=by cases b <;> rfl
theorem uV (b c:Bool):(if b=true then c else false)=(b&&c):=by cases b <;> rfl
theorem cI8 (b c:Bool):(if b=true then (!c) else false)=(b&&!c):=by cases b <;> rfl
def zvE (x:eT):Bool:=((decide (x.value.kind=0))&&((decide (x.value.num=0))&&((decide (x.value.text=[]))&&true)))
theorem bU3 (x:eT):aAy x=(if ((!decide (x.kind=2)&&(!decide (x.qual=[])||!decide (x.name=[])))||(!decide (x.kind=1)&&!zvE x))=true then some false else
    if ((!decide (x.kind=3)&&!decide (x.kind=4))&&!decide (x.op=0)||(x.not_&&!(decide (5≤x.kind)&&decide (x.kind≤8))))=true then some false else
    (if (decide (x.kind=1))=true then ((U0 x.value)>>=fun (y10:Bool)=>some (y10&&decide ((QC .i64 ((x.kids.length:Int)+(x.sub.length:Int)))=0)))
     else if (decide (x.kind=2))=true then ((pV x.name)>>=fun (y12:Bool)=>(if y12=true then zM x.qual else some false)>>=fun (y14:Bool)=>some (y14&&decide ((QC .i64 ((x.kids.length:Int)+(x.sub.length:Int)))=0)))
     else some (if x.kind=3 then (decide (x.op=15)||decide (x.op=16))&&decide ((x.kids.length:Int)=1)&&decide ((x.sub.length:Int)=0)
      else if x.kind=4 then (decide (1≤x.op)&&decide (x.op≤14))&&decide ((x.kids.length:Int)=2)&&decide ((x.sub.length:Int)=0)
      else if x.kind=5 then decide ((x.kids.length:Int)=1)&&decide ((x.sub.length:Int)=0)
      else if x.kind=6 then decide ((x.kids.length:Int)=3)&&decide ((x.sub.length:Int)=0)
      else if x.kind=7 then (decide (2≤(x.kids.length:Int))&&decide ((x.kids.length:Int)≤9))&&decide ((x.sub.length:Int)=0)
      else if x.kind=8 then decide ((x.kids.length:Int)=1)&&decide ((x.sub.length:Int)=1)
      else if x.kind=9 then decide ((x.kids.length:Int)=0)&&decide ((x.sub.length:Int)=1)
      else false))):=by
  unfold aAy fM
  simp only [QB]
  simp only [QA]
  simp only [uV,orB]
  obtain ⟨k,o,no,v,q,nm,ks,sb⟩:=x
  obtain ⟨bl,l1,l2⟩:=bI1 v
  obtain ⟨bn,n1,n2⟩:=aRw nm
  obtain ⟨bq,q1⟩:=bZ7 q
  have hz:zvE ⟨k,o,no,v,q,nm,ks,sb⟩=((decide (v.kind=0))&&((decide (v.num=0))&&((decide (v.text=[]))&&true))):=rfl
  simp only [l1,n1,q1,hz,QA]
  generalize ((decide (v.kind=0))&&((decide (v.num=0))&&((decide (v.text=[]))&&true)))=zv
  generalize decide (q=[])=q0
  generalize decide (nm=[])=n0
  by_cases k1:k=1
  · subst k1; cases q0 <;> cases n0 <;> cases no <;> by_cases o0:o=0 <;> cases bl <;> simp [o0]
  by_cases k2:k=2
  · subst k2; cases zv <;> cases no <;> by_cases o0:o=0 <;> cases bn <;> simp [o0]
  by_cases k3:k=3
  · subst k3; cases q0 <;> cases n0 <;> cases zv <;> cases no <;> simp
  by_cases k4:k=4
  · subst k4; cases q0 <;> cases n0 <;> cases zv <;> cases no <;> simp
  have kk:¬ (k=3∨k=4):=by omega
  by_cases k5:k=5
  · subst k5; cases q0 <;> cases n0 <;> cases zv <;> cases no <;> by_cases o0:o=0 <;> simp [o0]
  by_cases k6:k=6
  · subst k6; cases q0 <;> cases n0 <;> cases zv <;> cases no <;> by_cases o0:o=0 <;> simp [o0]
  by_cases k7:k=7
  · subst k7; cases q0 <;> cases n0 <;> cases zv <;> cases no <;> by_cases o0:o=0 <;> simp [o0]
  by_cases k8:k=8
  · subst k8; cases q0 <;> cases n0 <;> cases zv <;> cases no <;> by_cases o0:o=0 <;> simp [o0]
  by_cases k9:k=9
  · subst k9; cases q0 <;> cases n0 <;> cases zv <;> cases no <;> by_cases o0:o=0 <;> simp [o0]
  have kr:(decide (5≤k)&&decide (k≤8))=false:=by
    by_cases h:5≤k
    · have:¬ k≤8:=by omega
      simp [this]
    · simp [h]
  cases q0 <;> cases n0 <;> cases zv <;> cases no <;> by_cases o0:o=0 <;> simp [o0,k1,k2,k3,k4,k5,k6,k7,k8,k9]
theorem bSv (x:eT) (bl bc:Bool) (h1:aCo x.value=some bl) (h2:(pV x.name>>=fun (y12:Bool)=>(if y12=true then zM x.qual else some false))=some bc):K4 x=some (
    if x.kind=1 then (⟨false,false,true,false,0,0,0⟩,bl)
    else if x.kind=2 then (⟨false,false,false,true,0,0,0⟩,bc)
    else if x.kind=3 then (⟨true,false,false,false,1,1,0⟩,decide (x.op=15)||decide (x.op=16))
    else if x.kind=4 then (⟨true,false,false,false,2,2,0⟩,decide (1≤x.op)&&decide (x.op≤14))
    else if x.kind=5 then (⟨false,true,false,false,1,1,0⟩,true)
    else if x.kind=6 then (⟨false,true,false,false,3,3,0⟩,true)
    else if x.kind=7 then (⟨false,true,false,false,2,9,0⟩,true)
    else if x.kind=8 then (⟨false,true,false,false,1,1,1⟩,true)
    else if x.kind=9 then (⟨false,false,false,false,0,0,1⟩,true)
    else (⟨false,false,false,false,0,0,0⟩,false)):=by
  obtain ⟨k,o,no,v,q,nm,ks,sb⟩:=x
  obtain ⟨bn,n1,n2⟩:=aRw nm
  obtain ⟨bo,o1,o2⟩:=aRw q
  unfold K4
  dsimp only at h1 h2 ⊢
  have h3:((if ((true&&(bn==true))&&((decide (q=[]))==false))=true then qZ q else some default).bind fun (y3:Bool)=>(if (true&&(bn==true))=true then some (if (decide (q=[]))=true then true else y3) else some default).bind fun (y4:Bool)=>(some (if bn=true then y4 else false)).bind fun y5=>some ((lF.mk false false false true 0 0 0),y5))=some ((lF.mk false false false true 0 0 0),bc):=by
    unfold zM at h2
    rw [n1,o1] at h2
    rw [o2]
    cases bn
    · simp at h2; simp [h2]
    · by_cases q0:q=[]
      · simp [q0] at h2; simp [q0,h2]
      · simp [q0] at h2; simp [q0,h2]
  simp only [h1,n2,QB,QA]
  by_cases k1:k=1
  · simp [k1]
  by_cases k2:k=2
  · subst k2; simp only [QA] at h3; simpa using h3
  by_cases k3:k=3
  · simp [k3]
  by_cases k4:k=4
  · simp [k4]
  by_cases k5:k=5
  · simp [k5]
  by_cases k6:k=6
  · simp [k6]
  by_cases k7:k=7
  · simp [k7]
  by_cases k8:k=8
  · simp [k8]
  by_cases k9:k=9
  · simp [k9]
  simp [k1,k2,k3,k4,k5,k6,k7,k8,k9]
theorem bLv:aGm=aA1:=by
  funext p q
  unfold aGm aA1 aJd zI fM
  rfl
def okT (p:Int):Prop:=0≤p∧p≤3
theorem aR3 {p:Int} (h:okT p):zI p=some true:=by
  unfold zI fM
  have h1:=h.1
  have h2:=h.2
  simp [h1,h2]
theorem bN4 {p q:Int} (hp:okT p) (hq:okT q):∃ r,aA1 p q=some r∧okT r.1:=by
  unfold aA1
  rw [aR3 hp,aR3 hq]
  simp only [QF,beq_self_eq_true,WF,if_true,QD,if_false,QB,QA]
  have h0:okT 0:=⟨by omega,by omega⟩
  by_cases p0:p=0
  · exact ⟨(q,true),by simp [p0],hq⟩
  · by_cases q0:q=0∨p=q
    · refine ⟨(p,true),?_,hp⟩
      rcases q0 with h | h <;> simp [p0,h]
    · have a1:¬ q=0:=fun h=>q0 (.inl h)
      have a2:¬ p=q:=fun h=>q0 (.inr h)
      exact ⟨(0,false),by simp [p0,a1,a2],h0⟩
theorem aWi:aDr=aAm:=rfl
theorem aR0 (p:Int):∃ b,aAm p=some b:=⟨_,rfl⟩
theorem bEc (p q:Int):aBe p q=some (decide (p=0)||decide (p=q)):=by
  unfold aBe
  by_cases h:p=0 <;> simp [h]
theorem bLb (a p q:Int):aD9 a p q=some ((decide (p=0)||decide (p=a))&&(decide (q=0)||decide (q=a))):=by
  unfold aD9
  by_cases h1:p=a <;> by_cases h2:p=0 <;> by_cases h3:q=a <;> by_cases h4:q=0 <;> simp [h1,h2,h3,h4]
theorem bNd (o p q:Int) (hp:okT p) (hq:okT q):∃ r,aJ1 o p q=some r∧aJ9 o p q=some r∧okT r.1:=by
  have h0:okT 0:=⟨by omega,by omega⟩
  have h3:okT 3:=⟨by omega,by omega⟩
  have h2:okT 2:=⟨by omega,by omega⟩
  have h1:okT 1:=⟨by omega,by omega⟩
  obtain ⟨m,m1,m2⟩:=bN4 hp hq
  obtain ⟨t1,e1⟩:=aR0 p
  obtain ⟨t2,e2⟩:=aR0 q
  unfold aJ1 aJ9 L9 aLs sV fM
  simp only [bLv,aWi,m1,e1,e2,aR3 hp,aR3 hq,bEc,bLb,QB,QA]
  by_cases a:1≤o
  · by_cases b:o≤14
    · have c1:¬ o<1:=by omega
      have c2:¬ 14<o:=by omega
      by_cases d:o≤2
      · cases t1 <;> cases t2
        · exact ⟨(0,false),by simp [c1,c2,d],by simp [a,b,d],h0⟩
        · exact ⟨(0,false),by simp [c1,c2,d],by simp [a,b,d],h0⟩
        · exact ⟨(0,false),by simp [c1,c2,d],by simp [a,b,d],h0⟩
        · exact ⟨(3,true),by simp [c1,c2,d],by simp [a,b,d],h3⟩
      by_cases d2:o≤8
      · cases hm:m.2
        · exact ⟨(0,false),by simp [c1,c2,d,d2,hm],by simp [a,b,d,d2,hm],h0⟩
        · exact ⟨(3,true),by simp [c1,c2,d,d2,hm],by simp [a,b,d,d2,hm],h3⟩
      by_cases d3:o=9
      · subst d3
        generalize (decide (p=0)||decide (p=2))=b1
        generalize (decide (q=0)||decide (q=2))=b2
        cases b1 <;> cases b2
        · exact ⟨(0,false),by simp,by simp,h0⟩
        · exact ⟨(0,false),by simp,by simp,h0⟩
        · exact ⟨(0,false),by simp,by simp,h0⟩
        · exact ⟨(2,true),by simp,by simp,h2⟩
      · generalize (decide (p=0)||decide (p=1))=b1
        generalize (decide (q=0)||decide (q=1))=b2
        cases b1 <;> cases b2
        · exact ⟨(0,false),by simp [c1,c2,d,d2,d3],by simp [a,b,d,d2,d3],h0⟩
        · exact ⟨(0,false),by simp [c1,c2,d,d2,d3],by simp [a,b,d,d2,d3],h0⟩
        · exact ⟨(0,false),by simp [c1,c2,d,d2,d3],by simp [a,b,d,d2,d3],h0⟩
        · exact ⟨(1,true),by simp [c1,c2,d,d2,d3],by simp [a,b,d,d2,d3],h1⟩
    · have c2:14<o:=by omega
      exact ⟨(0,false),by simp [c2],by simp [b],h0⟩
  · have c1:o<1:=by omega
    exact ⟨(0,false),by simp [c1],by simp [a],h0⟩
theorem bUy (o p:Int):∃ r,aHy o p=some r∧aJx o p=some r∧okT r.1:=by
  have h0:okT 0:=⟨by omega,by omega⟩
  have h3:okT 3:=⟨by omega,by omega⟩
  have h1:okT 1:=⟨by omega,by omega⟩
  obtain ⟨t1,e1⟩:=aR0 p
  unfold aHy aJx sV
  simp only [aWi,e1,bEc,bLb,QB,QA]
  by_cases a:o=15
  · subst a
    cases t1
    · exact ⟨(0,false),by simp,by simp,h0⟩
    · exact ⟨(3,true),by simp,by simp,h3⟩
  by_cases b:o=16
  · subst b
    generalize (decide (p=0)||decide (p=1))=b1
    cases b1
    · exact ⟨(0,false),by simp,by simp,h0⟩
    · exact ⟨(1,true),by simp,by simp,h1⟩
  · exact ⟨(0,false),by simp [a,b],by simp [a,b],h0⟩
theorem cFj (l:List Int) (hl:l.length≤1048576) (h:∀ p∈l,okT p):∃ r,aIv l=some r∧M4 l=some r.2:=by
  have key:∀ i,i≤l.length→∀ x,okT x→∃ r,U9 l x (i:Nat)=some r∧F4 l x (i:Nat)=some r.2:=by
    refine eH ?_ ?_
    · intro x hx
      rw [U9,F4]
      exact ⟨(x,true),by simp,by simp⟩
    · intro i hi ih x hx
      rw [U9,F4]
      obtain ⟨m,m1,m2⟩:=bN4 hx (h _ (QE hi))
      simp only [dD,hi,decide_true,if_true,bH hi,dJ hi (by omega),bLv,m1,QB,QA]
      cases hm:m.2
      · exact ⟨(0,false),by simp,by simp⟩
      · simpa using ih m.1 m2
  unfold aIv M4
  exact key 0 (by omega) 0 ⟨by omega,by omega⟩
theorem cAx {v:aA} (h:U0 v=some true):okT v.kind:=by
  unfold U0 at h
  have hv:kU v=some true:=by
    obtain ⟨_,b,e2⟩:=bG3 v
    rw [e2] at h ⊢
    cases b with
    | true=>rfl
    | false=>simp at h
  unfold kU at hv
  unfold okT
  by_cases k0:v.kind=0
  · omega
  by_cases k1:v.kind=1
  · omega
  by_cases k2:v.kind=2
  · omega
  by_cases k3:v.kind=3
  · omega
  simp [k0,k1,k2,k3] at hv
def bH3 (p:aJ):Prop:=(p.kind=1∧p.kids.length=0∧p.sub.length=0∧okT p.value.kind)∨(p.kind=2∧p.kids.length=0∧p.sub.length=0)∨(p.kind=3∧p.kids.length=1∧p.sub.length=0)∨(p.kind=4∧p.kids.length=2∧p.sub.length=0) ∨
  (p.kind=5∧p.kids.length=1∧p.sub.length=0)∨(p.kind=6∧p.kids.length=3∧p.sub.length=0)∨(p.kind=7∧(2≤p.kids.length∧p.kids.length≤9)∧p.sub.length=0)∨(p.kind=8∧p.kids.length=1∧p.sub.length=1)∨(p.kind=9∧p.kids.length=0∧p.sub.length=1)
theorem bG5 {β:Type} {b:Bool} {m:Option Bool} {K:Bool→Option β}:((if (true&&(b==true))=true then m else some (default:Bool)).bind fun y=>(some (if b=true then y else false)).bind K)=((if b=true then m else some false).bind K):=by cases b <;> cases m <;> rfl
theorem bE9 (b c:Bool):(if b=true then some c else some false)=some (b&&c):=by cases b <;> rfl
theorem cKc {β:Type} {b n u:Bool} {K:Bool→Option β}:((if ((true&&(b==true))&&(n==false))=true then some u else some (default:Bool)).bind fun y8=>(if (true&&(b==true))=true then some (if n=true then true else y8) else some (default:Bool)).bind fun y9=>(some (if b=true then y9 else false)).bind K)=K (b&&(n||u)):=by cases b <;> cases n <;> rfl
theorem or3 {β:Type} {b n u:Bool} {K:Bool→Option β}:((if ((true&&(b==true))&&(n==false))=true then some u else some (default:Bool)).bind fun y8=>K (b&&(n||y8)))=K (b&&(n||u)):=by cases b <;> cases n <;> rfl
theorem bYp (p:aJ) (f:lF) (ok:Bool) (h:K4 (eT.mk p.kind p.op false p.value [] [120] [] [])=some (f,ok)):aHe p=some (ok&&(f.op||decide (p.op=0))&&(f.not_||!p.not_)&&(f.value||((decide (p.value.kind=0))&&((decide (p.value.num=0))&&((decide (p.value.text=[]))&&true))))&&(f.name||(decide (p.up=0)&&decide (p.at_=0)))&&decide (f.least≤(p.kids.length:Int))&&decide ((p.kids.length:Int)≤f.most)&&decide ((p.sub.length:Int)=f.subs)):=by
  rw [aHe,h]
  simp only [QB]
  rw [show ∀ K:lF×Bool→Option Bool,(some (f,ok)).bind K=K (f,ok) from fun _=>rfl]
  simp only [bG5,cKc]
  simp only [bE9,QA,uV,orB]
  exact or3 (K:=fun z=>some (z&&decide (f.least≤(p.kids.length:Int))&&decide ((p.kids.length:Int)≤f.most)&&decide ((p.sub.length:Int)=f.subs)))
theorem bQi (p:aJ) (hk:p.kids.length≤1048576) (hs:p.sub.length≤1048576):∃ b,aGs p=some b∧aHe p=some b∧(b=true→bH3 p):=by
  obtain ⟨bl,l1,l2⟩:=bI1 p.value
  have hlk:bl=true→okT p.value.kind:=fun h=>cAx (by rw [l1,h])
  have e1:mkG 136 (p.kids.length:Int) (eT.mk 0 0 false (aA.mk 0 0 []) [] [] [] [])=some (WK p.kids.length (eT.mk 0 0 false (aA.mk 0 0 []) [] [] [] [])):=bLw (by omega)
  have e2:mkG 112 (p.sub.length:Int) (jK.mk false [] [] [] [] 0)=some (WK p.sub.length (jK.mk false [] [] [] [] 0)):=bLw (by omega)
  have hw:QC .i64 ((p.kids.length:Int)+(p.sub.length:Int))=(p.kids.length:Int)+(p.sub.length:Int):=dY (by omega) (by omega)
  have hF:=bSv (eT.mk p.kind p.op false p.value [] [120] [] []) bl true l2 rfl
  obtain ⟨⟨f,ok⟩,hfo⟩:∃ r,K4 (eT.mk p.kind p.op false p.value [] [120] [] [])=some r:=⟨_,hF⟩
  rw [bYp p f ok hfo]
  rw [hfo] at hF
  have n97:pV [97]=some true:=rfl
  have m0:zM []=some true:=rfl
  have hS:aGs p=if (!decide (p.kind=2)&&(!decide (p.up=0)||!decide (p.at_=0)))=true then some false else (if decide (p.kind=2)=true then aAy (eT.mk p.kind p.op p.not_ p.value [] [97] (WK p.kids.length (eT.mk 0 0 false (aA.mk 0 0 []) [] [] [] [])) (WK p.sub.length (jK.mk false [] [] [] [] 0))) else aAy (eT.mk p.kind p.op p.not_ p.value [] [] (WK p.kids.length (eT.mk 0 0 false (aA.mk 0 0 []) [] [] [] [])) (WK p.sub.length (jK.mk false [] [] [] [] 0)))):=by
    unfold aGs aLz
    simp only [QB]
    simp only [bG5]
    simp only [e1,e2,bE9,QA,Option.bind_fun_some,uV,orB]
  rw [hS]
  unfold bH3
  simp only [bU3,zvE,List.length_replicate,hw,l1,n97,m0]
  obtain ⟨k,o,no,v,up,at_,ks,sb⟩:=p
  dsimp only at hk hs hF hlk ⊢
  generalize ((decide (v.kind=0))&&((decide (v.num=0))&&((decide (v.text=[]))&&true)))=zv
  have fin:∀ (a b:Bool) (P:Prop),a=b→(b=true→P)→∃ c,(some a:Option Bool)=some c∧(some b:Option Bool)=some c∧(c=true→P):=by
    rintro a b P rfl h; exact ⟨a,rfl,rfl,h⟩
  have hif:∀ (a b:Bool) (X:Bool),(if a=true then some false else if b=true then some false else some X)=some (!a&&(!b&&X)):=by intro a b X; cases a <;> cases b <;> rfl
  have hif1:∀ (a:Bool) (X:Bool),(if a=true then some false else some X)=some (!a&&X):=by intro a X; cases a <;> rfl
  clear hS hfo e1 e2 hw l1 l2 n97 m0
  have eN:∀ n:Int,(decide (n≤(ks.length:Int))&&decide ((ks.length:Int)≤n))=decide ((ks.length:Int)=n):=fun n=>by rw [QO]; simp only [QI,decide_eq_true_eq]; omega
  have e0:decide ((ks.length:Int)+(sb.length:Int)=0)=(decide ((ks.length:Int)=0)&&decide ((sb.length:Int)=0)):=by rw [QO]; simp only [QI,decide_eq_true_eq]; omega
  by_cases k1:k=1
  · subst k1
    simp only [Int.reduceEq,if_true,if_false,QH,Prod.mk.injEq] at hF
    obtain ⟨rfl,rfl⟩:=hF
    simp only [Int.reduceEq,Int.reduceLE,if_true,if_false,decide_true,decide_false,QF,QP,QM,QZ,QV,WA,QW,QX,WB,WC,QD,QB,QA,hif,hif1]
    refine fin _ _ _ ?_ fun h=>?_
    · simp only [e0,QJ]
      try simp only [← QJ (decide (_≤(ks.length:Int))),eN]
      generalize decide ((ks.length:Int)=0)=c0
      generalize decide ((sb.length:Int)=0)=d0
      generalize decide (up=0)=u0
      generalize decide (at_=0)=a0
      generalize decide (o=0)=o0
      cases ok <;> cases no <;> cases u0 <;> cases a0 <;> cases o0 <;> cases c0 <;> cases d0 <;> rfl
    · simp only [QI,decide_eq_true_eq] at h
      exact .inl ⟨trivial,by omega,by omega,hlk h.1.1.1.1.1.1⟩
  by_cases k2:k=2
  · subst k2
    simp only [Int.reduceEq,if_true,if_false,QH,Prod.mk.injEq] at hF
    obtain ⟨rfl,rfl⟩:=hF
    simp only [Int.reduceEq,Int.reduceLE,if_true,if_false,decide_true,decide_false,QF,QP,QM,QZ,QV,WA,QW,QX,WB,WC,QD,QB,QA,hif,hif1]
    refine fin _ _ _ ?_ fun h=>?_
    · simp only [e0,QJ]
      try simp only [← QJ (decide (_≤(ks.length:Int))),eN]
      generalize decide ((ks.length:Int)=0)=c0
      generalize decide ((sb.length:Int)=0)=d0
      generalize decide (o=0)=o0
      cases no <;> cases zv <;> cases o0 <;> cases c0 <;> cases d0 <;> rfl
    · simp only [QI,decide_eq_true_eq] at h
      simp only [Int.reduceEq,false_and,false_or,true_and,or_false]
      omega
  by_cases k3:k=3
  · subst k3
    simp only [Int.reduceEq,if_true,if_false,QH,Prod.mk.injEq] at hF
    obtain ⟨rfl,rfl⟩:=hF
    simp only [Int.reduceEq,Int.reduceLE,if_true,if_false,decide_true,decide_false,QF,QP,QM,QZ,QV,WA,QW,QX,WB,WC,QD,QB,QA,hif,hif1]
    refine fin _ _ _ ?_ fun h=>?_
    · simp only [e0,QJ]
      try simp only [← QJ (decide (_≤(ks.length:Int))),eN]
      generalize decide ((ks.length:Int)=1)=c1
      generalize decide ((sb.length:Int)=0)=d0
      generalize decide (up=0)=u0
      generalize decide (at_=0)=a0
      generalize decide (o=15)=o5
      generalize decide (o=16)=o6
      cases no <;> cases zv <;> cases u0 <;> cases a0 <;> cases o5 <;> cases o6 <;> cases c1 <;> cases d0 <;> rfl
    · simp only [QI,decide_eq_true_eq] at h
      simp only [Int.reduceEq,false_and,false_or,true_and,or_false]
      omega
  by_cases k4:k=4
  · subst k4
    simp only [Int.reduceEq,if_true,if_false,QH,Prod.mk.injEq] at hF
    obtain ⟨rfl,rfl⟩:=hF
    simp only [Int.reduceEq,Int.reduceLE,if_true,if_false,decide_true,decide_false,QF,QP,QM,QZ,QV,WA,QW,QX,WB,WC,QD,QB,QA,hif,hif1]
    refine fin _ _ _ ?_ fun h=>?_
    · simp only [e0,QJ]
      try simp only [← QJ (decide (_≤(ks.length:Int))),eN]
      generalize decide ((ks.length:Int)=2)=c2
      generalize decide ((sb.length:Int)=0)=d0
      generalize decide (up=0)=u0
      generalize decide (at_=0)=a0
      generalize decide (1≤o)=o7
      generalize decide (o≤14)=o8
      cases no <;> cases zv <;> cases u0 <;> cases a0 <;> cases o7 <;> cases o8 <;> cases c2 <;> cases d0 <;> rfl
    · simp only [QI,decide_eq_true_eq] at h
      simp only [Int.reduceEq,false_and,false_or,true_and,or_false]
      omega
  by_cases k5:k=5
  · subst k5
    simp only [Int.reduceEq,if_true,if_false,QH,Prod.mk.injEq] at hF
    obtain ⟨rfl,rfl⟩:=hF
    simp only [Int.reduceEq,Int.reduceLE,if_true,if_false,decide_true,decide_false,QF,QP,QM,QZ,QV,WA,QW,QX,WB,WC,QD,QB,QA,hif,hif1]
    refine fin _ _ _ ?_ fun h=>?_
    · simp only [e0,QJ]
      try simp only [← QJ (decide (_≤(ks.length:Int))),eN]
      generalize decide ((ks.length:Int)=1)=c1
      generalize decide ((sb.length:Int)=0)=d0
      generalize decide (up=0)=u0
      generalize decide (at_=0)=a0
      generalize decide (o=0)=o0
      cases zv <;> cases u0 <;> cases a0 <;> cases o0 <;> cases c1 <;> cases d0 <;> rfl
    · simp only [QI,decide_eq_true_eq] at h
      simp only [Int.reduceEq,false_and,false_or,true_and,or_false]
      omega
  by_cases k6:k=6
  · subst k6
    simp only [Int.reduceEq,if_true,if_false,QH,Prod.mk.injEq] at hF
    obtain ⟨rfl,rfl⟩:=hF
    simp only [Int.reduceEq,Int.reduceLE,if_true,if_false,decide_true,decide_false,QF,QP,QM,QZ,QV,WA,QW,QX,WB,WC,QD,QB,QA,hif,hif1]
    refine fin _ _ _ ?_ fun h=>?_
    · simp only [e0,QJ]
      try simp only [← QJ (decide (_≤(ks.length:Int))),eN]
      generalize decide ((ks.length:Int)=3)=c3
      generalize decide ((sb.length:Int)=0)=d0
      generalize decide (up=0)=u0
      generalize decide (at_=0)=a0
      generalize decide (o=0)=o0
      cases zv <;> cases u0 <;> cases a0 <;> cases o0 <;> cases c3 <;> cases d0 <;> rfl
    · simp only [QI,decide_eq_true_eq] at h
      simp only [Int.reduceEq,false_and,false_or,true_and,or_false]
      omega
  by_cases k7:k=7
  · subst k7
    simp only [Int.reduceEq,if_true,if_false,QH,Prod.mk.injEq] at hF
    obtain ⟨rfl,rfl⟩:=hF
    simp only [Int.reduceEq,Int.reduceLE,if_true,if_false,decide_true,decide_false,QF,QP,QM,QZ,QV,WA,QW,QX,WB,WC,QD,QB,QA,hif,hif1]
    refine fin _ _ _ ?_ fun h=>?_
    · simp only [e0,QJ]
      try simp only [← QJ (decide (_≤(ks.length:Int))),eN]
      generalize decide (2≤(ks.length:Int))=c4
      generalize decide ((ks.length:Int)≤9)=c5
      generalize decide ((sb.length:Int)=0)=d0
      generalize decide (up=0)=u0
      generalize decide (at_=0)=a0
      generalize decide (o=0)=o0
      cases zv <;> cases u0 <;> cases a0 <;> cases o0 <;> cases c4 <;> cases c5 <;> cases d0 <;> rfl
    · simp only [QI,decide_eq_true_eq] at h
      simp only [Int.reduceEq,false_and,false_or,true_and,or_false]
      omega
  by_cases k8:k=8
  · subst k8
    simp only [Int.reduceEq,if_true,if_false,QH,Prod.mk.injEq] at hF
    obtain ⟨rfl,rfl⟩:=hF
    simp only [Int.reduceEq,Int.reduceLE,if_true,if_false,decide_true,decide_false,QF,QP,QM,QZ,QV,WA,QW,QX,WB,WC,QD,QB,QA,hif,hif1]
    refine fin _ _ _ ?_ fun h=>?_
    · simp only [e0,QJ]
      try simp only [← QJ (decide (_≤(ks.length:Int))),eN]
      generalize decide ((ks.length:Int)=1)=c1
      generalize decide ((sb.length:Int)=1)=d1
      generalize decide (up=0)=u0
      generalize decide (at_=0)=a0
      generalize decide (o=0)=o0
      cases zv <;> cases u0 <;> cases a0 <;> cases o0 <;> cases c1 <;> cases d1 <;> rfl
    · simp only [QI,decide_eq_true_eq] at h
      simp only [Int.reduceEq,false_and,false_or,true_and,or_false]
      omega
  by_cases k9:k=9
  · subst k9
    simp only [Int.reduceEq,if_true,if_false,QH,Prod.mk.injEq] at hF
    obtain ⟨rfl,rfl⟩:=hF
    simp only [Int.reduceEq,Int.reduceLE,if_true,if_false,decide_true,decide_false,QF,QP,QM,QZ,QV,WA,QW,QX,WB,WC,QD,QB,QA,hif,hif1]
    refine fin _ _ _ ?_ fun h=>?_
    · simp only [e0,QJ]
      try simp only [← QJ (decide (_≤(ks.length:Int))),eN]
      generalize decide ((ks.length:Int)=0)=c0
      generalize decide ((sb.length:Int)=1)=d1
      generalize decide (up=0)=u0
      generalize decide (at_=0)=a0
      generalize decide (o=0)=o0
      cases no <;> cases zv <;> cases u0 <;> cases a0 <;> cases o0 <;> cases c0 <;> cases d1 <;> rfl
    · simp only [QI,decide_eq_true_eq] at h
      simp only [Int.reduceEq,false_and,false_or,true_and,or_false]
      omega
  simp only [k1,k2,k3,k4,k5,k6,k7,k8,k9,if_false,QH,Prod.mk.injEq] at hF
  obtain ⟨rfl,rfl⟩:=hF
  simp only [k1,k2,k3,k4,k5,k6,k7,k8,k9,Int.reduceEq,Int.reduceLE,if_true,if_false,decide_true,decide_false,QF,QP,QM,QZ,QV,WA,QW,QX,WB,WC,QD,QB,QA,hif,hif1]
  refine ⟨false,?_,rfl,by simp⟩
  repeat' split
  all_goals first | rfl | simp
theorem aWd {n:Nat} {L:Int→Option Bool} {good:Nat→Prop} {KP:Prop}
    (hstep:∀ i,i<n→(good i→L (i:Nat)=L ((i+1:Nat):Int))∧(¬ good i→L (i:Nat)=some false))
    (hend:∃ b,L (n:Nat)=some b∧(b=true↔KP)):∃ b,L 0=some b∧(b=true↔(∀ i,i<n→good i)∧KP):=by
  have key:∀ i,i≤n→∃ b,L (i:Nat)=some b∧(b=true↔(∀ k,i≤k→k<n→good k)∧KP):=by
    refine eH ?_ ?_
    · obtain ⟨b,h1,h2⟩:=hend
      exact ⟨b,h1,h2.trans ⟨fun h=>⟨fun k h1 h2=>by omega,h⟩,fun h=>h.2⟩⟩
    · intro i hi ih
      obtain ⟨b,h1,h2⟩:=ih
      obtain ⟨s1,s2⟩:=hstep i hi
      by_cases hg:good i
      · refine ⟨b,(s1 hg).trans h1,h2.trans ⟨fun h=>⟨fun k k1 k2=>?_,h.2⟩,fun h=>⟨fun k k1 k2=>h.1 k (by omega) k2,h.2⟩⟩⟩
        by_cases e:k=i
        · subst e; exact hg
        · exact h.1 k (by omega) k2
      · refine ⟨false,s2 hg,?_⟩
        simp only [QD,false_iff,not_and]
        intro h
        exact absurd (h i (by omega) hi) hg
  obtain ⟨b,h1,h2⟩:=key 0 (by omega)
  exact ⟨b,h1,h2.trans ⟨fun h=>⟨fun k hk=>h.1 k (by omega) hk,h.2⟩,fun h=>⟨fun k _ hk=>h.1 k hk,h.2⟩⟩⟩
theorem cG7 {a b:Bool} {P Q:Prop} (h1:a=true↔P) (h2:b=true↔Q) (h:P↔Q):a=b:=by
  rw [QO]; exact h1.trans (h.trans h2.symm)
theorem aMf {γ:Type} {n:Nat} {L M:Int→Option γ} (hstep:∀ i,i<n→L ((i+1:Nat):Int)=M ((i+1:Nat):Int)→(∃ r,L ((i+1:Nat):Int)=some r)→L (i:Nat)=M (i:Nat)∧∃ r,L (i:Nat)=some r)
    (hend:L (n:Nat)=M (n:Nat)∧∃ r,L (n:Nat)=some r):L 0=M 0∧∃ r,L 0=some r:=by
  have key:∀ i,i≤n→L (i:Nat)=M (i:Nat)∧∃ r,L (i:Nat)=some r :=
    eH hend fun i hi ih=>hstep i hi ih.1 ih.2
  exact key 0 (by omega)
theorem aPw (s:List UInt8):qZ s=pV s∧∃ b,pV s=some b∧(b=true↔1≤s.length∧s.length≤20):=by
  unfold qZ pV fM
  simp only [QB,QA]
  refine ⟨by simp,_,rfl,?_⟩
  by_cases h1:(1:Int)≤(s.length:Int)
  · simp [h1]; omega
  · simp [h1]; omega
theorem aYk (t:eP) (s:List UInt8) (hl:t.cols.length≤1048576):aK6 t s=xQ t s∧∃ r,xQ t s=some r:=by
  have:=aMf (n:=t.cols.length) (L:=fun i=>X5 t.cols s i) (M:=fun i=>zF s t i) ?_ ?_
  · unfold aK6 aNn xQ
    obtain ⟨h1,r,h2⟩:=this
    try simp only at h1 h2
    rw [← h1,h2]
    exact ⟨rfl,r,rfl⟩
  · intro i hi h1 h2
    try dsimp only at h1 h2 ⊢
    rw [X5,zF]
    simp only [dD,bH hi,dJ hi (by omega),hi,decide_true,if_true,aO8,QB,QA]
    by_cases hc:t.cols[i].name=s
    · simp [hc]
    · simp only [hc,decide_false,QD,if_false]
      exact ⟨h1,h2⟩
  · try dsimp only
    rw [X5,zF]
    simp
theorem bLn (c:aP) (s:List UInt8) (hl:c.tables.length≤1048576):aK0 c s=wN c s∧∃ r,wN c s=some r:=by
  have:=aMf (n:=c.tables.length) (L:=fun i=>M9 c.tables s i) (M:=fun i=>Z4 s c i) ?_ ?_
  · unfold aK0 aQ6 wN
    obtain ⟨h1,r,h2⟩:=this
    try simp only at h1 h2
    rw [← h1,h2]
    exact ⟨rfl,r,rfl⟩
  · intro i hi h1 h2
    try dsimp only at h1 h2 ⊢
    rw [M9,Z4]
    simp only [dD,bH hi,dJ hi (by omega),hi,decide_true,if_true,aO9,QB,QA]
    by_cases hc:c.tables[i].name=s
    · simp [hc]
    · simp only [hc,decide_false,QD,if_false]
      exact ⟨h1,h2⟩
  · try dsimp only
    rw [M9,Z4]
    simp
def vK (t:eP) (j:Nat):Prop:=∃ c,t.cols[j]?=some c∧(1≤c.name.length∧c.name.length≤20)∧(1≤c.type∧c.type≤3)∧xQ t c.name=some (j:Int)
def yM (t:eP):Prop:=(∀ j,j<t.cols.length→vK t j)∧((1≤t.name.length∧t.name.length≤20)∧1≤t.cols.length∧t.cols.length≤4)
theorem cDk (t:eP) (hl:t.cols.length≤1048576):∃ b,aKp t=some b∧(b=true↔yM t):=by
  unfold aKp yM
  refine aWd (n:=t.cols.length) (L:=fun i=>X6 t i) (good:=vK t) ?_ ?_
  · intro i hi
    try dsimp only
    rw [X6]
    obtain ⟨n1,b,n2,n3⟩:=aPw t.cols[i].name
    obtain ⟨c1,k,c2⟩:=aYk t t.cols[i].name hl
    simp only [dD,bH hi,dJ hi (by omega),hi,decide_true,if_true,n1,n2,c1,c2,QB,QA]
    have hP:vK t i↔(1≤t.cols[i].name.length∧t.cols[i].name.length≤20)∧(1≤t.cols[i].type∧t.cols[i].type≤3)∧k=(i:Int):=by
      unfold vK
      constructor
      · rintro ⟨c,h1,h2,h3,h4⟩
        rw [QQ hi] at h1
        simp only [QH] at h1; subst h1
        rw [c2] at h4
        exact ⟨h2,h3,by simpa using h4⟩
      · rintro ⟨h2,h3,h4⟩
        exact ⟨_,QQ hi,h2,h3,by rw [c2,h4]⟩
    rw [hP,← n3]
    cases b with
    | false=>simp
    | true =>
      by_cases t1:t.cols[i].type<1
      · simp [t1] <;> omega
      by_cases t3:3<t.cols[i].type
      · simp [t1,t3] <;> omega
      by_cases hk:k=(i:Int)
      · simp [t1,t3,hk] <;> omega
      · simp [t1,t3,hk]
  · try dsimp only
    rw [X6]
    obtain ⟨n1,b,n2,n3⟩:=aPw t.name
    simp only [dD,WO,decide_false,QD,if_false,n1,n2,QB,QA]
    refine ⟨_,rfl,?_⟩
    rw [← n3]
    cases b with
    | false=>simp
    | true =>
      by_cases l1:(1:Int)≤(t.cols.length:Int)
      · simp [l1] <;> omega
      · simp [l1] <;> omega
def aL2 (c:aP):Prop:=(∀ i,i<c.tables.length→∃ t,c.tables[i]?=some t∧yM t∧wN c t.name=some (i:Int))∧c.tables.length≤4
def Q5 (c:aP):Prop:=c.tables.length≤1048576∧∀ t∈c.tables,t.cols.length≤1048576
theorem bIn (c:aP) (hs:Q5 c):∃ b,aGe c=some b∧(b=true↔aL2 c):=by
  unfold aGe aL2
  refine aWd (n:=c.tables.length) (L:=fun i=>aAi c i) (good:=fun i=>∃ t,c.tables[i]?=some t∧yM t∧wN c t.name=some (i:Int)) ?_ ?_
  · intro i hi
    try dsimp only
    rw [aAi]
    obtain ⟨b,n2,n3⟩:=cDk c.tables[i] (hs.2 _ (QE hi))
    obtain ⟨c1,k,c2⟩:=bLn c c.tables[i].name hs.1
    have:=hs.1
    simp only [dD,bH hi,dJ hi (by omega),hi,decide_true,if_true,n2,c1,c2,QB,QA]
    have hP:(∃ t,c.tables[i]?=some t∧yM t∧wN c t.name=some (i:Int))↔yM c.tables[i]∧k=(i:Int):=by
      constructor
      · rintro ⟨t,h1,h2,h3⟩
        rw [QQ hi] at h1
        simp only [QH] at h1; subst h1
        rw [c2] at h3
        exact ⟨h2,by simpa using h3⟩
      · rintro ⟨h2,h3⟩
        exact ⟨_,QQ hi,h2,by rw [c2,h3]⟩
    rw [hP,← n3]
    cases b with
    | false=>simp
    | true =>
      by_cases hk:k=(i:Int)
      · simp [hk]
      · simp [hk]
  · try dsimp only
    rw [aAi]
    refine ⟨decide ((c.tables.length:Int)≤4),by simp,?_⟩
    simp only [decide_eq_true_eq]; omega
theorem bMf (c:aP) (hs:Q5 c):∃ b,aHf c=some b∧(b=true↔aL2 c):=by
  unfold aHf
  by_cases h4:(4:Int)<(c.tables.length:Int)
  · rw [if_pos (by simpa using h4)]
    refine ⟨false,rfl,?_⟩
    unfold aL2
    simp only [QD,false_iff,not_and]
    intro _; omega
  rw [if_neg (by simpa using h4)]
  have:=aWd (n:=c.tables.length) (L:=fun i=>Y6 c i) (good:=fun i=>∃ t,c.tables[i]?=some t∧yM t∧wN c t.name=some (i:Int)) (KP:=True) ?_ ?_
  · obtain ⟨b,h1,h2⟩:=this
    exact ⟨b,h1,h2.trans ⟨fun h=>⟨h.1,by omega⟩,fun h=>⟨h.1,trivial⟩⟩⟩
  · intro i hi
    try dsimp only
    rw [Y6]
    obtain ⟨n1,b,n2,n3⟩:=aPw c.tables[i].name
    obtain ⟨c1,k,c2⟩:=bLn c c.tables[i].name hs.1
    have:=hs.1
    have hcl:=hs.2 _ (QE hi)
    have inner:∀ (j:Nat),j≤c.tables[i].cols.length→((∀ m,j≤m→m<c.tables[i].cols.length→vK c.tables[i] m)→yU (i:Int) c c.tables[i] (j:Nat)=Y6 c ((i+1:Nat):Int))∧(¬ (∀ m,j≤m→m<c.tables[i].cols.length→vK c.tables[i] m)→yU (i:Int) c c.tables[i] (j:Nat)=some false):=by
      refine eH ?_ ?_
      · rw [yU]
        simp only [dD,WO,decide_false,QD,if_false,dJ hi (by omega)]
        refine ⟨fun _=>trivial,fun h=>absurd (fun m h1 h2=>by omega) h⟩
      · intro j hj ih
        rw [yU]
        obtain ⟨_,b',m2,m3⟩:=aPw c.tables[i].cols[j].name
        obtain ⟨_,k',d2⟩:=aYk c.tables[i] c.tables[i].cols[j].name hcl
        simp only [dD,bH hj,dJ hj (by omega),hj,decide_true,if_true,m2,d2,fM,QB,QA]
        have hP:vK c.tables[i] j↔b'=true∧(1≤c.tables[i].cols[j].type∧c.tables[i].cols[j].type≤3)∧k'=(j:Int):=by
          unfold vK
          constructor
          · rintro ⟨c',h1,h2,h3,h4⟩
            rw [QQ hj] at h1
            simp only [QH] at h1; subst h1
            rw [d2] at h4
            exact ⟨m3.2 h2,h3,by simpa using h4⟩
          · rintro ⟨h2,h3,h4⟩
            exact ⟨_,QQ hj,m3.1 h2,h3,by rw [d2,h4]⟩
        have hall:(∀ m,j≤m→m<c.tables[i].cols.length→vK c.tables[i] m)↔vK c.tables[i] j∧∀ m,j+1≤m→m<c.tables[i].cols.length→vK c.tables[i] m:=by
          constructor
          · intro h; exact ⟨h j (by omega) hj,fun m h1 h2=>h m (by omega) h2⟩
          · rintro ⟨h1,h2⟩ m h3 h4
            by_cases e:m=j
            · subst e; exact h1
            · exact h2 m (by omega) h4
        rw [hall,hP]
        cases b' with
        | false=>simp
        | true =>
          by_cases hk:k'=(j:Int)
          · by_cases t1:1≤c.tables[i].cols[j].type
            · by_cases t3:c.tables[i].cols[j].type≤3
              · have t3':¬ 3<c.tables[i].cols[j].type:=by omega
                simpa [hk,t1,t3,t3',d2] using ih
              · simp [hk,t1,t3,d2]
            · simp [hk,t1,d2]
          · simp [hk,d2]
    obtain ⟨i1,i2⟩:=inner 0 (by omega)
    rw [show ((0:Nat):Int)=0 from rfl] at i1 i2
    simp only [dD,bH hi,dJ hi (by omega),hi,decide_true,if_true,n2,c2,fM,QB,QA]
    have hP:(∃ t,c.tables[i]?=some t∧yM t∧wN c t.name=some (i:Int))↔yM c.tables[i]∧k=(i:Int):=by
      constructor
      · rintro ⟨t,h1,h2,h3⟩
        rw [QQ hi] at h1
        simp only [QH] at h1; subst h1
        rw [c2] at h3
        exact ⟨h2,by simpa using h3⟩
      · rintro ⟨h2,h3⟩
        exact ⟨_,QQ hi,h2,by rw [c2,h3]⟩
    rw [hP]
    unfold yM
    rw [← n3]
    cases b with
    | false=>simp
    | true =>
      by_cases hk:k=(i:Int)
      · by_cases l1:(1:Int)≤(c.tables[i].cols.length:Int)
        · by_cases l4:(c.tables[i].cols.length:Int)≤4
          · have l1':1≤c.tables[i].cols.length:=by omega
            have l4':c.tables[i].cols.length≤4:=by omega
            simp only [hk,l1,l4,l1',l4']
            simp only [XZ,true_implies] at i1 i2
            simpa using And.intro i1 (fun (x:Nat) (hx:x<c.tables[i].cols.length) (hn:¬ vK c.tables[i] x)=>i2 fun h=>hn (h x hx))
          · have l4':¬ c.tables[i].cols.length≤4:=by omega
            simp [hk,l1,l4,l4']
        · have l1':¬ 1≤c.tables[i].cols.length:=by omega
          simp [hk,l1,l1']
      · simp [hk]
  · try dsimp only
    rw [Y6]
    exact ⟨true,by simp,by simp⟩
def qM (t:eP):List Int:=t.cols.map gJ.type
theorem bQq (t:eP) (hl:t.cols.length≤1048576):aA9 t=some (qM t)∧yY t=some (qM t):=by
  have key:∀ i,i≤t.cols.length→∀ l:List Int,l.length≤i→wK t l (i:Nat)=some (l++(t.cols.drop i).map gJ.type)∧wC t l (i:Nat)=some (l++(t.cols.drop i).map gJ.type):=by
    refine eH ?_ ?_
    · intro l _
      rw [wK,wC]; simp
    · intro i hi ih l hl2
      rw [wK,wC]
      have ea:appG 8 l [t.cols[i].type]=some (l++[t.cols[i].type]):=by unfold appG; rw [if_pos (by simp; omega)]
      simp only [dD,bH hi,dJ hi (by omega),hi,decide_true,if_true,ea,QB,QA]
      have:=ih (l++[t.cols[i].type]) (by simp; omega)
      rw [QG hi,QK]
      simpa using this
  unfold aA9 yY qM
  have:=key 0 (by omega) [] (by simp)
  simpa using this
def lD (c:aP):List Int→List Int→List Int×Bool
  | acc,[]=>(acc,true)
  | acc,i::l=>if 0≤i∧i<(c.tables.length:Int) then lD c (acc++qM (c.tables[i.toNat]?.getD default)) l else ([],false)
def rO (c:aP):Prop:=c.tables.length≤4∧∀ t∈c.tables,t.cols.length≤4∧∀ x∈qM t,okT x
theorem aB5 (c:aP) (hc:rO c) (l:List Int) (hl:l.length≤1048576):aH0 c l=some (lD c [] l)∧D9 c l=some (lD c [] l):=by
  have key:∀ i,i≤l.length→∀ acc:List Int,acc.length≤4 * i→R3 l c acc (i:Nat)=some (lD c acc (l.drop i))∧X7 l c acc (i:Nat)=some (lD c acc (l.drop i)):=by
    refine eH ?_ ?_
    · intro acc _
      rw [R3,X7]; simp [lD]
    · intro i hi ih acc ha
      rw [R3,X7,QG hi,lD]
      have hw:QC .i64 ((c.tables.length:Int) - 1)=(c.tables.length:Int) - 1:=by have:=hc.1; exact dY (by omega) (by omega)
      unfold fM
      simp only [dD,bH hi,dJ hi (by omega),hi,decide_true,if_true,hw,QB,QA]
      by_cases h0:0≤l[i]
      · by_cases h1:l[i]<(c.tables.length:Int)
        · have n0:¬ l[i]<0:=by omega
          have n1:¬ (c.tables.length:Int)≤l[i]:=by omega
          have n2:l[i]≤(c.tables.length:Int) - 1:=by omega
          have hj:l[i].toNat<c.tables.length:=by omega
          have hx:idx c.tables l[i]=some c.tables[l[i].toNat]:=by
            have:=bH hj
            rwa [show ((l[i].toNat:Nat):Int)=l[i] by omega] at this
          obtain ⟨t1,t2⟩:=hc.2 _ (QE hj)
          obtain ⟨e1,e2⟩:=bQq c.tables[l[i].toNat] (by omega)
          have tl:(qM c.tables[l[i].toNat]).length≤4:=by unfold qM; simpa using t1
          have ea:appG 8 acc (qM c.tables[l[i].toNat])=some (acc++qM c.tables[l[i].toNat]):=by unfold appG; rw [if_pos (by omega)]
          have hg:c.tables[l[i].toNat]?.getD default=c.tables[l[i].toNat]:=by simp [hj]
          have hp:0≤l[i]∧l[i]<(c.tables.length:Int):=⟨h0,h1⟩
          rw [if_pos hp,hg]
          simp only [h0,n0,n1,n2,hx,e1,e2,ea,decide_true,decide_false,if_true,if_false,QD,QF,QA]
          exact ih _ (by rw [QN]; omega)
        · have n1:(c.tables.length:Int)≤l[i]:=by omega
          have n2:¬ l[i]≤(c.tables.length:Int) - 1:=by omega
          have hn:¬ (0≤l[i]∧l[i]<(c.tables.length:Int)):=by omega
          rw [if_neg hn]
          simp [h0,n1,n2]
      · have n0:l[i]<0:=by omega
        have hn:¬ (0≤l[i]∧l[i]<(c.tables.length:Int)):=by omega
        rw [if_neg hn]
        simp [h0,n0]
  unfold aH0 D9
  have:=key 0 (by omega) [] (by simp)
  simpa using this
theorem aMh (c:aP) (hc:rO c):∀ (l acc:List Int),(∀ x∈acc,okT x)→(∀ x∈(lD c acc l).1,okT x)∧(lD c acc l).1.length≤acc.length+4 * l.length
  | [],acc,h=>⟨h,by simp [lD]⟩
  | i::l,acc,h=>by
    rw [lD]
    split
    · rename_i hi
      have hj:i.toNat<c.tables.length:=by omega
      have hg:c.tables[i.toNat]?.getD default=c.tables[i.toNat]:=by simp [hj]
      rw [hg]
      obtain ⟨t1,t2⟩:=hc.2 _ (QE hj)
      have tl:(qM c.tables[i.toNat]).length≤4:=by unfold qM; simpa using t1
      obtain ⟨a1,a2⟩:=aMh c hc l (acc++qM c.tables[i.toNat]) (fun x hx=>by
        rcases QR.1 hx with hx | hx
        · exact h x hx
        · exact t2 x hx)
      exact ⟨a1,by rw [QN] at a2; simp only [QL]; omega⟩
    · exact ⟨by simp,by simp⟩
def aHp (p:aQ):Bool:=(decide (1≤p.tables.length)&&decide (p.tables.length≤3))&&decide (p.on_.length=p.tables.length)&&decide ((p.on_[0]?.getD []).length=0)&&decide (p.where_.length≤1)&&decide (p.order.length≤12)&&(decide (1≤p.items.length)&&decide (p.items.length≤12))&&decide (p.names.length=p.items.length)&&decide (-1≤p.limit)
def onB (p:aQ):Bool:=p.on_.all fun l=>decide (l.length≤1)
def nmB (s:List UInt8):Bool:=decide (1≤s.length)&&decide (s.length≤20)
theorem cBt (s:List UInt8):qZ s=some (nmB s):=by
  unfold qZ nmB
  by_cases h:1≤s.length <;> by_cases h2:s.length≤20 <;> simp [h,h2] <;> omega
theorem cK9 (s:List UInt8):pV s=some (nmB s):=by
  unfold pV fM nmB
  by_cases h:1≤s.length <;> by_cases h2:s.length≤20 <;> simp [h,h2] <;> omega
theorem onI (l:List (List aJ)) (hl:l.length≤1048576):aKb l=some (!l.all fun l=>decide (l.length≤1)):=by
  have key:∀ i,i≤l.length→∃ k:Int,Z5 l (i:Nat)=some k∧decide (0≤k)=!(l.drop i).all fun l=>decide (l.length≤1):=by
    refine eH ?_ ?_
    · rw [Z5]
      exact ⟨-1,by simp,by simp⟩
    · intro i hi ih
      rw [Z5,QG hi]
      simp only [dD,bH hi,dJ hi (by omega),hi,decide_true,if_true,aJb,QB,QA,WX]
      by_cases h:l[i].length≤1
      · have h1:¬ (1:Int)<(l[i].length:Int):=by omega
        simpa [h,h1] using ih
      · have h1:(1:Int)<(l[i].length:Int):=by omega
        exact ⟨(i:Int),by simp [h1],by simp [h]⟩
  obtain ⟨k,h1,h2⟩:=key 0 (by omega)
  rw [show ((0:Nat):Int)=0 from rfl] at h1
  rw [aKb,aNf,h1]
  simpa using h2
theorem nmI (l:List (List UInt8)) (hl:l.length≤1048576):aJ2 l=some (!l.all nmB):=by
  have key:∀ i,i≤l.length→∃ k:Int,O0 l (i:Nat)=some k∧decide (0≤k)=!(l.drop i).all nmB:=by
    refine eH ?_ ?_
    · rw [O0]
      exact ⟨-1,by simp,by simp⟩
    · intro i hi ih
      rw [O0,QG hi]
      simp only [dD,bH hi,dJ hi (by omega),hi,decide_true,if_true,aKx,cBt,QB,QA,WX]
      cases h:nmB l[i] with
      | true=>simpa using ih
      | false=>exact ⟨(i:Int),by simp,by simp⟩
  obtain ⟨k,h1,h2⟩:=key 0 (by omega)
  rw [show ((0:Nat):Int)=0 from rfl] at h1
  rw [aJ2,aMo,h1]
  simpa using h2
theorem cDm (c:aP) (hc:rO c) (p:aQ) (hn:p.names.length≤1048576) (ht:p.tables.length≤1048576):E9 c p 0=some (p.names.all nmB&&(lD c [] p.tables).2):=by
  have key:∀ i,i≤p.names.length→E9 c p (i:Nat)=some ((p.names.drop i).all nmB&&(lD c [] p.tables).2):=by
    refine eH ?_ ?_
    · rw [E9]; simp [(aB5 c hc p.tables ht).2]
    · intro i hi ih
      rw [E9,QG hi,WX]
      simp only [dD,bH hi,dJ hi (by omega),hi,decide_true,if_true,cK9,ih,QB,QA]
      cases nmB p.names[i] <;> simp
  simpa using key 0 (by omega)
theorem cCw (c:aP) (hc:rO c) (p:aQ) (ho:p.on_.length≤1048576) (hn:p.names.length≤1048576) (ht:p.tables.length≤1048576):yV c p 0=some (onB p&&(p.names.all nmB&&(lD c [] p.tables).2)):=by
  have key:∀ i,i≤p.on_.length→yV c p (i:Nat)=some (((p.on_.drop i).all fun l=>decide (l.length≤1))&&(p.names.all nmB&&(lD c [] p.tables).2)):=by
    refine eH ?_ ?_
    · rw [yV]; simp [cDm c hc p hn ht]
    · intro i hi ih
      rw [yV,QG hi,WX]
      simp only [dD,bH hi,dJ hi (by omega),hi,decide_true,if_true,ih,QB,QA]
      by_cases h:p.on_[i].length≤1
      · have h1:¬ (1:Int)<(p.on_[i].length:Int):=by omega
        simp [h,h1]
      · have h1:(1:Int)<(p.on_[i].length:Int):=by omega
        simp [h,h1]
  unfold onB
  simpa using key 0 (by omega)
theorem cFd (c:aP) (hc:rO c) (p:aQ) (ho:p.on_.length≤1048576) (hn:p.names.length≤1048576) (ht:p.tables.length≤1048576) :
    aKk c p=some (aHp p&&(onB p&&(p.names.all nmB&&(lD c [] p.tables).2)))∧aIl p=some (aHp p&&(onB p&&p.names.all nmB)):=by
  unfold aKk aIl fM aHp
  simp only [cCw c hc p ho hn ht,onI p.on_ ho,nmI p.names hn,QB,QA]
  have hon:(!p.on_.all fun l=>decide (l.length≤1))=!onB p:=rfl
  rw [hon]
  generalize onB p=b1
  generalize p.names.all nmB=b2
  generalize (lD c [] p.tables).2=b3
  by_cases t1:1≤p.tables.length
  case neg =>
    have c1:¬ (1:Int)≤(p.tables.length:Int):=by omega
    have c2:(p.tables.length:Int)<1:=by omega
    simp only [t1,c1,c2,decide_true,decide_false,if_true,if_false,QF,QP,QD,QZ,QA,beq_self_eq_true]
    simp
  by_cases t2:p.tables.length≤3
  case neg =>
    have c1:¬ (p.tables.length:Int)≤3:=by omega
    have c2:(3:Int)<(p.tables.length:Int):=by omega
    simp [t2,c1,c2]
  by_cases t3:p.on_.length=p.tables.length
  case neg =>
    have c1:¬ (p.on_.length:Int)=(p.tables.length:Int):=by omega
    simp [t3,c1]
  have a1:(1:Int)≤(p.tables.length:Int):=by omega
  have a2:(p.tables.length:Int)≤3:=by omega
  have a3:¬ (p.tables.length:Int)<1:=by omega
  have a4:¬ (3:Int)<(p.tables.length:Int):=by omega
  have a5:(p.on_.length:Int)=(p.tables.length:Int):=by omega
  have h0:0<p.on_.length:=by omega
  have hi:idx p.on_ 0=some p.on_[0]:=bH h0
  have hg:p.on_[0]?.getD []=p.on_[0]:=by simp [h0]
  rw [hg,hi]
  generalize p.on_[0]=l0
  have e0:decide ((0:Int)<(l0.length:Int))=!decide (l0.length=0):=by rw [QO]; simp only [WP,decide_eq_true_eq,decide_eq_false_iff_not]; omega
  have e1:decide ((1:Int)<(p.where_.length:Int))=!decide (p.where_.length≤1):=by rw [QO]; simp only [WP,decide_eq_true_eq,decide_eq_false_iff_not]; omega
  have e2:decide ((12:Int)<(p.order.length:Int))=!decide (p.order.length≤12):=by rw [QO]; simp only [WP,decide_eq_true_eq,decide_eq_false_iff_not]; omega
  have e3:decide ((1:Int)≤(p.items.length:Int))=decide (1≤p.items.length):=by rw [QO]; simp only [decide_eq_true_eq]; omega
  have e4:decide ((p.items.length:Int)≤12)=decide (p.items.length≤12):=by rw [QO]; simp only [decide_eq_true_eq]; omega
  have e5:decide ((p.names.length:Int)=(p.items.length:Int))=decide (p.names.length=p.items.length):=by rw [QO]; simp only [decide_eq_true_eq]; omega
  have e6:decide (p.limit < -1)=!decide (-1≤p.limit):=by rw [QO]; simp only [WP,decide_eq_true_eq,decide_eq_false_iff_not]; omega
  simp only [a1,a2,a3,a4,a5,t1,t2,t3,e0,e1,e2,e3,e4,e5,e6,decide_true,decide_false,if_true,if_false,QF,QP,QD,beq_self_eq_true,WF,QM,QA]
  generalize decide (l0.length=0)=x0
  generalize decide (p.where_.length≤1)=x1
  generalize decide (p.order.length≤12)=x2
  generalize decide (1≤p.items.length)=x3
  generalize decide (p.items.length≤12)=x4
  generalize decide (p.names.length=p.items.length)=x5
  generalize decide (-1≤p.limit)=x6
  cases x0 <;> cases x1 <;> cases x2 <;> cases x3 <;> cases x4 <;> cases x5 <;> cases x6 <;> cases b1 <;> cases b2 <;> exact ⟨rfl,rfl⟩
def TyE (c:aP) (env:List (List Int)) (e:aJ):Prop:=∃ r:Int×Bool,R7 c env e=some r∧U2 c env e=some r∧okT r.1
def PlE (c:aP) (env:List (List Int)) (p:aQ):Prop:=∃ r:List Int×Bool,aGp c env p=some r∧aEj c env p=some r∧∀ x∈r.1,okT x
def lX (env:List (List Int)):Prop:=∀ row∈env,row.length≤4194304∧∀ x∈row,okT x
theorem okT0:okT 0:=⟨by omega,by omega⟩
theorem okT3:okT 3:=⟨by omega,by omega⟩
theorem bGg (c:aP) (env:List (List Int)) (l:List aJ) (hl:l.length≤1048576) (H:∀ e∈l,TyE c env e):∃ b,aFq c env l=some b∧aH5 c env l=some b:=by
  have key:∀ i,i≤l.length→∃ (k:Int) (b:Bool),aBk l c env (i:Nat)=some k∧aBm env l c (i:Nat)=some b∧decide (0≤k)=!b:=by
    refine eH ?_ ?_
    · rw [aBk,aBm]
      exact ⟨-1,true,by simp,by simp,by simp⟩
    · intro i hi ih
      rw [aBk,aBm]
      obtain ⟨r,h1,h2,h3⟩:=H _ (QE hi)
      obtain ⟨t,e1⟩:=aR0 r.1
      simp only [dD,hi,decide_true,if_true,bH hi,dJ hi (by omega),aOa,h1,h2,aWi,e1,QB,QA]
      cases hr:r.2
      · exact ⟨(i:Int),false,by simp,by simp,by simp⟩
      · cases t
        · exact ⟨(i:Int),false,by simp,by simp,by simp⟩
        · simpa using ih
  obtain ⟨k,b,h1,h2,h3⟩:=key 0 (by omega)
  rw [show ((0:Nat):Int)=0 from rfl] at h1 h2
  rw [aFq,aQ8,aO2,h1,aH5,h2]
  exact ⟨b,by simp [h3],rfl⟩
theorem aFs (row:List Int) (env:List (List Int)) (h:env.length≤4194304):aGj row env=some (row::env)∧U5 row env=some (row::env):=by
  have e:appG 24 ([row]:List (List Int)) env=some (row::env):=by unfold appG; rw [if_pos (by simp; omega)]; rfl
  unfold aGj U5
  rw [e]; exact ⟨rfl,rfl⟩
theorem cE5 (c:aP) (env:List (List Int)) (e:aJ) (hk:e.kids.length≤1048576) (H:∀ k∈e.kids,TyE c env k) :
    (vJ env e c [] 0=some (0,false)∧rV env c e [] 0=some (0,false))∨∃ acc:List Int,acc.length=e.kids.length∧(∀ x∈acc,okT x)∧vJ env e c [] 0=zG env acc e c [] 0∧rV env c e [] 0=rV env c e acc (e.kids.length:Int):=by
  have key:∀ i,i≤e.kids.length→∀ acc:List Int,acc.length=i→(∀ x∈acc,okT x)→(vJ env e c acc (i:Nat)=some (0,false)∧rV env c e acc (i:Nat)=some (0,false))∨∃ a:List Int,a.length=e.kids.length∧(∀ x∈a,okT x)∧vJ env e c acc (i:Nat)=zG env a e c [] 0∧rV env c e acc (i:Nat)=rV env c e a (e.kids.length:Int):=by
    refine eH ?_ ?_
    · intro acc ha hx
      right
      refine ⟨acc,ha,hx,?_,rfl⟩
      rw [vJ]
      simp
    · intro i hi ih acc ha hx
      obtain ⟨r,h1,h2,h3⟩:=H _ (QE hi)
      have ea:appG 8 acc [r.1]=some (acc++[r.1]):=by unfold appG; rw [if_pos (by simp; omega)]
      have f1:vJ env e c acc (i:Nat)=if (!r.2)=true then some (0,false) else vJ env e c (acc++[r.1]) ((i+1:Nat):Int):=by
        rw [vJ]
        simp only [dD,hi,decide_true,if_true,bH hi,dJ hi (by omega),h1,ea,QB,QA]
      have f2:rV env c e acc (i:Nat)=if (!r.2)=true then some (0,false) else rV env c e (acc++[r.1]) ((i+1:Nat):Int):=by
        rw [rV]
        simp only [dD,hi,decide_true,if_true,bH hi,dJ hi (by omega),h2,ea,QB,QA]
      rw [f1,f2]
      cases hr:r.2
      · left; exact ⟨by simp,by simp⟩
      · have:=ih (acc++[r.1]) (by simp [ha]) (by intro x hx2; rcases QR.1 hx2 with h | h; exact hx x h; simp at h; rw [h]; exact h3)
        simpa using this
  simpa using key 0 (by omega) [] rfl (by simp)
theorem aO3 {α:Type} {l:List α} (h:0<l.length):idx l 0=some l[0]:=bH h
theorem bKp {α:Type} {l:List α} (h:1<l.length):idx l 1=some l[1]:=bH h
theorem bNf (l:List Int) (h:l.length≤4194304):aLx l=some l:=by
  unfold aLx
  by_cases h0:l=[]
  · simp [h0]
  · have e:appG 8 ([]:List Int) l=some l:=by unfold appG; rw [if_pos (by simp; omega)]; simp
    have h1:¬ (l.length:Int)=0:=by
      have:=List.length_pos_iff.2 h0
      omega
    simp [h1,e]
theorem bBz (a b:List Int) (ha:a.length≤1000000) (hb:b.length≤1000) (oa:∀ x∈a,okT x) (ob:∀ x∈b,okT x):∃ m:Bool,M4 (a++b)=some m∧V6 a b false=some (if m=true then 3 else 0,m):=by
  obtain ⟨r,h1,h2⟩:=cFj (a++b) (by simp; omega) (by intro x hx; rcases QR.1 hx with h | h; exact oa x h; exact ob x h)
  refine ⟨r.2,h2,?_⟩
  have e:appG 8 a b=some (a++b):=by unfold appG; rw [if_pos (by omega)]
  unfold V6
  rw [bNf a (by omega)]
  simp only [e,h1,QD,if_false,QB,QA]
  cases r.2 <;> simp
theorem cAh (c:aP) (env:List (List Int)) (hv:lX env) (hl:env.length≤4194304) (e:aJ) (hk:e.kids.length≤1048576) (hs:e.sub.length≤1048576) (H:∀ k∈e.kids,TyE c env k) (HP:∀ p∈e.sub,PlE c env p):TyE c env e:=by
  unfold TyE
  obtain ⟨b,s1,i1,hf⟩:=bQi e hk hs
  rw [R7,U2,s1,i1]
  simp only [QB,QA]
  cases b with
  | false=>exact ⟨(0,false),by simp,by simp,okT0⟩
  | true =>
  simp only [QF,QD,if_false]
  have hF:=hf rfl
  by_cases k2:e.kind=2
  · have hk0:e.kids.length=0:=by
      rcases hF with h | h | h | h | h | h | h | h | h <;> first | exact h.2.1 | (exact absurd h.1 (by omega))
    rw [if_pos (by simpa using k2),rV]
    have n1:¬ e.kind=1:=by omega
    have hw:QC .i64 ((env.length:Int) - 1)=(env.length:Int) - 1:=dY (by omega) (by omega)
    unfold fM
    simp only [hk0,k2,n1,hw,decide_true,decide_false,if_true,if_false,QD,QB,QA,Int.reduceEq]
    by_cases u0:0≤e.up
    case neg => exact ⟨(0, false), by have : e.up < 0 := by omega
                                      simp [this],by simp [u0],okT0⟩
    by_cases u1:e.up<(env.length:Int)
    case neg => exact ⟨(0, false), by have : (env.length : Int) ≤ e.up := by omega
                                      simp [this], by have : ¬ e.up ≤ (env.length : Int) - 1 := by omega
                                                      simp [u0,this],okT0⟩
    have hj:e.up.toNat<env.length:=by omega
    have hx:idx env e.up=some env[e.up.toNat]:=by
      have:=bH hj
      rwa [show ((e.up.toNat:Nat):Int)=e.up by omega] at this
    obtain ⟨r1,r2⟩:=hv _ (QE hj)
    have a1:¬ e.up<0:=by omega
    have a2:¬ (env.length:Int)≤e.up:=by omega
    have a3:e.up≤(env.length:Int) - 1:=by omega
    have hw2:QC .i64 ((env[e.up.toNat].length:Int) - 1)=(env[e.up.toNat].length:Int) - 1:=dY (by omega) (by omega)
    simp only [u0,a1,a2,a3,hx,hw2,decide_true,decide_false,if_true,if_false,QF,QD,beq_self_eq_true,WF,QA,QM]
    by_cases t0:0≤e.at_
    case neg => exact ⟨(0, false), by have : e.at_ < 0 := by omega
                                      simp [this],by simp [t0],okT0⟩
    by_cases t1:e.at_<(env[e.up.toNat].length:Int)
    case neg => exact ⟨(0, false), by have h1 : (env[e.up.toNat].length : Int) ≤ e.at_ := by omega
                                      have h2:¬ e.at_<0:=by omega
                                      simp [h1, h2], by have : ¬ e.at_ ≤ (env[e.up.toNat].length : Int) - 1 := by omega
                                                        simp [t0,this],okT0⟩
    have hj2:e.at_.toNat<env[e.up.toNat].length:=by omega
    have hx2:idx env[e.up.toNat] e.at_=some env[e.up.toNat][e.at_.toNat]:=by
      have:=bH hj2
      rwa [show ((e.at_.toNat:Nat):Int)=e.at_ by omega] at this
    have b1:¬ e.at_<0:=by omega
    have b2:¬ (env[e.up.toNat].length:Int)≤e.at_:=by omega
    have b3:e.at_≤(env[e.up.toNat].length:Int) - 1:=by omega
    exact ⟨(env[e.up.toNat][e.at_.toNat],true),by simp [b1,b2,hx2],by simp [t0,b3,hx2],r2 _ (QE hj2)⟩
  rw [if_neg (by simpa using k2)]
  rcases cE5 c env e hk H with ⟨h1,h2⟩ | ⟨acc,ha,hx,h1,h2⟩
  · exact ⟨(0,false),h1,h2,okT0⟩
  rw [h1,h2,rV,zG]
  have nk:decide ((e.kids.length:Int)<(e.kids.length:Int))=false:=by simp
  simp only [nk,k2,decide_false,QD,if_false]
  rcases hF with ⟨k,f1,f2,f3⟩ | ⟨k,f1⟩ | ⟨k,f1,f2⟩ | ⟨k,f1,f2⟩ | ⟨k,f1,f2⟩ | ⟨k,f1,f2⟩ | ⟨k,⟨f1,f3⟩,f2⟩ | ⟨k,f1,f2⟩ | ⟨k,f1,f2⟩
  · refine ⟨(e.value.kind,true),?_,?_,f3⟩
    · unfold wX; simp [f2,k]
    · simp [k]
  · exact absurd k k2
  · obtain ⟨r,r1,r2,r3⟩:=bUy e.op (acc[0]'(by omega))
    refine ⟨r,?_,?_,r3⟩
    · unfold wX; simp [f2,k,aO3 (show 0<acc.length by omega),r1]
    · simp [k,aO3 (show 0<acc.length by omega),r2]
  · obtain ⟨r,r1,r2,r3⟩:=bNd e.op (acc[0]'(by omega)) (acc[1]'(by omega)) (hx _ (QE _)) (hx _ (QE _))
    refine ⟨r,?_,?_,r3⟩
    · unfold wX; simp [f2,k,aO3 (show 0<acc.length by omega),bKp (show 1<acc.length by omega),r1]
    · simp [k,aO3 (show 0<acc.length by omega),bKp (show 1<acc.length by omega),r2]
  · refine ⟨(3,true),?_,?_,okT3⟩
    · unfold wX V6; simp [f2,k]
    · unfold xH; simp [f2,k]
  · obtain ⟨m,m1,m2⟩:=bBz acc [] (by omega) (by simp) hx (by simp)
    refine ⟨(if m=true then 3 else 0,m),?_,?_,by cases m; exact okT0; exact okT3⟩
    · unfold wX; simp [f2,k,m2]
    · rw [WY] at m1
      unfold xH sV; cases m <;> simp [f2,k,m1]
  · obtain ⟨m,m1,m2⟩:=bBz acc [] (by omega) (by simp) hx (by simp)
    refine ⟨(if m=true then 3 else 0,m),?_,?_,by cases m; exact okT0; exact okT3⟩
    · unfold wX; simp [f2,k,m2]
    · rw [WY] at m1
      unfold xH sV; cases m <;> simp [f2,k,m1]
  · obtain ⟨p,hp⟩:∃ p,e.sub=[p]:=by
      match hh:e.sub,f2 with
      | [p],_=>exact ⟨p,rfl⟩
    obtain ⟨r,r1,r2,r3⟩:=HP p (by rw [hp]; simp)
    have ip:idx e.sub 0=some p:=by rw [hp]; rfl
    rw [ip]
    simp only [f2,k,r1,r2,QB,QA]
    obtain ⟨out,ok⟩:=r
    cases ok with
    | false=>exact ⟨(0,false),by simp,by simp,okT0⟩
    | true =>
    by_cases ho:out.length=1
    case neg =>
      have h3:¬ (out.length:Int)=1:=by omega
      exact ⟨(0,false),by simp [h3],by simp [h3],okT0⟩
    obtain ⟨t,ht⟩:∃ t,out=[t]:=by
      match out,ho with
      | [t],_=>exact ⟨t,rfl⟩
    subst ht
    have iw:QC .i64 (0+1)=1:=rfl
    have i0:idx [t] 0=some t:=rfl
    have ea:appG 8 acc [t]=some (acc++[t]):=by unfold appG; rw [if_pos (by simp; omega)]
    obtain ⟨m,m1,m2⟩:=bBz acc [t] (by omega) (by simp) hx (by intro x hx2; exact r3 x hx2)
    have h8:¬ e.kind=1:=by omega
    refine ⟨(if m=true then 3 else 0,m),?_,?_,by cases m; exact okT0; exact okT3⟩
    · rw [iw,zG]
      unfold wX
      simp [f2,k,m2]
    · unfold xH sV; cases m <;> simp [k,i0,ea,m1]
  · obtain ⟨p,hp⟩:∃ p,e.sub=[p]:=by
      match hh:e.sub,f2 with
      | [p],_=>exact ⟨p,rfl⟩
    obtain ⟨r,r1,r2,r3⟩:=HP p (by rw [hp]; simp)
    have ip:idx e.sub 0=some p:=by rw [hp]; rfl
    rw [ip]
    simp only [f2,k,r1,r2,QB,QA]
    obtain ⟨out,ok⟩:=r
    cases ok with
    | false=>exact ⟨(0,false),by simp,by simp,okT0⟩
    | true =>
    have iw:QC .i64 (0+1)=1:=rfl
    have ha0:acc=[]:=XK (by omega)
    subst ha0
    have hm:M4 []=some true:=by unfold M4; rw [F4]; simp
    refine ⟨(3,true),?_,?_,okT3⟩
    · simp only [iw]
      rw [zG]
      unfold wX V6
      simp [f2,k]
    · unfold xH sV; simp [k,hm]
theorem aOr {α:Type} {l:List α} {n:Nat} (h:n≤l.length):iR l 0 (n:Int)=some (l.take n):=by
  unfold iR
  rw [if_pos (by omega)]
  simp
theorem cK2 (c:aP) (env:List (List Int)) (p:aQ) (hn:p.items.length≤1048576) (H:∀ e∈p.items,TyE c env e):∃ r:List Int×Bool,zH env p c [] 0=some r∧J9 env c p [] 0=some r∧∀ x∈r.1,okT x:=by
  have key:∀ i,i≤p.items.length→∀ acc:List Int,acc.length=i→(∀ x∈acc,okT x)→∃ r:List Int×Bool,zH env p c acc (i:Nat)=some r∧J9 env c p acc (i:Nat)=some r∧∀ x∈r.1,okT x:=by
    refine eH ?_ ?_
    · intro acc _ hx
      rw [zH,J9]
      exact ⟨(acc,true),by simp,by simp,hx⟩
    · intro i hi ih acc ha hx
      obtain ⟨r,h1,h2,h3⟩:=H _ (QE hi)
      have ea:appG 8 acc [r.1]=some (acc++[r.1]):=by unfold appG; rw [if_pos (by simp; omega)]
      rw [zH,J9]
      simp only [dD,hi,decide_true,if_true,bH hi,dJ hi (by omega),h1,h2,ea,QB,QA]
      cases hr:r.2
      · exact ⟨([],false),by simp,by simp,by simp⟩
      · have:=ih (acc++[r.1]) (by simp [ha]) (by intro x hx2; rcases QR.1 hx2 with h | h; exact hx x h; simp at h; rw [h]; exact h3)
        simpa using this
  simpa using key 0 (by omega) [] rfl (by simp)
theorem cK8 (c:aP) (env:List (List Int)) (p:aQ) (hn:p.items.length≤1048576) (ho:p.order.length≤1048576) (H:∀ e∈p.items,TyE c env e) (HO:∀ k∈p.order,TyE c env k.expr):∃ r:List Int×Bool,Y0 env p c 0=some r∧Q3 env c p 0=some r∧∀ x∈r.1,okT x:=by
  have key:∀ i,i≤p.order.length→∃ r:List Int×Bool,Y0 env p c (i:Nat)=some r∧Q3 env c p (i:Nat)=some r∧∀ x∈r.1,okT x:=by
    refine eH ?_ ?_
    · rw [Y0,Q3]
      simpa using cK2 c env p hn H
    · intro i hi ih
      obtain ⟨r,h1,h2,h3⟩:=HO _ (QE hi)
      rw [Y0,Q3]
      simp only [dD,hi,decide_true,if_true,bH hi,dJ hi (by omega),h1,h2,QB,QA]
      cases hr:r.2
      · exact ⟨([],false),by simp,by simp,by simp⟩
      · simpa using ih
  simpa using key 0 (by omega)
theorem aZs {row:List Int} {env:List (List Int)} (hr:row.length≤4194304) (hx:∀ x∈row,okT x) (hv:lX env):lX (row::env):=by
  intro r h
  rcases WQ.1 h with rfl | h
  · exact ⟨hr,hx⟩
  · exact hv r h
theorem bO1 (c:aP) (hc:rO c) (env:List (List Int)) (hv:lX env) (hl:env.length<4194304) (p:aQ) (ho:p.on_.length≤1048576) (hn:p.names.length≤1048576) (ht:p.tables.length≤1048576)
    (H:∀ env',lX env'→env'.length=env.length+1→(∀ l∈p.on_,∀ e∈l,TyE c env' e)∧(∀ e∈p.where_,TyE c env' e)∧(∀ k∈p.order,TyE c env' k.expr)∧(∀ e∈p.items,TyE c env' e)):PlE c env p:=by
  unfold PlE
  obtain ⟨f1,f2⟩:=cFd c hc p ho hn ht
  obtain ⟨r1,r2⟩:=aB5 c hc p.tables ht
  rw [aGp,aEj,f1,f2,r1]
  simp only [QB,QA]
  cases hr:(lD c [] p.tables).2 with
  | false=>exact ⟨([],false),by simp,by simp,by simp⟩
  | true =>
  cases hP:aHp p with
  | false=>exact ⟨([],false),by simp,by simp,by simp⟩
  | true =>
  cases hO:onB p with
  | false=>exact ⟨([],false),by simp,by simp,by simp⟩
  | true =>
  cases hN:p.names.all nmB with
  | false=>exact ⟨([],false),by simp,by simp,by simp⟩
  | true =>
  simp only [QF,QM,WF,beq_self_eq_true,if_true,QD,if_false,QA]
  have hB:p.tables.length≤3∧p.on_.length=p.tables.length∧p.where_.length≤1∧p.order.length≤12∧p.items.length≤12:=by
    unfold aHp at hP
    simp only [QI,decide_eq_true_eq] at hP
    omega
  obtain ⟨b1,b2,b3,b4,b5⟩:=hB
  have hO1:∀ l∈p.on_,l.length≤1:=by
    unfold onB at hO
    simpa using hO
  obtain ⟨q1,q2⟩:=aMh c hc p.tables [] (by simp)
  simp only [WD] at q2
  obtain ⟨w1,w2⟩:=aFs (lD c [] p.tables).1 env (by omega)
  obtain ⟨-,m2,m3,m4⟩:=H ((lD c [] p.tables).1::env) (aZs (by omega) q1 hv) (by simp)
  have key:∀ i,i≤p.on_.length→∃ r:List Int×Bool,aDe env (lD c [] p.tables) p c (i:Nat)=some r∧aCe env c p (i:Nat)=some r∧∀ x∈r.1,okT x:=by
    refine eH ?_ ?_
    · obtain ⟨t,t1,t2⟩:=bGg c ((lD c [] p.tables).1::env) p.where_ (by omega) m2
      rw [aDe,aCe]
      simp only [dD,WO,decide_false,QD,if_false,r2,w1,w2,t1,t2,QB,QA]
      cases t
      · exact ⟨([],false),by simp,by simp,by simp⟩
      · simpa using cK8 c _ p (by omega) (by omega) m4 m3
    · intro i hi ih
      obtain ⟨a1,a2⟩:=aMh c hc (p.tables.take (i+1)) [] (by simp)
      simp only [WD] at a2
      obtain ⟨a3,a4⟩:=aB5 c hc (p.tables.take (i+1)) (by rw [XB]; omega)
      have a5:(p.tables.take (i+1)).length≤3:=by rw [XB]; omega
      obtain ⟨a6,a7⟩:=aFs (lD c [] (p.tables.take (i+1))).1 env (by omega)
      obtain ⟨a8,-⟩:=H ((lD c [] (p.tables.take (i+1))).1::env) (aZs (by omega) a1 hv) (by simp)
      obtain ⟨t,t1,t2⟩:=bGg c _ p.on_[i] (by have:=hO1 _ (QE hi); omega) (a8 _ (QE hi))
      have hs:iR p.tables 0 ((i+1:Nat):Int)=some (p.tables.take (i+1)):=aOr (by omega)
      rw [aDe,aCe]
      simp only [dD,hi,decide_true,if_true,bH hi,dJ hi (by omega),hs,a3,a4,a6,a7,t1,t2,QB,QA]
      cases t
      · exact ⟨([],false),by simp,by simp,by simp⟩
      · simpa using ih
  simpa using key 0 (by omega)
theorem bGq (c:aP) (hc:rO c):∀ n:Nat,(∀ (e:aJ) (env:List (List Int)),bJ e<n→n≤1048577→lX env→env.length+n≤4000000→TyE c env e)∧(∀ (p:aQ) (env:List (List Int)),eX p<n→n≤1048577→lX env→env.length+n≤4000000→PlE c env p)
  | 0=>⟨fun _ _ h=>absurd h (by omega),fun _ _ h=>absurd h (by omega)⟩
  | n+1=>by
    obtain ⟨i1,i2⟩:=bGq c hc n
    refine ⟨fun e env he hn hv hl=>?_,fun p env hp hn hv hl=>?_⟩
    · have:=bB7 e
      exact cAh c env hv (by omega) e (by omega) (by omega) (fun k hk=>i1 k env (by have:=aKn hk; have:=QY hk; omega) (by omega) hv (by omega)) fun p hp=>i2 p env (by have:=aM0 hp; have:=QY hp; omega) (by omega) hv (by omega)
    · have:=aR9 p
      refine bO1 c hc env hv (by omega) p (by omega) (by omega) (by omega) fun env' hv' hl'=>⟨fun l hm e he=>i1 e env' ?_ (by omega) hv' (by omega),fun e he=>i1 e env' ?_ (by omega) hv' (by omega),fun k hk=>i1 k.expr env' ?_ (by omega) hv' (by omega),fun e he=>i1 e env' ?_ (by omega) hv' (by omega)⟩
      · have:=onZ hm he; have:=QY he; omega
      · have:=bGz he; have:=QY he; omega
      · have:=bMb hk; have:=QY hk; omega
      · have:=bHw he; have:=QY he; omega
theorem cDu (c:aP) (hc:rO c) (p:aQ) (env:List (List Int)) (hz:eX p≤1048576) (hv:lX env) (hl:env.length≤1000):PlE c env p:=(bGq c hc (eX p+1)).2 p env (by omega) (by omega) hv (by omega)
theorem bR2 {c:aP} (h:aL2 c):rO c:=by
  refine ⟨h.2,fun t ht=>?_⟩
  obtain ⟨i,hi,rfl⟩:=XL ht
  obtain ⟨t,h1,⟨h2,h3⟩,-⟩:=h.1 i hi
  rw [QQ hi] at h1
  simp only [QH] at h1; subst h1
  refine ⟨h3.2.2,fun x hx=>?_⟩
  unfold qM at hx
  obtain ⟨k,hk,rfl⟩:=WE.1 hx
  obtain ⟨j,hj,rfl⟩:=XL hk
  obtain ⟨k,k1,-,k2,-⟩:=h2 j hj
  rw [QQ hj] at k1
  simp only [QH] at k1; subst k1
  exact ⟨by omega,k2.2⟩
theorem summed {α γ:Type} {p:List α} {f:α→Option Int} {s:α→Int} {L:Int→Int→Option γ} {K:Int→Option γ} (hp:p.length≤1048576)
    (hf:∀ y∈p,f y=some (s y)∧0≤s y)
    (hL:∀ (i:Nat) (x:Int),L x (i:Int)=if (decide ((i:Int)<(p.length:Int)))=true then ((idx p (i:Int))>>=fun y=>(f y)>>=fun z=>L (QC .i64 (x+z)) (QC .i64 ((i:Int)+1))) else K x) :
    ∀ x:Int,0≤x→x+(p.map s).sum≤9223372036854775807→L x 0=K (x+(p.map s).sum):=by
  have nn:∀ l:List α,(∀ y∈l,0≤s y)→0≤(l.map s).sum:=by
    intro l
    induction l with
    | nil=>intro _; simp
    | cons y l ih=>intro h; have h1:=h y (by simp); have h2:=ih fun z hz=>h z (by simp [hz]); simp only [QK,WH]; omega
  have key:∀ i,i≤p.length→∀ x:Int,0≤x→x+((p.drop i).map s).sum≤9223372036854775807→L x (i:Nat)=K (x+((p.drop i).map s).sum):=by
    refine eH ?_ ?_
    · intro x _ _
      rw [hL]; simp
    · intro i hi ih x h0 hx
      obtain ⟨f1,f2⟩:=hf _ (QE hi)
      have hn:=nn (p.drop (i+1)) fun y hy=>(hf y (List.mem_of_mem_drop hy)).2
      rw [QG hi] at hx ⊢
      simp only [QK,WH] at hx ⊢
      rw [hL,bH hi,dJ hi (by omega)]
      simp only [dD,hi,decide_true,if_true,f1,QB,QA]
      rw [dY (by omega) (by omega),ih _ (by omega) (by omega),Int.add_assoc]
  intro x h0 hx
  simpa using key 0 (by omega) x h0 (by simpa using hx)
theorem aOe {α:Type} {s:α→Int}:∀ l:List α,(∀ y∈l,0≤s y)→0≤(l.map s).sum
  | [],_=>by simp
  | y::l,h=>by have h1:=h y (by simp); have h2:=aOe l fun z hz=>h z (by simp [hz]); simp only [QK,WH]; omega
theorem aD4 {α:Type} {s:α→Int} {z:α→Nat}:∀ l:List α,(∀ y∈l,s y≤(z y:Int)+1)→(l.map s).sum≤(zL z l:Int)
  | [],_=>by simp [zL]
  | y::l,h=>by
    have h1:=h y (by simp); have h2:=aD4 l fun w hw=>h w (by simp [hw])
    unfold zL at *
    simp only [QK,WH,QL] at *; omega
def mx {α:Type} (d:α→Int) (l:List α) (x:Int):Int:=l.foldl (fun b y=>if d y>b then d y else b) x
theorem aWh (a b:Int):xO a b=some (if b>a then b else a):=by
  unfold xO
  by_cases h:b<a
  · have:¬ a<b:=by omega
    simp [h,this]
  · by_cases h2:a<b
    · simp [h,h2]
    · have:a=b:=by omega
      subst this; simp
def jS (p:aQ):List aJ:=p.on_.flatMap (fun l=>l)++p.where_++p.order.flatMap (fun k=>[k.expr])++p.items
theorem bHb {α β:Type} {f:α→List β} {z:α→Nat}:∀ l:List α,(∀ y∈l,(f y).length≤z y+1)→(l.flatMap f).length≤zL z l
  | [],_=>by simp [zL]
  | y::l,h=>by
    have h1:=h y (by simp); have h2:=bHb l fun w hw=>h w (by simp [hw])
    unfold zL at *
    simp only [WG,QN,QK,WH,QL] at *; omega
theorem aY1 (l:List dV):(l.flatMap fun k=>[k.expr])=l.map fun k=>k.expr:=by
  induction l with
  | nil=>rfl
  | cons x l ih=>rw [WG,ih]; rfl
theorem bGw (p:aQ):(jS p).length≤eX p:=by
  have h1:=aAh p
  have h2:=bHb (f:=fun l:List aJ=>l) (z:=zL bJ) p.on_ fun y _=>by have:=wI (z:=bJ) y; omega
  have h3:=wI (z:=bJ) p.where_
  have h4:=wI (z:=bJ) p.items
  unfold jS
  simp only [QN,aY1,WI]
  omega
theorem aQt {p:aQ} {e:aJ} (h:e∈jS p):bJ e<eX p:=by
  unfold jS at h
  simp only [QR,XC,List.mem_singleton] at h
  rcases h with ((⟨l,h1,h2⟩ | h) | ⟨k,h1,rfl⟩) | h
  · have:=onZ h1 h2; have:=QY h2; omega
  · have:=bGz h; have:=QY h; omega
  · have:=bMb h1; have:=QY h1; omega
  · have:=bHw h; have:=QY h; omega
theorem bM1 {s:aJ→Int}:∀ l:List (List aJ),(∀ r∈l,∀ y∈r,s y≤(bJ y:Int)+1)→((l.flatMap (fun r=>r)).map s).sum≤(zL (zL bJ) l:Int)
  | [],_=>by simp [zL]
  | r::l,h=>by
    have h1:=aD4 (s:=s) (z:=bJ) r (h r (by simp)); have h2:=bM1 (s:=s) l fun w hw=>h w (by simp [hw])
    rw [WG,XD,XM]
    have:(zL (zL bJ) (r::l):Int)=1+zL bJ r+zL (zL bJ) l:=by unfold zL; simp only [QL,QK,WH]; omega
    omega
theorem cEc {s:aJ→Int} (p:aQ) (h:∀ y∈jS p,s y≤(bJ y:Int)+1):((jS p).map s).sum≤(eX p:Int):=by
  have h1:=aAh p
  unfold jS at *
  have a1:=bM1 (s:=s) p.on_ fun r hr y hy=>h y (by simp only [QR,XC]; exact .inl (.inl (.inl ⟨r,hr,hy⟩)))
  have a2:=aD4 (s:=s) (z:=bJ) p.where_ fun y hy=>h y (by simp only [QR]; exact .inl (.inl (.inr hy)))
  have a3:=aD4 (s:=fun k:dV=>s k.expr) (z:=fun k=>bJ k.expr) p.order fun y hy=>h y.expr (by rw [aY1]; simp only [QR,WE]; exact .inl (.inr ⟨y,hy,rfl⟩))
  have a4:=aD4 (s:=s) (z:=bJ) p.items fun y hy=>h y (by simp only [QR]; exact .inr hy)
  rw [aY1]
  simp only [XD,XM,WU]
  have:(p.order.map (s ∘ fun k=>k.expr))=p.order.map fun k:dV=>s k.expr:=rfl
  rw [this]
  unfold zL at a3
  omega
theorem Z8 {l m:List aJ} (h:l.length+m.length≤4194304):appG 120 l m=some (l++m):=nL (by omega)
theorem parts_eq (p:aQ) (hz:eX p≤1048576):aFw p=some (jS p)∧aGi p=some (jS p):=by
  have hl:=aR9 p
  have hp:=bGw p
  unfold jS at hp
  simp only [QN] at hp
  have o1:∀ acc:List aJ,acc.length+(p.order.flatMap fun k=>[k.expr]).length+p.items.length≤4194304→J8 p acc 0=some (acc++(p.order.flatMap fun k=>[k.expr])++p.items):=by
    intro acc ha
    rw [gather (p:=p.order) (f:=fun k=>[k.expr]) (c:=4194304) (G:=fun y acc=>appG 120 acc ([y.expr]:List aJ)) (L:=fun acc i=>J8 p acc i) (K:=fun x=>(appG 120 x p.items)>>=fun (y7:List aJ)=>some y7) (by omega) (fun y _ acc h=>Z8 h) (fun i acc=>by rw [J8]) acc (by omega)]
    rw [Z8 (by rw [QN]; omega)]; rfl
  have o2:∀ acc:List aJ,acc.length+(p.order.flatMap fun k=>[k.expr]).length+p.items.length≤4194304→yT p acc 0=some (acc++(p.order.flatMap fun k=>[k.expr])++p.items):=by
    intro acc ha
    rw [gather (p:=p.order) (f:=fun k=>[k.expr]) (c:=4194304) (G:=fun y acc=>appG 120 acc ([y.expr]:List aJ)) (L:=fun acc i=>yT p acc i) (K:=fun x=>(appG 120 x p.items)>>=fun (y7:List aJ)=>some y7) (by omega) (fun y _ acc h=>Z8 h) (fun i acc=>by rw [yT]) acc (by omega)]
    rw [Z8 (by rw [QN]; omega)]; rfl
  constructor
  · rw [aFw,gather (p:=p.on_) (f:=fun l=>l) (c:=4194304) (G:=fun y acc=>appG 120 acc y) (L:=fun acc i=>aCm p acc i) (K:=fun x=>(appG 120 x p.where_)>>=fun (y3:List aJ)=>J8 p y3 0) (by omega) (fun y _ acc h=>Z8 h) (fun i acc=>by rw [aCm]) [] (by simp only [WD]; omega)]
    rw [Z8 (by simp only [QS]; omega)]
    simp only [QB,QA,QS]
    rw [o1 _ (by simp only [QN]; omega)]; rfl
  · rw [aGi,gather (p:=p.on_) (f:=fun l=>l) (c:=4194304) (G:=fun y acc=>appG 120 acc y) (L:=fun acc i=>aDv p acc i) (K:=fun x=>(appG 120 x p.where_)>>=fun (y3:List aJ)=>yT p y3 0) (by omega) (fun y _ acc h=>Z8 h) (fun i acc=>by rw [aDv]) [] (by simp only [WD]; omega)]
    rw [Z8 (by simp only [QS]; omega)]
    simp only [QB,QA,QS]
    rw [o2 _ (by simp only [QN]; omega)]; rfl
def dE (e:aJ):Int:=(aAr e).getD 0
def sE (e:aJ):Int:=(yX e).getD 0
def dP (p:aQ):Int:=(zO p).getD 0
def sP (p:aQ):Int:=(H9 p).getD 0
def DsE (e:aJ):Prop:=aAr e=some (dE e)∧zU e=some (dE e)∧yX e=some (sE e)∧C9 e=some (sE e)∧0≤sE e∧sE e≤(bJ e:Int)+1
def DsP (p:aQ):Prop:=zO p=some (dP p)∧aCh p=some (dP p)∧H9 p=some (sP p)∧aBg p=some (sP p)∧0≤sP p∧sP p≤(eX p:Int)
theorem bLk (l:List aJ) (hl:l.length≤1048576) (H:∀ e∈l,DsE e) (x:Int):aBu l x 0=some (mx dE l x)∧aCk l x 0=some (mx dE l x):=by
  constructor
  · exact folded (p:=l) (g:=fun y b=>(aAr y)>>=fun z=>some (if z>b then z else b)) (h:=fun y b=>if dE y>b then dE y else b) (L:=fun b i=>aBu l b i) (K:=fun b=>some b) hl (fun y hy b=>by rw [(H y hy).1]; rfl) (fun i b=>by rw [aBu]; simp only [QB,WS,QA]) x
  · exact folded (p:=l) (g:=fun y b=>(zU y)>>=fun z=>xO b z) (h:=fun y b=>if dE y>b then dE y else b) (L:=fun b i=>aCk l b i) (K:=fun b=>some b) hl (fun y hy b=>by rw [(H y hy).2.1]; exact aWh _ _) (fun i b=>by rw [aCk]; simp only [QB,WS]) x
theorem bJq (l:List aJ) (hl:l.length≤1048576) (hz:(l.map sE).sum≤4194304) (H:∀ e∈l,DsE e):aGn l=some ((l.map sE).sum)∧aCu l 0 0=some ((l.map sE).sum):=by
  constructor
  · rw [aGn,summed (p:=l) (f:=yX) (s:=sE) (L:=fun x i=>aEs l x i) (K:=fun x=>some x) hl (fun y hy=>⟨(H y hy).2.2.1,(H y hy).2.2.2.2.1⟩) (fun i x=>by rw [aEs]) 0 (by omega) (by omega)]
    simp
  · rw [summed (p:=l) (f:=C9) (s:=sE) (L:=fun x i=>aCu l x i) (K:=fun x=>some x) hl (fun y hy=>⟨(H y hy).2.2.2.1,(H y hy).2.2.2.2.1⟩) (fun i x=>by rw [aCu]) 0 (by omega) (by omega)]
    simp
theorem bW4 (p:aQ) (hz:eX p≤1048576) (H:∀ e∈jS p,DsE e):DsP p:=by
  obtain ⟨p1,p2⟩:=parts_eq p hz
  have hl:=bGw p
  have hs:=cEc (s:=sE) p fun y hy=>(H y hy).2.2.2.2.2
  have hn:=aOe (s:=sE) (jS p) fun y hy=>(H y hy).2.2.2.2.1
  obtain ⟨a1,a2⟩:=bLk _ (by omega) H 0
  obtain ⟨b1,b2⟩:=bJq _ (by omega) (by omega) H
  have e1:zO p=some (mx dE (jS p) 0):=by rw [zO,p1]; simp only [QB,QA,aEh,a1]
  have e2:H9 p=some (((jS p).map sE).sum):=by rw [H9,p1]; simp only [QB,QA,b1]
  have d1:dP p=mx dE (jS p) 0:=by unfold dP; rw [e1]; rfl
  have d2:sP p=((jS p).map sE).sum:=by unfold sP; rw [e2]; rfl
  unfold DsP
  rw [d1,d2]
  exact ⟨e1,by rw [aCh,p2]; exact a2,e2,by rw [aBg,p2]; exact b2,hn,hs⟩
theorem cG3 (e:aJ) (hz:bJ e≤1048576) (HK:∀ k∈e.kids,DsE k) (HS:∀ p∈e.sub,DsP p):DsE e:=by
  have hl:=bB7 e
  have hzz:=aEl e
  have s1:=aD4 (s:=sE) (z:=bJ) e.kids fun y hy=>(HK y hy).2.2.2.2.2
  have s2:=aD4 (s:=sP) (z:=eX) e.sub fun y hy=>by have:=(HS y hy).2.2.2.2.2; omega
  have n1:=aOe (s:=sE) e.kids fun y hy=>(HK y hy).2.2.2.2.1
  have n2:=aOe (s:=sP) e.sub fun y hy=>(HS y hy).2.2.2.2.1
  obtain ⟨a1,-⟩:=bLk e.kids (by omega) HK 0
  obtain ⟨b1,-⟩:=bJq e.kids (by omega) (by omega) HK
  have e1:aAr e=some (QC .i64 (1+mx dP e.sub (mx dE e.kids 0))):=by
    rw [aAr,aEh,a1]
    exact folded (p:=e.sub) (g:=fun y b=>(zO y)>>=fun z=>some (if z>b then z else b)) (h:=fun y b=>if dP y>b then dP y else b) (L:=fun b i=>aAw e b i) (K:=fun b=>some (QC .i64 (1+b))) (by omega) (fun y hy b=>by rw [(HS y hy).1]; rfl) (fun i b=>by rw [aAw]; simp only [QB,WS,QA]) _
  have e2:zU e=some (QC .i64 (1+mx dP e.sub (mx dE e.kids 0))):=by
    rw [zU,folded (p:=e.kids) (g:=fun y b=>(zU y)>>=fun z=>xO b z) (h:=fun y b=>if dE y>b then dE y else b) (L:=fun b i=>aFt e b i) (K:=fun b=>X3 e b 0) (by omega) (fun y hy b=>by rw [(HK y hy).2.1]; exact aWh _ _) (fun i b=>by rw [aFt]; simp only [QB,WS]) 0]
    rw [Int.add_comm 1]
    exact folded (p:=e.sub) (g:=fun y b=>(aCh y)>>=fun z=>xO b z) (h:=fun y b=>if dP y>b then dP y else b) (L:=fun b i=>X3 e b i) (K:=fun b=>some (QC .i64 (b+1))) (by omega) (fun y hy b=>by rw [(HS y hy).2.1]; exact aWh _ _) (fun i b=>by rw [X3]; simp only [QB,WS]) _
  have e3:yX e=some (1+(e.kids.map sE).sum+(e.sub.map sP).sum):=by
    rw [yX,b1]
    simp only [QB,QA]
    rw [dY (by omega) (by omega)]
    exact summed (p:=e.sub) (f:=H9) (s:=sP) (L:=fun x i=>aDa e x i) (K:=fun x=>some x) (by omega) (fun y hy=>⟨(HS y hy).2.2.1,(HS y hy).2.2.2.2.1⟩) (fun i x=>by rw [aDa]) _ (by omega) (by omega)
  have e4:C9 e=some (1+(e.kids.map sE).sum+(e.sub.map sP).sum):=by
    rw [C9,summed (p:=e.kids) (f:=C9) (s:=sE) (L:=fun x i=>aFa e x i) (K:=fun x=>P8 e x 0) (by omega) (fun y hy=>⟨(HK y hy).2.2.2.1,(HK y hy).2.2.2.2.1⟩) (fun i x=>by rw [aFa]) 1 (by omega) (by omega)]
    exact summed (p:=e.sub) (f:=aBg) (s:=sP) (L:=fun x i=>P8 e x i) (K:=fun x=>some x) (by omega) (fun y hy=>⟨(HS y hy).2.2.2.1,(HS y hy).2.2.2.2.1⟩) (fun i x=>by rw [P8]) _ (by omega) (by omega)
  have d1:dE e=QC .i64 (1+mx dP e.sub (mx dE e.kids 0)):=by unfold dE; rw [e1]; rfl
  have d2:sE e=1+(e.kids.map sE).sum+(e.sub.map sP).sum:=by
    have:sE e=(yX e).getD 0:=rfl
    rw [this,e3]; rfl
  unfold DsE
  rw [← d1] at e1 e2
  rw [← d2] at e3 e4
  exact ⟨e1,e2,e3,e4,by omega,by omega⟩
theorem bN5:∀ n:Nat,(∀ e:aJ,bJ e<n→bJ e≤1048576→DsE e)∧(∀ p:aQ,eX p<n→eX p≤1048576→DsP p)
  | 0=>⟨fun _ h=>absurd h (by omega),fun _ h=>absurd h (by omega)⟩
  | n+1=>by
    obtain ⟨i1,i2⟩:=bN5 n
    exact ⟨fun e he hz=>cG3 e hz (fun k hk=>i1 k (by have:=aKn hk; have:=QY hk; omega) (by have:=aKn hk; omega)) fun p hp=>i2 p (by have:=aM0 hp; have:=QY hp; omega) (by have:=aM0 hp; omega),
      fun p hp hz=>bW4 p hz fun e he=>i1 e (by have:=aQt he; omega) (by have:=aQt he; omega)⟩
theorem cG6 (p:aQ) (hz:eX p≤1048576):DsP p:=(bN5 _).2 p (Nat.lt_succ_self _) hz
theorem cEe (c:aP) (hs:Q5 c) (p:aQ) (hz:eX p≤1048576):∃ b,aFr c p=some b∧aC6 c p=some b:=by
  obtain ⟨a,a1,a2⟩:=bIn c hs
  obtain ⟨b,b1,b2⟩:=bMf c hs
  have hab:a=b:=by rw [QO,a2,b2]
  subst hab
  obtain ⟨d1,d2,d3,d4,-⟩:=cG6 p hz
  unfold aFr aC6 aQi
  simp only [a1,b1,d1,d2,d3,d4,QB,QA]
  cases a with
  | false=>exact ⟨false,by simp,by simp⟩
  | true =>
  obtain ⟨r,r1,r2,r3⟩:=cDu c (bR2 (a2.1 rfl)) p [] hz (by intro r hr; simp at hr) (by simp)
  have q1:decide (24<dP p)=!decide (dP p≤24):=by rw [QO]; simp only [WP,decide_eq_true_eq,decide_eq_false_iff_not]; omega
  have q2:decide (200<sP p)=!decide (sP p≤200):=by rw [QO]; simp only [WP,decide_eq_true_eq,decide_eq_false_iff_not]; omega
  rw [r1,r2]
  simp only [q1,QF,beq_self_eq_true,WF,if_true,if_false,QD,QA]
  generalize decide (dP p≤24)=x
  cases x with
  | false=>exact ⟨false,by simp,by simp⟩
  | true =>
  simp only [QF,beq_self_eq_true,WF,if_true,if_false,QD,QA,q2]
  generalize decide (sP p≤200)=y
  cases y with
  | false=>exact ⟨false,by simp,by simp⟩
  | true=>exact ⟨r.2,by simp,by simp⟩
theorem aNv (a:Int):0≤QC .i64 ((BitVec.ofInt (WR .i64) a &&& BitVec.ofInt (WR .i64) 255).toNat:Int)∧QC .i64 ((BitVec.ofInt (WR .i64) a &&& BitVec.ofInt (WR .i64) 255).toNat:Int)≤255:=by
  have h:(BitVec.ofInt (WR .i64) a &&& BitVec.ofInt (WR .i64) 255).toNat≤255:=by
    rw [BitVec.toNat_and]
    exact QU Nat.and_le_right (by decide)
  rw [dY (by omega) (by omega)]
  omega
def okCur (c:aL):Prop:=0≤c.i∧c.i≤(c.b.length:Int)∧c.b.length≤1048576
theorem aHz (c:aL) (h:okCur c):∃ x c',A9 c=some (x,c')∧0≤x∧x≤255∧okCur c':=by
  obtain ⟨h1,h2,h3⟩:=h
  unfold A9 aHw
  by_cases hi:c.i<(c.b.length:Int)
  · have e:∃ v,idx c.b c.i=some v:=by
      unfold idx
      rw [if_pos h1]
      exact ⟨_,QQ (by omega)⟩
    obtain ⟨v,hv⟩:=e
    rw [if_pos (by simpa using hi),hv]
    simp only [QB,QA]
    refine ⟨_,_,rfl,(aNv _).1,(aNv _).2,?_⟩
    refine ⟨?_,?_,h3⟩
    · show 0≤QC .i64 (c.i+1); rw [dY (by omega) (by omega)]; omega
    · show QC .i64 (c.i+1)≤(c.b.length:Int); rw [dY (by omega) (by omega)]; omega
  · rw [if_neg (by simpa using hi)]
    exact ⟨_,_,rfl,(aNv _).1,(aNv _).2,h1,h2,h3⟩
theorem bJo {a b:Int} (h0:0≤a) (hb:0<b):∃ r,yE a b=some r∧0≤r∧r<b:=by
  unfold yE
  rw [if_neg (by omega)]
  exact ⟨_,rfl,Int.tmod_nonneg _ h0,Int.tmod_lt_of_pos _ hb⟩
theorem aD8 (c:aL) (n:Int) (h:okCur c):∃ x c',iI c n=some (x,c')∧0≤x∧(0<n→x<n)∧okCur c':=by
  unfold iI
  by_cases h0:n≤0
  · rw [if_pos (by simpa using h0)]; exact ⟨0,c,rfl,by omega,by omega,h⟩
  rw [if_neg (by simpa using h0)]
  by_cases h1:n≤256
  · rw [if_pos (by simpa using h1)]
    obtain ⟨x,c1,e1,a1,b1,o1⟩:=aHz c h
    obtain ⟨r,er,r0,r1⟩:=bJo a1 (b:=n) (by omega)
    simp only [e1,QB,QA,er]
    exact ⟨r,c1,rfl,r0,fun _=>r1,o1⟩
  · rw [if_neg (by simpa using h1)]
    obtain ⟨x1,c1,e1,a1,b1,o1⟩:=aHz c h
    obtain ⟨x2,c2,e2,a2,b2,o2⟩:=aHz c1 o1
    obtain ⟨x3,c3,e3,a3,b3,o3⟩:=aHz c2 o2
    obtain ⟨x4,c4,e4,a4,b4,o4⟩:=aHz c3 o3
    simp only [e1,e2,e3,e4,QB,QA]
    rw [dY (n:=x1 * 16777216) (by omega) (by omega),dY (n:=x2 * 65536) (by omega) (by omega),dY (n:=x3 * 256) (by omega) (by omega),dY (n:=x1 * 16777216+x2 * 65536) (by omega) (by omega),dY (n:=x1 * 16777216+x2 * 65536+x3 * 256) (by omega) (by omega),dY (n:=x1 * 16777216+x2 * 65536+x3 * 256+x4) (by omega) (by omega)]
    obtain ⟨r,er,r0,r1⟩:=bJo (a:=x1 * 16777216+x2 * 65536+x3 * 256+x4) (by omega) (b:=n) (by omega)
    rw [er]
    exact ⟨r,c4,rfl,r0,fun _=>r1,o4⟩
theorem cCo (c:aL) (n:Int) (h:okCur c):∃ x c',iJ c n=some (x,c')∧okCur c':=by
  obtain ⟨x,c1,e1,_,_,o1⟩:=aD8 c n h
  unfold iJ
  simp only [e1,QB,QA]
  exact ⟨_,_,rfl,o1⟩
theorem aX1 {α:Type} {l:List α} {x:Int} (h0:0≤x) (h1:x<(l.length:Int)):∃ v,v∈l∧idx l x=some v:=by
  unfold idx
  rw [if_pos h0]
  exact ⟨_,QE (by omega),QQ (by omega)⟩
theorem bLe (c:aL) (l:List (List UInt8)) (hl:0<l.length) (h:okCur c):∃ x c',uW c l=some (x,c')∧x∈l∧okCur c':=by
  obtain ⟨x,c1,e1,h0,h1,o1⟩:=aD8 c l.length h
  obtain ⟨v,hv,ev⟩:=aX1 h0 (h1 (by omega))
  unfold uW
  simp only [e1,ev,QB,QA]
  exact ⟨_,_,rfl,hv,o1⟩
theorem aY7 (c:aL) (l:List Int) (hl:0<l.length) (h:okCur c):∃ x c',aAl c l=some (x,c')∧x∈l∧okCur c':=by
  obtain ⟨x,c1,e1,h0,h1,o1⟩:=aD8 c l.length h
  obtain ⟨v,hv,ev⟩:=aX1 h0 (h1 (by omega))
  unfold aAl
  simp only [e1,ev,QB,QA]
  exact ⟨_,_,rfl,hv,o1⟩
theorem cI7 (p:List Int) (hp:p.length≤1048576):∃ c,aK1 p=some c∧okCur c:=by
  unfold aK1
  have key:∀ i,i≤p.length→∀ h,∃ c,R4 p h (i:Nat)=some c∧okCur c:=by
    refine eH ?_ ?_
    · intro h
      rw [R4]
      refine ⟨⟨p,0,h⟩,by simp,?_⟩
      exact ⟨by show (0:Int)≤0; omega,by show (0:Int)≤(p.length:Int); omega,hp⟩
    · intro i hi ih h
      rw [R4]
      by_cases h4:(i:Int)<4000
      · simp only [dD,hi,h4,decide_true,if_true,bH hi,dJ hi (by omega),QB,QA]
        exact ih _
      · simp only [dD,hi,h4,decide_true,decide_false,if_true,QD,if_false]
        exact ⟨⟨p,0,h⟩,rfl,by show (0:Int)≤0; omega,by show (0:Int)≤(p.length:Int); omega,hp⟩
  exact key 0 (by omega) _
def Yes {α:Type} (m:Option α) (Q:α→Prop):Prop:=∃ r,m=some r∧Q r
theorem Yes.bind {α β:Type} {m:Option α} {k:α→Option β} {Q:α→Prop} {R:β→Prop} (h:Yes m Q) (hk:∀ x,Q x→Yes (k x) R):Yes (m>>=k) R:=by
  obtain ⟨x,e,hx⟩:=h
  obtain ⟨r,e2,hr⟩:=hk x hx
  exact ⟨r,by rw [e]; exact e2,hr⟩
theorem Yes.some {α:Type} {x:α} {Q:α→Prop} (h:Q x):Yes (some x) Q:=⟨x,rfl,h⟩
theorem Yes.mono {α:Type} {m:Option α} {Q R:α→Prop} (h:Yes m Q) (hk:∀ x,Q x→R x):Yes m R:=by
  obtain ⟨x,e,hx⟩:=h; exact ⟨x,e,hk x hx⟩
theorem Yes.ite {α:Type} {c:Prop} [Decidable c] {m m':Option α} {Q:α→Prop} (h:c→Yes m Q) (h':¬ c→Yes m' Q):Yes (if c then m else m') Q:=by
  split
  · exact h (by assumption)
  · exact h' (by assumption)
theorem jZ (c:aL) (n:Int) (h:okCur c):Yes (iI c n) fun r=>0≤r.1∧(0<n→r.1<n)∧okCur r.2:=by
  obtain ⟨x,c',e,h1,h2,h3⟩:=aD8 c n h; exact ⟨_,e,h1,h2,h3⟩
theorem kW (c:aL) (n:Int) (h:okCur c):Yes (iJ c n) fun r=>okCur r.2:=by
  obtain ⟨x,c',e,h1⟩:=cCo c n h; exact ⟨_,e,h1⟩
theorem aE9 (p:Bool) (b:Bool) (c:aL) (n:Int) (h:okCur c):Yes (if (true&&(p==b))=true then iJ c n else some ((default:Bool),c)) fun r=>okCur r.2:=Yes.ite (fun _=>kW c n h) fun _=>Yes.some h
theorem cGg (c:aL) (l:List (List UInt8)) (hl:0<l.length) (h:okCur c):Yes (uW c l) fun r=>okCur r.2:=by
  obtain ⟨x,c',e,_,h1⟩:=bLe c l hl h; exact ⟨_,e,h1⟩
theorem mJ {α:Type} {b:Nat} {l m:List α} (h:(l.length+m.length) * b≤140737488355328):Yes (appG b l m) fun r=>r=l++m:=⟨_,nL h,rfl⟩
theorem aBr (c:aL) (l:List (List UInt8)) (hl:0<l.length) (h:okCur c):Yes (uW c l) fun r=>r.1∈l∧okCur r.2:=by
  obtain ⟨x,c',e,h0,h1⟩:=bLe c l hl h; exact ⟨_,e,h0,h1⟩
theorem cBs (c:aL) (h:okCur c):Yes (aIx c) fun r=>r.1.length≤8∧okCur r.2:=by
  unfold aIx
  refine Yes.bind (kW _ _ h) fun r k=>Yes.ite (fun _=>?_) fun _=>?_
  · refine Yes.bind (aBr _ _ (by decide) k) fun r ⟨hm,k⟩=>Yes.some ⟨?_,k⟩
    have:∀ v∈([[97,32,98],[102,114,111,109],[83,101,108,101,99,116],[49,120],[113,34,113],[0],[34],[105,116,39,115],[120,46,121],[45]]:List (List UInt8)),v.length≤8:=by decide
    exact this _ hm
  · refine Yes.bind (aBr _ _ (by decide) k) fun r ⟨hm,k⟩=>Yes.some ⟨?_,k⟩
    have:∀ v∈([[97],[98],[99],[116],[117],[118],[105,100],[110,97,109,101],[65],[95,120,49]]:List (List UInt8)),v.length≤8:=by decide
    exact this _ hm
theorem aCx (c:aL) (h:okCur c):Yes (wJ c) fun r=>okI r.1∧okCur r.2:=by
  obtain ⟨x,c1,e1,_,_,o1⟩:=aD8 c 3 h
  obtain ⟨y,c2,e2,hy,o2⟩:=aY7 c1 [0,1,(-1),63,64,(-64),(-65),127,128,16383,16384,9223372036854775807,(-9223372036854775808),4611686018427387904] (by decide) o1
  obtain ⟨z,c3,e3,z0,z1,o3⟩:=aD8 c1 1000000 o1
  obtain ⟨w,c4,e4,w0,w1,o4⟩:=aD8 c1 20 o1
  have hyI:okI y:=by
    have:∀ v∈([0,1,(-1),63,64,(-64),(-65),127,128,16383,16384,9223372036854775807,(-9223372036854775808),4611686018427387904]:List Int),-9223372036854775808≤v∧v≤9223372036854775807:=by decide
    exact this y hy
  have hz:=z1 (by decide)
  have hw:=w1 (by decide)
  unfold wJ
  simp only [e1,e2,e3,e4,QB,QA]
  split
  · exact ⟨_,rfl,hyI,o2⟩
  split
  · refine ⟨_,rfl,?_,o3⟩
    unfold okI; dsimp only; rw [dY (by omega) (by omega)]; omega
  · refine ⟨_,rfl,?_,o4⟩
    unfold okI; dsimp only; omega
def okV (B:Nat) (r:aA×aL):Prop:=okGValue r.1∧r.1.text.length≤B∧okCur r.2
theorem okV_mk {B:Nat} {k n:Int} {t:List UInt8} {c:aL} (h1:okI k) (h2:okI n) (h3:t.length≤B) (hB:B≤1000) (h:okCur c):okV B (⟨k,n,t⟩,c):=⟨⟨h1,h2,by unfold okS; dsimp only; omega⟩,h3,h⟩
theorem okI_small {n:Int} (h0 : -1000≤n) (h1:n≤1000):okI n:=by unfold okI; omega
theorem bUb (c:aL) (h:okCur c):Yes (aHq c) (okV 4):=by
  unfold aHq
  refine Yes.bind (jZ _ _ h) fun r ⟨_,_,k⟩=>Yes.ite (fun _=>?_) fun _=>Yes.ite (fun _=>?_) fun _=>Yes.ite (fun _=>?_) fun _=>Yes.ite (fun _=>?_) fun _=>?_
  · exact Yes.some (okV_mk (okI_small (by omega) (by omega)) (okI_small (by omega) (by omega)) (by simp) (by omega) k)
  · refine Yes.bind (aBr _ _ (by decide) k) fun r ⟨hm,k⟩=>?_
    have:∀ v∈([[],[97],[98],[105,116,39,115],[97,98],[255]]:List (List UInt8)),v.length≤4:=by decide
    exact Yes.bind (Q:=fun v=>v=⟨2,0,r.1⟩) ⟨_,rfl,rfl⟩ fun v hv=>Yes.some (by subst hv; exact okV_mk (okI_small (by omega) (by omega)) (okI_small (by omega) (by omega)) (this _ hm) (by omega) k)
  · refine Yes.bind (kW _ _ k) fun r k=>?_
    have:Yes (qV r.1) fun v=>okI v.kind∧okI v.num∧v.text=[]:=by
      cases r.1
      · exact ⟨_,rfl,okI_small (by decide) (by decide),okI_small (by decide) (by decide),rfl⟩
      · exact ⟨_,rfl,okI_small (by decide) (by decide),okI_small (by decide) (by decide),rfl⟩
    refine Yes.bind this fun v ⟨h1,h2,h3⟩=>Yes.some ?_
    obtain ⟨a,b,t⟩:=v
    dsimp only at h1 h2 h3
    subst h3
    exact okV_mk h1 h2 (by simp) (by omega) k
  · refine Yes.bind (aCx _ k) fun r ⟨h1,k⟩=>?_
    exact Yes.bind (Q:=fun v=>v=⟨1,r.1,[]⟩) ⟨_,rfl,rfl⟩ fun v hv=>Yes.some (by subst hv; exact okV_mk (okI_small (by omega) (by omega)) h1 (by simp) (by omega) k)
  · refine Yes.bind (jZ _ _ k) fun r ⟨h0,h1,k⟩=>?_
    have:=h1 (by decide)
    exact Yes.bind (Q:=fun v=>v=⟨1,QC .i64 (r.1 - 2),[]⟩) ⟨_,rfl,rfl⟩ fun v hv=>Yes.some (by subst hv; exact okV_mk (okI_small (by omega) (by omega)) (by rw [dY (by omega) (by omega)]; exact okI_small (by omega) (by omega)) (by simp) (by omega) k)
theorem aE7 (a b:Int) (q:Bool) (v:aA) (u t:Int) (ks:List aJ) (ss:List aQ):bJ (aJ.mk a b q v u t ks ss)=yL v+zL bJ ks+zL eX ss:=by
  obtain ⟨v0,v1,v2⟩:=v
  simp only [bJ,yL,aCl,aVu,zL]
theorem yZ {α:Type} {z:α→Nat} {B n:Nat}:∀ {l:List α},l.length≤n→(∀ y∈l,z y≤B)→zL z l≤n * (1+B):=by
  have key:∀ l:List α,(∀ y∈l,z y≤B)→zL z l≤l.length * (1+B):=fun l=>by
    induction l with
    | nil=>simp [zL]
    | cons x l ih =>
      intro h
      have h1:=ih fun y hy=>h y (WM _ hy)
      have h2:=h x (by simp)
      simp only [zL,QL,QK,WH,Nat.add_mul,YA] at h1 ⊢
      omega
  intro l hl h
  exact QU (key l h) (XI _ hl)
def pN (n:Int) (l:List (List UInt8)):Prop:=(l.length:Int)≤n∧∀ s∈l,s.length≤8
theorem mem1 {α:Type} {x:α} {p:α→Prop} (hx:p x):∀ y∈[x],p y:=fun y hy=>by
  have:y=x:=by simpa using hy
  rw [this]; exact hx
theorem uH {α:Type} {l:List α} {x:α} {p:α→Prop} (h:∀ y∈l,p y) (hx:p x):∀ y∈l++[x],p y:=fun y hy=>by
  rcases QR.1 hy with hy | hy
  · exact h y hy
  · have:y=x:=by simpa using hy
    rw [this]; exact hx
def Zb:Nat→Nat
  | 0=>10
  | n+1=>60+11 * Zb n
theorem cGc (n:Nat):10≤Zb n:=by cases n <;> simp only [Zb] <;> omega
def FZ (B:Nat) (r:aJ×aL):Prop:=bJ r.1≤B∧okCur r.2
def KZ (B m:Nat) (r:List aJ×aL):Prop:=(r.1.length≤m∧∀ y∈r.1,bJ y≤B)∧okCur r.2
def PZ (B:Nat) (r:aQ×aL):Prop:=eX r.1≤40+8 * B∧okCur r.2
theorem zV {v:aA} {B:Nat} (h:v.text.length≤B) (hn:okI v.num):yL v≤B:=by
  obtain ⟨a,b,c⟩:=v
  show c.length+zN b≤B
  rw [zN0 hn]; exact h
theorem cBz {v:aA} (h:yL v≤1048576):okI v.num:=by
  obtain ⟨a,b,c⟩:=v
  change c.length+zN b≤_ at h
  unfold zN at h
  split at h
  · assumption
  · omega
theorem bMk (c:aL) (ty:Int) (h:okCur c):Yes (aEq c ty) fun r=>(r.1.text.length≤4∧okI r.1.num)∧okCur r.2:=by
  have o0:okI 0:=by decide
  have o1:okI 1:=by decide
  unfold aEq
  refine Yes.bind (kW _ _ h) fun r k=>Yes.ite (fun _=>Yes.some ⟨⟨by simp,o0⟩,k⟩) fun _=>Yes.ite (fun _=>?_) fun _=>Yes.ite (fun _=>?_) fun _=>?_
  · refine Yes.bind (aBr _ _ (by decide) k) fun r ⟨hm,k⟩=>?_
    have:∀ v∈([[],[97],[98],[97,98]]:List (List UInt8)),v.length≤4:=by decide
    exact Yes.bind (Q:=fun v=>v.text.length≤4∧okI v.num) ⟨_,rfl,this _ hm,o0⟩ fun v hv=>Yes.some ⟨hv,k⟩
  · refine Yes.bind (kW _ _ k) fun r k=>Yes.bind (Q:=fun v:aA=>v.text.length≤4∧okI v.num) ?_ fun v hv=>Yes.some ⟨hv,k⟩
    unfold qV
    exact Yes.ite (fun _=>Yes.some ⟨by simp,o1⟩) fun _=>Yes.some ⟨by simp,o0⟩
  · exact Yes.bind (aCx _ k) fun r ⟨hi,k⟩=>Yes.bind (Q:=fun v:aA=>v.text.length≤4∧okI v.num) ⟨_,rfl,by simp,hi⟩ fun v hv=>Yes.some ⟨hv,k⟩
theorem bX0 (c:aL) (l:List Int) (hl:0<l.length) (h:okCur c):Yes (aAl c l) fun r=>r.1∈l∧okCur r.2:=by
  obtain ⟨x,c',e,hm,k⟩:=aY7 c l hl h
  exact ⟨_,e,hm,k⟩
theorem bE8 (c:aL) (ty:Int) (h:okCur c):Yes (aCv c ty) fun r=>(r.1.text.length≤4∧okI r.1.num)∧okCur r.2:=by
  unfold aCv aLy
  refine Yes.bind (bMk c ty h) fun r ⟨h1,k⟩=>Yes.ite (fun _=>Yes.bind (bX0 _ _ (by decide) k) fun q ⟨hm,k⟩=>Yes.some ⟨⟨h1.1,?_⟩,k⟩) fun _=>Yes.some ⟨h1,k⟩
  have:∀ v∈([0,1,2,3,5,1,2,9223372036854775807]:List Int),okI v:=by decide
  exact this _ hm
theorem bU9 (c:aL) (env:List (List Int)) (hv:lX env) (hl:env.length≤4194304) (ty:Int) (h:okCur c):Yes (aFp c env ty) (FZ 10):=by
  have key:∀ i,i≤env.length→∀ x b0 b3 b4 (t:List UInt8) u a b j g,(t.length≤4∧okI b4)→okCur ⟨b,j,g⟩→Yes (aDt env ty x (i:Nat) b0 b3 b4 (t,u,a,b,j,g)) (FZ 10):=by
    refine eH ?_ ?_
    · intro x b0 b3 b4 t u a b j g ht k
      rw [aDt,if_neg (by simp)]
      refine Yes.some ⟨?_,k⟩
      have:=zV (v:=⟨b3,b4,t⟩) ht.1 ht.2
      rw [aE7]; simp [zL]; omega
    · intro i hi ih x b0 b3 b4 t u a b j g ht k
      rw [aDt,if_pos (by simpa using hi)]
      have hr:=(hv _ (QE hi)).1
      have inner:∀ m,m≤env[i].length→∀ x b0 b3 b4 (t:List UInt8) u a b j g,(t.length≤4∧okI b4)→okCur ⟨b,j,g⟩→Yes (aDh env ty (i:Nat) x (m:Nat) b0 b3 b4 (t,u,a,b,j,g)) (FZ 10):=by
        refine eH ?_ ?_
        · intro x b0 b3 b4 t u a b j g ht k
          rw [aDh]
          simp only [bH hi,dD,WO,decide_false,QD,if_false,dJ hi (by omega),QB,QA]
          exact ih _ _ _ _ _ _ _ _ _ _ ht k
        · intro m hm im x b0 b3 b4 t u a b j g ht k
          have J2:∀ x b0 b3 b4 (t:List UInt8) u a b j g,(t.length≤4∧okI b4)→okCur ⟨b,j,g⟩→Yes (Z7 env ty (i:Nat) (m:Nat) x b0 b3 b4 (t,u,a,b,j,g)) (FZ 10):=by
            intro x b0 b3 b4 t u a b j g ht k
            rw [Z7,dJ hm (by omega)]
            exact im _ _ _ _ _ _ _ _ _ _ ht k
          rw [aDh]
          simp only [bH hi,dD,hm,decide_true,if_true,bH hm,QB,QA]
          refine Yes.ite (fun _=>?_) fun _=>J2 _ _ _ _ _ _ _ _ _ _ ht k
          exact Yes.bind (kW _ _ k) fun r k=>Yes.ite (fun _=>J2 _ _ _ _ _ _ _ _ _ _ ⟨by simp,by decide⟩ k) fun _=>J2 _ _ _ _ _ _ _ _ _ _ ht k
      simpa using inner 0 (by omega) x b0 b3 b4 t u a b j g ht k
  unfold aFp
  refine Yes.bind (bE8 c ty h) fun r ⟨h1,k⟩=>?_
  simpa using key 0 (by omega) _ _ _ _ _ _ _ _ _ _ h1 k
theorem cB8 (B:Nat) (cat:aP) (env:List (List Int)) (ty d:Int) (m:Int) (hm:m≤4) (H:∀ c,okCur c→Yes (rP c cat env ty (QC .i64 (d - 1))) (FZ B)) (c:aL) (h:okCur c):Yes (oH c cat env ty d m) (KZ B 4):=by
  have key:∀ (k:Nat) (i:Int) b j h (l:List aJ),m≤k+i→0≤i→i≤4→(l.length:Int)≤i→(∀ y∈l,bJ y≤B)→okCur ⟨b,j,h⟩→Yes (xY env ty d m cat i (b,j,h,l)) (KZ B 4):=by
    intro k
    induction k with
    | zero =>
      intro i b j h l h1 h2 h3 h4 h5 h6
      rw [xY,if_neg (by simp; omega)]
      exact Yes.some ⟨⟨by show l.length≤4; omega,h5⟩,h6⟩
    | succ k ih =>
      intro i b j h l h1 h2 h3 h4 h5 h6
      rw [xY]
      refine Yes.ite (fun hi=>?_) fun _=>Yes.some ⟨⟨by show l.length≤4; omega,h5⟩,h6⟩
      have hi':i<m:=by simpa using hi
      refine Yes.bind (H _ h6) fun r ⟨hz,hr⟩=>Yes.bind (mJ (by simp; omega)) fun y hy=>?_
      subst hy
      rw [dY (by omega) (by omega)]
      exact ih _ _ _ _ _ (by omega) (by omega) (by omega) (by simp; omega) (uH h5 hz) hr
  rw [oH]
  exact key m.toNat 0 c.b c.i c.h [] (by omega) (by omega) (by omega) (by simp) (by simp) h
def qO (n:Int) (B:Nat) (o:List (List aJ)):Prop:=(o.length:Int)≤n∧∀ l∈o,l.length≤1∧∀ y∈l,bJ y≤B
def qL (n:Int) (B:Nat) (l:List aJ):Prop:=(l.length:Int)≤n∧∀ y∈l,bJ y≤B
def qK (B:Nat) (l:List dV):Prop:=l.length≤1∧∀ k∈l,bJ k.expr≤B
theorem aOh {B:Nat} {t:List Int} {o:List (List aJ)} {w i:List aJ} {r:List dV} {n:List (List UInt8)} {d:Bool} {l:Int} (ht:t.length≤2) (ho:qO 2 B o) (hw:qL 1 B w) (hr:qK B r) (hi:qL 2 B i) (hn:pN 2 n):eX (aQ.mk t o w r i n d l)≤40+8 * B:=by
  obtain ⟨o1,o2⟩:=ho
  obtain ⟨w1,w2⟩:=hw
  obtain ⟨r1,r2⟩:=hr
  obtain ⟨i1,i2⟩:=hi
  obtain ⟨n1,n2⟩:=hn
  have e1:eX (aQ.mk t o w r i n d l)=zTb t+zL z0 t+zL (zL bJ) o+zL bJ w+zL Y2 r+zL bJ i+zL WT n:=by simp only [eX,aCl,aPf,aQh,zL]
  have a1:=yZ (z:=z0) (B:=0) (n:=2) (l:=t) (by omega) (fun _ _=>by simp [z0])
  have a2:=yZ (z:=zL bJ) (B:=1 * (1+B)) (n:=2) (l:=o) (by omega) (fun y hy=>yZ (o2 y hy).1 fun x hx=>(o2 y hy).2 x hx)
  have a3:=yZ (z:=bJ) (B:=B) (n:=1) (l:=w) (by omega) (fun y hy=>w2 y hy)
  have a4:=yZ (z:=Y2) (B:=B) (n:=1) (l:=r) (by omega) (fun y hy=>by have:=r2 y hy; obtain ⟨p,q⟩:=y; simpa only [Y2] using this)
  have a5:=yZ (z:=bJ) (B:=B) (n:=2) (l:=i) (by omega) (fun y hy=>i2 y hy)
  have a6:=yZ (z:=WT) (B:=8) (n:=2) (l:=n) (by omega) n2
  have a0:zTb t=0:=by unfold zTb; omega
  rw [e1]; omega
theorem aPa {cat:aP} (hc:rO cat) {env:List (List Int)} (hv:lX env) {l:List Int} (hl:l.length≤1000):lX ((lD cat [] l).1::env):=by
  obtain ⟨a,b⟩:=aMh cat hc l [] (by simp)
  exact aZs (by simp only [WD] at b; omega) a hv
theorem cHr {B:Nat} {d:Int} {cat:aP} (hc:rO cat) (env:List (List Int)) (hv:lX env) (hl:env.length≤1000) (types:List Int) (hty:types.length≤2)
    (H:∀ c ty env',lX env'→env'.length=env.length+1→okCur c→Yes (rP c cat env' ty d) (FZ B)) (c:aL) (h:okCur c):Yes (yG c cat env types d) (PZ B):=by
  have J4:∀ y1 (w:List aJ) n i o t b j g r,qL 1 B w→pN 2 n→qL 2 B i→qO 2 B o→t.length≤2→qK B r→okCur ⟨b,j,g⟩→Yes (Z6 y1 w n i o t b j g r) (PZ B):=fun y1 w n i o t b j g r hw hn hi ho ht hr k=>by
    unfold Z6 aFe
    refine Yes.bind (kW _ _ k) fun q k=>Yes.ite (fun _=>?_) fun _=>?_
    · exact Yes.bind (jZ _ _ k) fun q ⟨_,_,k⟩=>Yes.some ⟨aOh ht ho hw hr hi hn,k⟩
    · exact Yes.some ⟨aOh ht ho hw hr hi hn,k⟩
  have J3:∀ env' y1 n i o t b j g (w:List aJ),lX env'→env'.length=env.length+1→qL 1 B w→pN 2 n→qL 2 B i→qO 2 B o→t.length≤2→okCur ⟨b,j,g⟩→Yes (P7 d env' cat y1 n i (o,t,b,j,g,w)) (PZ B):=fun env' y1 n i o t b j g w he hel hw hn hi ho ht k=>by
    rw [P7]
    refine Yes.bind (kW _ _ k) fun q k=>Yes.ite (fun _=>?_) fun _=>?_
    · refine Yes.bind (jZ _ _ k) fun q ⟨_,_,k⟩=>Yes.bind (H _ _ _ he hel k) fun q ⟨hq,k⟩=>Yes.bind (kW _ _ k) fun q2 k=>Yes.bind (mJ (by simp)) fun z hz=>?_
      subst hz
      exact J4 _ _ _ _ _ _ _ _ _ _ hw hn hi ho ht ⟨by simp,mem1 (p:=fun (k:dV)=>bJ k.expr≤B) hq⟩ k
    · exact J4 _ _ _ _ _ _ _ _ _ _ hw hn hi ho ht ⟨by simp,by simp⟩ k
  have L2:∀ env' y1 o t,lX env'→env'.length=env.length+1→qO 2 B o→t.length≤2→∀ x,x≤types.length→∀ b j g n i,pN x n→qL x B i→okCur ⟨b,j,g⟩→Yes (xN types d env' cat y1 o t ((x:Nat),b,j,g,n,i)) (PZ B):=by
    intro env' y1 o t he hel ho ht
    refine eH ?_ ?_
    · intro b j g n i hn hi k
      rw [xN,if_neg (by simp)]
      have hn2:pN 2 n:=⟨by have:=hn.1; omega,hn.2⟩
      have hi2:qL 2 B i:=⟨by have:=hi.1; omega,hi.2⟩
      refine Yes.bind (kW _ _ k) fun q k=>Yes.ite (fun _=>?_) fun _=>?_
      · exact Yes.bind (H _ _ _ he hel k) fun q ⟨hq,k⟩=>J3 _ _ _ _ _ _ _ _ _ _ he hel ⟨by simp,mem1 hq⟩ hn2 hi2 ho ht k
      · exact J3 _ _ _ _ _ _ _ _ _ _ he hel ⟨by simp,by simp⟩ hn2 hi2 ho ht k
    · intro x hx ih b j g n i hn hi k
      rw [xN,if_pos (by simpa using hx)]
      have l1:=hn.1
      have l2:=hi.1
      simp only [bH hx,dJ hx (by omega),QB,QA]
      refine Yes.bind (H _ _ _ he hel k) fun q ⟨hq,k⟩=>Yes.bind (mJ (by simp; omega)) fun z hz=>Yes.bind (aBr _ _ (by decide) k) fun s ⟨hs,k⟩=>Yes.bind (mJ (by simp; omega)) fun z2 hz2=>?_
      subst hz hz2
      have hs8:s.1.length≤8:=by
        have:∀ v∈([[97],[98],[99],[120],[121,32,122],[99,49]]:List (List UInt8)),v.length≤8:=by decide
        exact this _ hs
      exact ih _ _ _ _ _ ⟨by simp; omega,uH hn.2 hs8⟩ ⟨by simp; omega,uH hi.2 hq⟩ k
  have L0:∀ (y2:Int×aL) y1,0≤y2.1→y2.1<2→∀ (m:Nat) (x:Int) b j g o (t:List Int),2≤m+x→0≤x→x≤2→qO x B o→(t.length:Int)≤x→okCur ⟨b,j,g⟩→Yes (vD env types d y2 cat y1 (x,b,j,g,o,t)) (PZ B):=by
    intro y2 y1 y0 yl m
    have e0:QC .i64 (1+y2.1)=1+y2.1:=dY (by omega) (by omega)
    have fin:∀ (x:Int) b j g o (t:List Int),¬ x<1+y2.1→x≤2→qO x B o→(t.length:Int)≤x→okCur ⟨b,j,g⟩→Yes (vD env types d y2 cat y1 (x,b,j,g,o,t)) (PZ B):=by
      intro x b j g o t hx h2 ho ht k
      rw [vD]
      dsimp only
      rw [e0,if_neg (by simpa using hx),(aB5 cat hc t (by omega)).2]
      simp only [QB,QA]
      rw [(aFs _ env (by omega)).2]
      simp only [QA]
      exact L2 _ y1 o t (aPa hc hv (by omega)) (by simp) ⟨by have:=ho.1; omega,ho.2⟩ (by omega) 0 (by omega) _ _ _ _ _ ⟨by simp,by simp⟩ ⟨by simp,by simp⟩ k
    induction m with
    | zero=>intro x b j g o t h1 h2 h3 ho ht k; exact fin x b j g o t (by omega) h3 ho ht k
    | succ m ih =>
      intro x b j g o t h1 h2 h3 ho ht k
      by_cases hx:x<1+y2.1
      · rw [vD]
        dsimp only
        rw [e0,if_pos (by simpa using hx)]
        have l1:=ho.1
        have J1:∀ (q:Int) (w:List aJ) b j g,w.length≤1→(∀ y∈w,bJ y≤B)→okCur ⟨b,j,g⟩→Yes (Y9 env types d y2 x cat y1 (t++[q],o,b,j,g,w)) (PZ B):=fun q w b j g hw1 hw2 k=>by
          rw [Y9]
          refine Yes.bind (mJ (by simp; omega)) fun z hz=>?_
          subst hz
          rw [dY (by omega) (by omega)]
          exact ih _ _ _ _ _ _ (by omega) (by omega) (by omega) ⟨by simp; omega,uH ho.2 ⟨hw1,hw2⟩⟩ (by simp; omega) k
        refine Yes.bind (jZ _ _ k) fun q ⟨q0,q1,k⟩=>Yes.bind (mJ (by simp; omega)) fun z hz=>?_
        subst hz
        rw [(aB5 cat hc (t++[q.1]) (by simp; omega)).2]
        simp only [QB,QA]
        refine Yes.bind (aE9 _ _ _ _ k) fun q2 k=>?_
        refine Yes.ite (fun _=>?_) fun _=>?_
        · rw [(aFs _ env (by omega)).2]
          simp only [QA]
          refine Yes.bind (H _ _ _ (aPa hc hv (by simp; omega)) (by simp) k) fun e ⟨he,k⟩=>Yes.bind (mJ (by simp)) fun z hz=>?_
          subst hz
          exact J1 _ _ _ _ _ (by simp) (mem1 he) k
        · exact J1 _ _ _ _ _ (by simp) (by simp) k
      · exact fin x b j g o t hx h3 ho ht k
  rw [yG]
  refine Yes.bind (kW _ _ h) fun y1 k=>Yes.bind (jZ _ _ k) fun y2 ⟨q0,q1,k⟩=>?_
  exact L0 y2 y1 q0 (q1 (by decide)) 2 0 _ _ _ _ _ (by omega) (by omega) (by omega) ⟨by simp,by simp⟩ (by simp) k
theorem yQ {B:Nat} {a b u t:Int} {q:Bool} {ks:List aJ} (hk:ks.length≤4∧∀ y∈ks,bJ y≤B):bJ (aJ.mk a b q ⟨0,0,[]⟩ u t ks [])≤60+11 * B:=by
  have v0:yL ⟨0,0,[]⟩=0:=by decide
  rw [aE7,v0]; have:=yZ (z:=bJ) hk.1 hk.2; simp only [zL,WD,XN,XO] at this ⊢; omega
theorem bG6 {B:Nat} {a b u t:Int} {q:Bool} {ks:List aJ} {p:aQ} (hk:ks.length≤1∧∀ y∈ks,bJ y≤B) (hp:eX p≤40+8 * B):bJ (aJ.mk a b q ⟨0,0,[]⟩ u t ks [p])≤60+11 * B:=by
  have v0:yL ⟨0,0,[]⟩=0:=by decide
  rw [aE7,v0]; have:=yZ (z:=bJ) hk.1 hk.2; simp only [zL,WD,QL,QK,XN,WH,XO] at *; omega
theorem bUk (B:Nat) (cat:aP) (env:List (List Int)) (ty d:Int) (H:∀ c,okCur c→Yes (rP c cat env ty (QC .i64 (d - 1))) (FZ B)) (c:aL) (h:okCur c):Yes (oH c cat env ty d 1) (KZ B 1):=by
  rw [oH,xY,if_pos (by simp)]
  refine Yes.bind (H _ h) fun r ⟨hz,hr⟩=>Yes.bind (mJ (by simp)) fun y hy=>?_
  subst hy
  rw [xY,if_neg (by decide)]
  exact Yes.some ⟨⟨by simp,by simpa using hz⟩,hr⟩
theorem bLx (c:aL) (env:List (List Int)) (hv:lX env) (hl:env.length≤4194304) (ty:Int) (h:okCur c) (B:Nat) (hB:10≤B):Yes ((iJ c 3)>>=fun (y3:Bool×aL)=>if y3.1=true then ((aCv y3.2 ty)>>=fun (y4:aA×aL)=>some ((aJ.mk 1 0 false y4.1 0 0 ([]:List aJ) ([]:List aQ)),y4.2)) else ((aFp y3.2 env ty)>>=fun (y5:aJ×aL)=>some (y5.1,y5.2))) (FZ B):=by
  refine Yes.bind (kW _ _ h) fun r k=>Yes.ite (fun _=>?_) fun _=>?_
  · refine Yes.bind (bE8 _ _ k) fun r ⟨h1,k⟩=>Yes.some ⟨?_,k⟩
    dsimp only
    have:=zV h1.1 h1.2
    rw [aE7]; simp [zL]; omega
  · exact Yes.bind (bU9 _ env hv hl ty k) fun r ⟨h1,k⟩=>Yes.some ⟨by show bJ r.1≤B; omega,k⟩
theorem cAl {cat:aP} (hc:rO cat):∀ (n:Nat) (d:Int) (c:aL) (ty:Int) (env:List (List Int)),-100≤d→d≤n→n≤4→lX env→env.length+n≤1000→okCur c→Yes (rP c cat env ty d) (FZ (Zb n)):=by
  intro n
  induction n with
  | zero =>
    intro d c ty env hd0 hd _ hv hl h
    rw [rP]
    refine Yes.bind (aE9 _ _ _ _ h) fun r k=>Yes.bind (Q:=fun q=>q=true) ⟨_,rfl,by rw [if_pos (by simpa using hd)]⟩ fun q hq=>?_
    rw [if_pos hq]
    exact bLx _ env hv (by omega) ty k _ (XA _)
  | succ n ih =>
    intro d c ty env hd0 hd hn hv hl h
    have hB:Zb (n+1)=60+11 * Zb n:=rfl
    rw [rP]
    refine Yes.bind (aE9 _ _ _ _ h) fun r k=>Yes.bind (Q:=fun q=>q=true∨0<d) ⟨_,rfl,?_⟩ fun q hq=>Yes.ite (fun _=>bLx _ env hv (by omega) ty k _ (cGc _)) fun hq2=>?_
    · by_cases h0:d≤0
      · exact .inl (by rw [if_pos (by simpa using h0)])
      · exact .inr (by omega)
    have h0:0<d:=hq.resolve_left hq2
    rw [hB]
    have e1:QC .i64 (d - 1)=d - 1:=dY (by omega) (by omega)
    have K:∀ m c ty,m≤4→okCur c→Yes (oH c cat env ty d m) (KZ (Zb n) 4):=fun m c ty hm k=>cB8 (Zb n) cat env ty d m hm (fun c k=>by rw [e1]; exact ih _ c ty env (by omega) (by omega) (by omega) hv (by omega) k) c k
    have K1:∀ c ty,okCur c→Yes (oH c cat env ty d 1) (KZ (Zb n) 1):=fun c ty k=>bUk (Zb n) cat env ty d (fun c k=>by rw [e1]; exact ih _ c ty env (by omega) (by omega) (by omega) hv (by omega) k) c k
    have P2:∀ c (t:Int),1<d→okCur c→Yes (yG c cat env [t] (QC .i64 (d - 2))) (PZ (Zb n)):=fun c t h2 k=>by
      rw [dY (n:=d - 2) (by omega) (by omega)]
      exact cHr hc env hv (by omega) [t] (by simp) (fun c ty env' he hel k=>ih _ c ty env' (by omega) (by omega) (by omega) he (by omega) k) c k
    have J1:∀ (y1 y3:Int×aL),okCur y3.2→Yes (aB3 env d y1 cat y3) (FZ (60+11 * Zb n)):=fun y1 y3 k=>by
      rw [aB3]
      exact Yes.bind (jZ _ _ k) fun r ⟨_,_,k⟩=>Yes.bind (K 2 _ _ (by omega) k) fun r2 ⟨hk,k⟩=>Yes.some ⟨yQ hk,k⟩
    have J0:∀ (y1:Int×aL) (y2:Bool×aL) (y3:Int×aL) x,okCur y3.2→Yes (aFd env d y1 y2 y3 cat x) (FZ (60+11 * Zb n)):=fun y1 y2 y3 x k=>by
      rw [aFd]
      refine Yes.ite (fun _=>?_) fun _=>Yes.ite (fun _=>?_) fun _=>Yes.ite (fun _=>?_) fun _=>Yes.ite (fun _=>?_) fun _=>Yes.ite (fun _=>?_) fun _=>Yes.ite (fun _=>?_) fun _=>Yes.ite (fun _=>?_) fun _=>J1 _ _ k
      · exact Yes.bind (jZ _ _ k) fun r ⟨_,_,k⟩=>Yes.bind (K 2 _ _ (by omega) k) fun r2 ⟨hk,k⟩=>Yes.some ⟨yQ hk,k⟩
      · exact Yes.bind (K 1 _ _ (by omega) k) fun r2 ⟨hk,k⟩=>Yes.some ⟨yQ hk,k⟩
      · exact Yes.bind (K 1 _ _ (by omega) k) fun r2 ⟨hk,k⟩=>Yes.some ⟨yQ hk,k⟩
      · exact Yes.bind (K 3 _ _ (by omega) k) fun r2 ⟨hk,k⟩=>Yes.some ⟨yQ hk,k⟩
      · refine Yes.bind (jZ _ _ k) fun r ⟨r0,r1,k⟩=>?_
        have:=r1 (by decide)
        exact Yes.bind (K _ _ _ (by rw [dY (by omega) (by omega)]; omega) k) fun r2 ⟨hk,k⟩=>Yes.some ⟨yQ hk,k⟩
      · refine Yes.ite (fun h2=>?_) fun _=>J1 _ _ k
        exact Yes.bind (K1 _ _ k) fun r2 ⟨hk,k⟩=>Yes.bind (P2 _ _ (by simpa using h2) k) fun r3 ⟨hp,k⟩=>Yes.some ⟨bG6 hk hp,k⟩
      · refine Yes.ite (fun h2=>?_) fun _=>J1 _ _ k
        exact Yes.bind (P2 _ _ (by simpa using h2) k) fun r3 ⟨hp,k⟩=>Yes.some ⟨bG6 ⟨by simp,by simp⟩ hp,k⟩
    refine Yes.ite (fun _=>?_) fun _=>Yes.ite (fun _=>?_) fun _=>?_
    · refine Yes.bind (kW _ _ k) fun r k=>Yes.ite (fun _=>?_) fun _=>?_
      · exact Yes.bind (K 1 _ _ (by omega) k) fun r2 ⟨hk,k⟩=>Yes.some ⟨yQ hk,k⟩
      · exact Yes.bind (jZ _ _ k) fun r ⟨_,_,k⟩=>Yes.bind (K 2 _ _ (by omega) k) fun r2 ⟨hk,k⟩=>Yes.some ⟨yQ hk,k⟩
    · exact Yes.bind (K 2 _ _ (by omega) k) fun r2 ⟨hk,k⟩=>Yes.some ⟨yQ hk,k⟩
    · refine Yes.bind (Q:=FZ (60+11 * Zb n)) ?_ fun r hr=>Yes.some hr
      rw [aOo]
      exact Yes.bind (jZ _ _ k) fun y1 ⟨_,_,k⟩=>Yes.bind (kW _ _ k) fun y2 k=>Yes.bind (jZ _ _ k) fun y3 ⟨_,_,k⟩=>Yes.ite (fun _=>J0 _ _ _ _ k) fun _=>J0 _ _ _ _ k
def CR (c:aP):Prop:=(1≤c.tables.length∧c.tables.length≤3)∧∀ t∈c.tables,(1≤t.cols.length∧t.cols.length≤3)∧∀ x∈qM t,okT x
theorem CR.cat {c:aP} (h:CR c):rO c:=⟨by have:=h.1; omega,fun t ht=>⟨by have:=(h.2 t ht).1; omega,(h.2 t ht).2⟩⟩
def okCR (r:aP×aL):Prop:=CR r.1∧okCur r.2
theorem bTi (n s:List UInt8):xQ ⟨n,[]⟩ s=some (-1):=by unfold xQ; rw [zF]; simp
theorem bIo {i:Nat} (h:i≤1000):QC .i64 ((i:Int)+1)=((i+1:Nat):Int):=by rw [dY (by omega) (by omega)]; omega
theorem bNk (y1:Int×aL) (h0:0≤y1.1) (h3:y1.1<3):∀ (k i:Nat) b j h (T:List eP),3≤k+i→i≤3→T.length=i→(∀ t∈T,(1≤t.cols.length∧t.cols.length≤3)∧∀ x∈qM t,okT x)→okCur ⟨b,j,h⟩→Yes (aA6 y1 i T b j h) okCR:=by
  intro k
  induction k with
  | zero =>
    intro i b j h T h1 h2 hT hC hc
    rw [aA6,if_neg (by rw [decide_eq_true_eq,dY (by omega) (by omega)]; omega)]
    exact Yes.some ⟨⟨⟨by dsimp only; omega,by dsimp only; omega⟩,hC⟩,hc⟩
  | succ k ih =>
    intro i b j h T h1 h2 hT hC hc
    rw [aA6]
    by_cases hi:(i:Int)<QC .i64 (1+y1.1)
    case neg =>
      rw [if_neg (by rw [decide_eq_true_eq]; exact hi)]
      rw [dY (by omega) (by omega)] at hi
      exact Yes.some ⟨⟨⟨by dsimp only; omega,by dsimp only; omega⟩,hC⟩,hc⟩
    rw [if_pos (decide_eq_true hi)]
    rw [dY (by omega) (by omega)] at hi
    have hi3:i<([[116],[117],[118]]:List (List UInt8)).length:=by show i<3; omega
    rw [bH hi3]
    simp only [QB,QA]
    refine Yes.bind (jZ _ _ hc) fun y3 ⟨k0,k1,hc3⟩=>?_
    have k1:=k1 (by omega)
    generalize ([[116],[117],[118]]:List (List UInt8))[i]=y2
    have fin:∀ b j h (C:List gJ),(1≤C.length∧C.length≤3)→(∀ x∈C.map gJ.type,okT x)→okCur ⟨b,j,h⟩→Yes (appG 40 T ([(eP.mk y2 C)]:List eP)>>=fun y14=>aA6 y1 (QC .i64 ((i:Int)+1)) y14 b j h) okCR:=by
      intro b j h C hl ht hc
      refine Yes.bind (mJ (by simp; omega)) fun y e=>?_
      subst e
      rw [bIo (by omega)]
      exact ih (i+1) _ _ _ _ (by omega) (by omega) (by simp; omega) (uH hC ⟨hl,ht⟩) hc
    have inner:∀ (m x:Nat) b j h (C:List gJ),3≤m+x→x≤3→C.length≤x→(1≤x→1≤C.length)→(∀ x∈C.map gJ.type,okT x)→okCur ⟨b,j,h⟩→Yes (aBf y1 i y3 T y2 x (C,b,j,h)) okCR:=by
      intro m
      induction m with
      | zero =>
        intro x b j h C m1 m2 hl hl1 ht hc
        rw [aBf,if_neg (by rw [decide_eq_true_eq,dY (by omega) (by omega)]; omega)]
        exact fin b j h C ⟨hl1 (by omega),by omega⟩ ht hc
      | succ m ihm =>
        intro x b j h C m1 m2 hl hl1 ht hc
        rw [aBf]
        by_cases hx:(x:Int)<QC .i64 (1+y3.1)
        case neg =>
          rw [if_neg (by rw [decide_eq_true_eq]; exact hx)]
          rw [dY (by omega) (by omega)] at hx
          exact fin b j h C ⟨hl1 (by omega),by omega⟩ ht hc
        rw [if_pos (decide_eq_true hx)]
        rw [dY (by omega) (by omega)] at hx
        have J3:∀ b j h (C:List gJ),C.length≤x+1→1≤C.length→(∀ x∈C.map gJ.type,okT x)→okCur ⟨b,j,h⟩→Yes (aD2 y1 i y3 x T y2 (b,j,h,C)) okCR:=by
          intro b j h C hl hl1 ht hc
          rw [aD2,bIo (by omega)]
          exact ihm (x+1) _ _ _ _ (by omega) (by omega) hl (fun _=>hl1) ht hc
        have J2:∀ (y8:Int×aL) (nm:List UInt8) b j h,okT y8.1→okCur ⟨b,j,h⟩→Yes (aEw y1 i y3 x T y2 C (y8,nm,b,j,h)) okCR:=by
          intro y8 nm b j h h8 hc
          rw [aEw]
          obtain ⟨_,r,hr⟩:=aYk ⟨y2,C⟩ nm (by dsimp only; omega)
          rw [hr]
          simp only [QB,QA]
          refine Yes.ite (fun _=>?_) fun hn=>?_
          · refine Yes.bind (mJ (by simp; omega)) fun y e=>?_
            subst e
            refine J3 _ _ _ _ (by simp; omega) (by simp) ?_ hc
            rw [XD]
            exact uH ht h8
          · refine J3 _ _ _ _ (by omega) ?_ ht hc
            cases C with
            | cons _ _=>simp
            | nil =>
              rw [bTi] at hr
              simp only [QH] at hr
              subst hr
              simp at hn
        refine Yes.bind (cGg _ _ (by decide) hc) fun y7 hc=>?_
        obtain ⟨v,c',e,hv,hc⟩:=aY7 y7.2 [1,1,2,3] (by decide) hc
        have h8:okT v:=by
          have:∀ v∈([1,1,2,3]:List Int),0≤v∧v≤3:=by decide
          exact this v hv
        rw [e]
        simp only [QB,QA]
        refine Yes.bind (kW _ _ hc) fun y9 hc=>?_
        refine Yes.ite (fun _=>?_) fun _=>J2 _ _ _ _ _ h8 hc
        exact Yes.bind (cBs _ hc) fun y10 ⟨_,hc⟩=>J2 _ _ _ _ _ h8 hc
    exact inner 3 0 _ _ _ _ (by omega) (by omega) (by simp) (by omega) (by simp) hc3
theorem bVb (c:aL) (h:okCur c):Yes (aKe c) okCR:=by
  unfold aKe
  refine Yes.bind (jZ _ _ h) fun y1 ⟨k0,k1,hc⟩=>?_
  exact bNk y1 k0 (k1 (by omega)) 3 0 _ _ _ _ (by omega) (by omega) rfl (by simp) hc
theorem aDo (b:Bool):qJ b=qV b:=by
  cases b <;> rfl
theorem wW (b:Bool):qV b=some ⟨3,if b then 1 else 0,[]⟩:=by
  cases b <;> rfl
theorem aQs (x:aA):qP x=kU x:=by
  unfold qP kU fM
  simp only [QB,QA]
  split
  · rfl
  split
  · rfl
  split
  · rfl
  split
  · congr 1
    have:(if (decide (x.num=0))=true then true else (decide (x.num=1)))=(if (decide (0≤x.num))=true then (decide (x.num≤1)) else false):=by
      simp only [decide_eq_true_eq,Bool.if_true_left,Bool.if_false_right,Bool.decide_eq_true]
      by_cases h0:x.num=0
      · simp [h0]
      · by_cases h1:x.num=1
        · simp [h1]
        · simp [h0,h1]; omega
    rw [this]
  · rfl
theorem bV4 (a b c:Int):aIf [a,b,c]=some (if a≠0 then a else if b≠0 then b else c):=by
  have w1:QC .i64 (0+1)=1:=by decide
  have w2:QC .i64 (1+1)=2:=by decide
  have w3:QC .i64 (2+1)=3:=by decide
  unfold aIf
  rw [G7]
  rw [w1,G7]
  rw [w2,G7]
  rw [w3,G7]
  simp only [idx]
  by_cases ha:a=0 <;> by_cases hb:b=0 <;> by_cases hc:c=0 <;> simp [ha,hb,hc]
theorem bPt (a b:Int):aGx a b=some (if a<b then -1 else if b<a then 1 else 0):=by
  unfold aGx aKr
  simp only [QB,QA,decide_true,QF,QD,if_false,decide_eq_true_eq]
  split
  · rfl
  · split <;> rfl
theorem bZj (a b:List UInt8):aJv a b=some (if Op.bytesLess a b=true then -1 else if (!(Op.bytesLess a b||decide (a=b)))=true then 1 else 0):=by
  unfold aJv aJp
  simp only [QB,QA,decide_true,QF,QD,if_false]
  split
  · rfl
  · split <;> rfl
theorem aMm (x y:aA):Y5 x y=vG x y:=by
  unfold Y5 vG
  simp only [QB,bPt,bZj,bV4,QA,decide_eq_true_eq]
  by_cases h1:x.kind<y.kind
  · simp [h1]
  by_cases h2:y.kind<x.kind
  · simp [h1,h2]
  by_cases h3:x.num<y.num
  · simp [h1,h2,h3]
  by_cases h4:y.num<x.num
  · simp [h1,h2,h3,h4]
  simp only [h1,h2,h3,h4,if_false,ne_eq,not_true_eq_false]
  split
  · rfl
  · split <;> rfl
theorem bOg (k:Int) (hk:k≤8) (x:aA):aAg k x=some true:=by
  unfold aAg
  simp [hk]
theorem aE1 (x:aA):vF x=some (decide (x.kind=0)):=rfl
theorem aUg (x:aA) (k:Int):vT x k=some (decide (x.kind=k)||decide (x.kind=0)):=by
  unfold vT
  simp only [aE1]
  by_cases h:x.kind=k <;> simp [h]
theorem aTv (x:aA):∃ b,kU x=some b:=by
  rw [← aQs]
  unfold qP
  repeat (split; exact ⟨_,rfl⟩)
  exact ⟨_,rfl⟩
theorem aXm (x y:aA):∃ b,vG x y=some b:=by
  unfold vG
  repeat (split; exact ⟨_,rfl⟩)
  exact ⟨_,rfl⟩
def gvE (x u:aA):Bool:=(decide (x.kind=u.kind))&&((decide (x.num=u.num))&&((decide (x.text=u.text))&&true))
theorem bMe (x u:aA):((decide (x.kind=u.kind))&&((decide (x.num=u.num))&&((decide (x.text=u.text))&&true)))=gvE x u:=by rw [gvE]
def G5 (k:Int) (x y:aA):aA×Int :=
  if (x.kind=3∨x.kind=0)∧(y.kind=3∨y.kind=0) then
    if gvE x ⟨3,if decide (k=1) then 1 else 0,[]⟩||gvE y ⟨3,if decide (k=1) then 1 else 0,[]⟩ then (⟨3,if decide (k=1) then 1 else 0,[]⟩,0) else if x.kind=0∨y.kind=0 then (⟨0,0,[]⟩,0) else (⟨3,if decide (k=2) then 1 else 0,[]⟩,0)
  else (⟨0,0,[]⟩,1)
theorem bFh (k:Int) (x y:aA):aIr k x y=some (G5 k x y):=by
  unfold aIr G5
  simp only [aUg,aE1,wW,QB,QA,bMe]
  have n1:∀ u,gvE x u=false∨gvE x u=true:=fun u=>by cases gvE x u <;> simp
  have n2:∀ u,gvE y u=false∨gvE y u=true:=fun u=>by cases gvE y u <;> simp
  rcases n1 ⟨3,if decide (k=1)=true then 1 else 0,[]⟩ with e1 | e1 <;> rcases n2 ⟨3,if decide (k=1)=true then 1 else 0,[]⟩ with e2 | e2 <;> rw [e1,e2] <;> clear n1 n2 e1 e2
  all_goals
    by_cases a:x.kind=3 <;> by_cases b:x.kind=0 <;> by_cases c:y.kind=3 <;> by_cases d:y.kind=0 <;> simp_all
theorem bLy (k:Int) (x y:aA):aIi k x y=some (G5 k x y):=by
  have w1:QC .i64 (0+1)=1:=by decide
  have w2:QC .i64 (1+1)=2:=by decide
  unfold aIi G5
  rw [M0,w1,M0,w2,M0]
  simp only [aDo,wW,QB,QA,bMe,idx]
  have n1:∀ u,gvE x u=false∨gvE x u=true:=fun u=>by cases gvE x u <;> simp
  have n2:∀ u,gvE y u=false∨gvE y u=true:=fun u=>by cases gvE y u <;> simp
  rcases n1 ⟨3,if decide (k=1)=true then 1 else 0,[]⟩ with e1 | e1 <;> rcases n2 ⟨3,if decide (k=1)=true then 1 else 0,[]⟩ with e2 | e2 <;> rw [e1,e2] <;> clear n1 n2 e1 e2
  all_goals
    by_cases a:x.kind=3 <;> by_cases b:x.kind=0 <;> by_cases c:y.kind=3 <;> by_cases d:y.kind=0 <;> simp_all
def aHm (k o:Int):Bool:=if k=3 then decide (o=0) else if k=6 then decide (o≤0) else decide (0≤o)
theorem cA2 (k:Int) (hk:k=3∨k=6∨k=8) (x y:aA) (o:Int) (ho:vG x y=some o):aD6 k x y=some ⟨3,if aHm k o then 1 else 0,[]⟩:=by
  unfold aD6
  rw [aMm,ho]
  rcases hk with rfl | rfl | rfl <;> simp [aDo,wW,aHm]
theorem cF9 (k:Int) (hk:k=3∨k=6∨k=8) (o:Int):aBd k o=some (aHm k o):=by
  unfold aBd
  rcases hk with rfl | rfl | rfl <;> simp [aHm]
def tri (v:aA):Prop:=v=⟨0,0,[]⟩∨v=⟨3,0,[]⟩∨v=⟨3,1,[]⟩
theorem aLn (b:Bool):tri ⟨3,if b then 1 else 0,[]⟩:=by cases b <;> simp [tri]
theorem cIq (k:Int) (hk:k=3∨k=6∨k=8) (x y:aA):∃ r,qU k x y=some r∧tH k x y=some r∧(r.2=0→tri r.1):=by
  obtain ⟨a,ha⟩:=aTv x
  obtain ⟨b,hb⟩:=aTv y
  obtain ⟨o,ho⟩:=aXm x y
  have hk8:k≤8:=by omega
  have h1:¬ k<1:=by omega
  have h14:¬ 14<k:=by omega
  have h2:¬ k≤2:=by omega
  have h9:k≠9:=by omega
  have h10:k≠10:=by omega
  have h11:k≠11:=by omega
  have h12:k≠12:=by omega
  have h13:k≠13:=by omega
  have h14':k≠14:=by omega
  have h10':¬ 10≤k:=by omega
  have g1:1≤k:=by omega
  have g14:k≤14:=by omega
  unfold qU tH aGw fM aH6
  simp only [aQs,ha,hb,ho,aE1,bOg k hk8,cA2 k hk x y o ho,cF9 k hk,wW,QB,QA,h1,h14,h2,h9,h10,h11,h12,h13,h14',h10',g1,g14,hk8]
  have hb:=aLn (aHm k o)
  have ht:tri ⟨0,0,[]⟩:=.inl rfl
  by_cases e:x.kind=y.kind <;> by_cases c:x.kind=0 <;> by_cases d:y.kind=0 <;> cases a <;> cases b <;> simp_all
theorem bN7 {x:aA} (h:tri x):kU x=some true:=by rcases h with rfl | rfl | rfl <;> decide
theorem bPa (x y:aA) (hx:tri x) (hy:tri y):∃ r,qU 1 x y=some r∧tH 1 x y=some r∧r.2=0∧tri r.1:=by
  unfold qU tH fM
  simp only [aQs,bN7 hx,bN7 hy,bFh,bLy,QB,QA]
  refine ⟨G5 1 x y,by simp,by simp,?_⟩
  rcases hx with rfl | rfl | rfl <;> rcases hy with rfl | rfl | rfl <;> simp [G5,gvE,tri]
theorem cD8 {a b:List aA} (ha:a.length≤1000):∃ n,sQ a b=some n:=by
  unfold sQ aOd
  have key:∀ i,i≤a.length→∃ n,U4 a b (i:Nat)=some n:=by
    refine eH ?_ ?_
    · rw [U4]
      simp only [dD,WO,decide_false,QD,if_false]
      split <;> exact ⟨_,rfl⟩
    · intro i hi ih
      rw [U4]
      simp only [dD,hi,decide_true,if_true,bH hi,QB,QA,decide_eq_true_eq]
      by_cases h2:i<b.length
      · obtain ⟨q,hq⟩:=aXm a[i] b[i]
        rw [if_neg (by omega),bH h2,dJ hi (by omega)]
        simp only [QA,aMm,hq]
        split
        · exact ⟨_,rfl⟩
        · exact ih
      · rw [if_pos (by omega)]; exact ⟨_,rfl⟩
  obtain ⟨n,hn⟩:=key 0 (XZ _)
  exact ⟨n,by simpa using hn⟩
abbrev RR:=Value×List aA
def cR (a b:List aA):Int:=(sQ a b).getD 0
theorem cKh {a:List aA} (b:List aA) (ha:a.length≤1000):sQ a b=some (cR a b):=by
  obtain ⟨n,hn⟩:=cD8 (b:=b) ha
  unfold cR; rw [hn]; rfl
def vZ {α:Type} (c:α→α→Int) (v:α):List α→List α
  | []=>[v]
  | u::A=>if c v u<0 then u::vZ c v A else v::u::A
def isR {α:Type} (c:α→α→Int):List α→List α→List α
  | S,[]=>S
  | S,v::Z=>isR c (vZ c v S) Z
theorem aUx {α:Type} (c:α→α→Int) (v:α):∀ A:List α,(vZ c v A).Perm (v::A)
  | []=>.refl _
  | u::A=>by
    rw [vZ]
    split
    · exact ((aUx c v A).cons u).trans (.swap _ _ _)
    · exact .refl _
theorem aSp {α:Type} (c:α→α→Int):∀ Z S:List α,(isR c S Z).Perm (S++Z)
  | [],S=>by rw [isR,WY]
  | v::Z,S=>by
    rw [isR]
    refine (aSp c Z _).trans ?_
    have:=(aUx c v S).append_right Z
    exact this.trans List.perm_middle.symm
theorem bF4 {α β:Type} {f:α→β} {c:α→α→Int} {d:β→β→Int} (h:∀ a b,c a b=d (f a) (f b)) (v:α):∀ A:List α,(vZ c v A).map f=vZ d (f v) (A.map f)
  | []=>rfl
  | u::A=>by
    rw [vZ,QK,vZ,h]
    split
    · rw [QK,bF4 h v A]
    · rfl
theorem aSj {α β:Type} {f:α→β} {c:α→α→Int} {d:β→β→Int} (h:∀ a b,c a b=d (f a) (f b)):∀ Z S:List α,(isR c S Z).map f=isR d (S.map f) (Z.map f)
  | [],S=>rfl
  | v::Z,S=>by rw [isR,aSj h Z,bF4 h,QK,isR]
theorem aY0 {α:Type} (A:List α) (x:α) (Z:List α):idx (A.reverse++x::Z) (A.length:Int)=some x:=by rw [← XP,aT9]; simp
theorem bMl {α:Type} (A:List α) (x y:α) (Z:List α):jR (A.reverse++x::Z) (A.length:Int) y=some (A.reverse++y::Z):=by
  rw [← XP]
  unfold jR; rw [if_pos ⟨by omega,by simp⟩]; simp
def cZ (a b:RR):Int:=cR a.2 b.2
theorem bG4 (n x8:Int) (v:RR) (hv:v.2.length≤1000):∀ (A B:List RR),A.length≤1000 →
    X8 0 n x8 (A.length:Int) (A.reverse++v::B)=I8 0 n (QC .i64 (x8+1)) ((vZ cZ v A).reverse++B)
  | [],B,_=>by
    rw [X8]
    simp [vZ]
  | u::A,B,hA=>by
    simp only [QL] at hA
    have ew:QC .i64 ((((u::A).length:Nat):Int) - 1)=(A.length:Int):=by rw [QL,dY] <;> omega
    have e0:(u::A).reverse++v::B=A.reverse++u::v::B:=by simp
    have i1:idx ((u::A).reverse++v::B) ((u::A).length:Int)=some v:=aY0 _ _ _
    have i2:idx ((u::A).reverse++v::B) (A.length:Int)=some u:=by rw [e0]; exact aY0 _ _ _
    rw [X8]
    have hp:decide ((0:Int)<(((u::A).length:Nat):Int))=true:=by rw [decide_eq_true_eq,QL]; omega
    simp only [hp,beq_self_eq_true,WF,if_true,ew,i1,i2,QB,QA,cKh u.2 hv,decide_eq_true_eq]
    rw [vZ]
    by_cases hr:cR v.2 u.2<0
    · rw [if_pos hr,if_pos (show cZ v u<0 from hr)]
      have s1:jR ((u::A).reverse++v::B) ((u::A).length:Int) u=some ((u::A).reverse++u::B):=bMl _ _ _ _
      have e1:(u::A).reverse++u::B=A.reverse++u::u::B:=by simp
      have s2:idx ((u::A).reverse++u::B) (A.length:Int)=some u:=by rw [e1]; exact aY0 _ _ _
      have s3:jR ((u::A).reverse++u::B) (A.length:Int) v=some (A.reverse++v::u::B):=by rw [e1]; exact bMl _ _ _ _
      simp only [s1,s2,s3,QA]
      rw [bG4 n x8 v hv A (u::B) (by omega)]
      simp
    · rw [if_neg hr,if_neg (show ¬ cZ v u<0 from hr)]
      simp
theorem bJa (n:Nat):∀ (Z S:List RR),S.length+Z.length=n→n≤1000→(∀ r∈Z,r.2.length≤1000)→I8 0 (n:Int) (S.length:Int) (S.reverse++Z)=some (isR cZ S Z).reverse
  | [],S,hn,_,_=>by
    rw [I8]
    simp at hn
    simp [hn,isR]
  | v::Z,S,hn,h2,hm=>by
    simp only [QL] at hn
    rw [I8]
    have hlt:S.length<n:=by omega
    simp only [dD,hlt,decide_true,if_true]
    rw [bG4 n S.length v (hm v (by simp)) S Z (by omega),dJ hlt (by omega)]
    have hR:(vZ cZ v S).length=S.length+1:=by simpa using (aUx cZ v S).length_eq
    rw [← hR,bJa n Z _ (by omega) h2 fun r hr=>hm r (by simp [hr])]
    rfl
theorem aTs (l:List RR) (h:l.length<20) (hm:∀ r∈l,r.2.length≤1000):aH7 l=some (isR cZ [] l).reverse:=by
  have e:QC .i64 (0+1)=1:=by decide
  have h1:aEn l 0 (l.length:Int)=some (isR cZ [] l).reverse:=by
    unfold aEn
    rw [e]
    cases l with
    | nil=>rw [I8]; simp [isR]
    | cons x l=>exact bJa (l.length+1) l [x] (by simp; omega) (by simp at h; omega) fun r hr=>hm r (by simp [hr])
  unfold aH7 aNa
  rw [aGv]
  have c1:decide ((20:Int)≤(l.length:Int))=false:=by rw [decide_eq_false_iff_not]; omega
  have c2:decide ((20:Int)<(l.length:Int))=false:=by rw [decide_eq_false_iff_not]; omega
  simp only [c1,QD,if_false,h1,QB,QA]
  rw [aKm]
  simp only [c2,QD,if_false,QA]
theorem bU8 {p0 r:List (List aA)} (h:aF6 p0=some r) (zs:List RR) (hz:zs.map (·.2)=p0) :
    ∃ y,aH7 zs=some y∧y.Perm zs∧y.map (·.2)=r:=by
  unfold aF6 at h
  split at h
  case isFalse=>simp at h
  rename_i hc
  simp only [QI,decide_eq_true_eq,XQ] at hc
  have hl:zs.length=p0.length:=by rw [← hz,WI]
  have s1:=aTs zs (by omega) fun r hr=>hc.2 r.2 (by rw [← hz]; exact WE.2 ⟨r,hr,rfl⟩)
  rw [aTs _ (by rw [WI]; exact hc.1) (fun r hr=>by
    obtain ⟨x,hx,rfl⟩:=WE.1 hr
    exact hc.2 x hx)] at h
  simp only [QB,QA,QH] at h
  refine ⟨_,s1,?_,?_⟩
  · exact (XR _).trans (by simpa using aSp cZ zs [])
  · rw [← h,XS,XS,aSj (f:=fun x:RR=>x.2) (c:=cZ) (d:=cR) (fun _ _=>rfl),aSj (f:=WW) (c:=cZ) (d:=cR) (fun _ _=>rfl)]
    have e1:zs.map (fun x=>x.2)=p0:=hz
    have e2:(p0.map fun x=>((default:Value),x)).map WW=p0:=by rw [WU]; exact XT _
    rw [e1,e2]
theorem cIt (p0:List (List aA)) (h:p0.length<20) (hm:∀ r∈p0,r.length≤1000):∃ r,aF6 p0=some r∧r.Perm p0:=by
  have hc:(decide (p0.length<20)&&p0.all fun r=>decide (r.length≤1000))=true:=by
    simp only [QI,decide_eq_true_eq,XQ]; exact ⟨h,hm⟩
  have s1:=aTs (p0.map fun x=>((default:Value),x)) (by rw [WI]; exact h) (fun r hr=>by
    obtain ⟨x,hx,rfl⟩:=WE.1 hr
    exact hm x hx)
  refine ⟨((isR cZ [] (p0.map fun x=>((default:Value),x))).reverse).map WW,?_,?_⟩
  · unfold aF6
    rw [if_pos hc,s1]; rfl
  · have e2:(p0.map fun x=>((default:Value),x)).map WW=p0:=by rw [WU]; exact XT _
    have:=((XR (isR cZ [] (p0.map fun x=>((default:Value),x)))).trans (by simpa using aSp cZ (p0.map fun x=>((default:Value),x)) [])).map WW
    rwa [e2] at this
abbrev i0:Int := -9223372036854775808
abbrev i1:Int:=9223372036854775807
def v0:aA:=⟨0,0,[]⟩
def vBl (b:Bool):aA:=⟨3,if b then 1 else 0,[]⟩
theorem bKh (m:Int):∃ k:Int,QC .i64 m=m - k * 18446744073709551616∧i0≤QC .i64 m∧QC .i64 m≤i1:=by
  rw [YE]
  exact ⟨(m+9223372036854775808) / 18446744073709551616,by omega,by simp only [i0]; omega,by simp only [i1]; omega⟩
theorem bGo {a b:Int} (hb:2≤b∨b ≤ -2) (ha:okI a) : -4611686018427387904≤a.tdiv b∧a.tdiv b≤4611686018427387904:=by
  have h:(a.tdiv b).natAbs=a.natAbs / b.natAbs:=Int.natAbs_tdiv a b
  have h2:a.natAbs / b.natAbs≤a.natAbs / 2:=Nat.div_le_div_left (by omega) (by omega)
  have h3:=ha.1
  have h4:=ha.2
  omega
theorem bIj {a b:Int} (ha:okI a) (hb:okI b) (h0:b≠0):(QC .i64 ((QC .i64 (a * b)).tdiv b)=a∧¬ (b = -1∧a=i0))↔okI (a * b):=by
  have a1:=ha.1
  have a2:=ha.2
  have b1:=hb.1
  have b2:=hb.2
  constructor
  · rintro ⟨h,hn⟩
    obtain ⟨k,hk,k1,k2⟩:=bKh (a * b)
    by_cases h2:2≤b∨b ≤ -2
    · have hs:=bGo h2 (a:=QC .i64 (a * b)) ⟨k1,k2⟩
      rw [dY (by omega) (by omega)] at h
      have e:=Int.mul_tdiv_add_tmod (QC .i64 (a * b)) b
      rw [h,XW b a] at e
      have l1:=XX (QC .i64 (a * b)) b
      have l2:(QC .i64 (a * b)).natAbs % b.natAbs<b.natAbs:=Nat.mod_lt _ (by omega)
      have:k=0:=by omega
      subst this
      have e3:a * b=QC .i64 (a * b):=by omega
      rw [e3]; exact ⟨k1,k2⟩
    · have:b=1∨b = -1:=by omega
      rcases this with rfl | rfl
      · rw [Int.mul_one]; exact ha
      · have:a≠i0:=fun e=>hn ⟨rfl,e⟩
        simp only [i0] at this
        constructor <;> omega
  · intro hm
    rw [dY hm.1 hm.2,Int.mul_tdiv_cancel _ h0,dY ha.1 ha.2]
    refine ⟨rfl,?_⟩
    rintro ⟨rfl,rfl⟩
    have:=hm.2
    simp only [i0] at this
    omega
theorem okI_w {m:Int}:okI (QC .i64 m):=by obtain ⟨_,_,h⟩:=bKh m; exact h
def qC (n:Int):Int×Bool:=if okI n then (n,true) else (0,false)
theorem addN {a b:Int} (ha:okI a) (hb:okI b):aH1 a b=some (qC (a+b)):=by
  have a1:=ha.1
  have a2:=ha.2
  have b1:=hb.1
  have b2:=hb.2
  unfold aH1 qC
  simp only [QB,QA,orB,uV,decide_eq_true_eq]
  by_cases h0:0<b
  · have e:¬ b<0:=by omega
    rw [dY (n:=9223372036854775807 - b) (by omega) (by omega)]
    by_cases h1:9223372036854775807 - b<a
    · rw [if_neg (fun h:okI _=>by have:=h.2; omega)]; simp [h0,h1]
    · rw [if_pos (show okI (a+b) from ⟨by omega,by omega⟩),dY (n:=a+b) (by omega) (by omega)]; simp [h0,h1,e]
  · by_cases h2:b<0
    · rw [dY (n := -9223372036854775808 - b) (by omega) (by omega)]
      by_cases h1:a < -9223372036854775808 - b
      · rw [if_neg (fun h:okI _=>by have:=h.1; omega)]; simp [h0,h1,h2]
      · rw [if_pos (show okI (a+b) from ⟨by omega,by omega⟩),dY (n:=a+b) (by omega) (by omega)]; simp [h0,h1,h2]
    · rw [if_pos (show okI (a+b) from ⟨by omega,by omega⟩),dY (n:=a+b) (by omega) (by omega)]; simp [h0,h2]
theorem aRo {a b:Int} (ha:okI a) (hb:okI b):aEz a b=some (qC (a - b)):=by
  have a1:=ha.1
  have a2:=ha.2
  have b1:=hb.1
  have b2:=hb.2
  unfold aEz qC
  simp only [QB,QA,orB,uV,decide_eq_true_eq]
  by_cases h0:b<0
  · have e:¬ 0<b:=by omega
    rw [dY (n:=9223372036854775807+b) (by omega) (by omega)]
    by_cases h1:9223372036854775807+b<a
    · rw [if_neg (fun h:okI _=>by have:=h.2; omega)]; simp [h0,h1]
    · rw [if_pos (show okI (a - b) from ⟨by omega,by omega⟩),dY (n:=a - b) (by omega) (by omega)]; simp [h0,h1,e]
  · by_cases h2:0<b
    · rw [dY (n := -9223372036854775808+b) (by omega) (by omega)]
      by_cases h1:a < -9223372036854775808+b
      · rw [if_neg (fun h:okI _=>by have:=h.1; omega)]; simp [h0,h1,h2]
      · rw [if_pos (show okI (a - b) from ⟨by omega,by omega⟩),dY (n:=a - b) (by omega) (by omega)]; simp [h0,h1,h2]
    · rw [if_pos (show okI (a - b) from ⟨by omega,by omega⟩),dY (n:=a - b) (by omega) (by omega)]; simp [h0,h2]
theorem cHx (a b:Int):aPg a b=aH1 a b:=rfl
theorem aWe (a b:Int):aF2 a b=aEz a b:=rfl
theorem bRy {a b:Int} (ha:okI a) (hb:okI b):aKl a b=some (qC (a * b)):=by
  unfold aKl qC xZ
  by_cases h0:a=0
  · subst h0
    have o:okI 0:=⟨by decide,by decide⟩
    simp [o]; decide
  · have k:=bIj hb ha h0
    rw [XW b a] at k
    have g:QC .i64 ((QC .i64 (a * b)).tdiv a)=b∨¬ QC .i64 ((QC .i64 (a * b)).tdiv a)=b:=Classical.em _
    have w:okI (a * b)→QC .i64 (a * b)=a * b:=fun h=>dY h.1 h.2
    generalize QC .i64 ((QC .i64 (a * b)).tdiv a)=q at k g
    by_cases m1:a = -1 <;> by_cases m2:b = -9223372036854775808 <;> rcases g with g | g <;> by_cases o:okI (a * b) <;> simp_all [i0]
theorem cJp {a b:Int} (ha:okI a) (hb:okI b):aIk a b=some (qC (a * b)):=by
  unfold aIk qC xZ
  by_cases h0:a=0
  · subst h0
    have o:okI 0:=⟨by decide,by decide⟩
    simp [o]
  by_cases h1:b=0
  · subst h1
    have o:okI 0:=⟨by decide,by decide⟩
    simp [o]
  have k:=bIj ha hb h1
  have g:QC .i64 ((QC .i64 (a * b)).tdiv b)=a∨¬ QC .i64 ((QC .i64 (a * b)).tdiv b)=a:=Classical.em _
  have w:okI (a * b)→QC .i64 (a * b)=a * b:=fun h=>dY h.1 h.2
  have z:a = -1→b = -9223372036854775808→¬ okI (a * b):=by rintro rfl rfl h; have:=h.2; omega
  generalize QC .i64 ((QC .i64 (a * b)).tdiv b)=q at k g
  by_cases m1:a = -1 <;> by_cases m2:b = -9223372036854775808 <;> by_cases m3:b = -1 <;> by_cases m4:a = -9223372036854775808 <;> rcases g with g | g <;> by_cases o:okI (a * b) <;> simp_all [i0]
def zB (r:Int×Bool):aA×Int:=if r.2=true then (⟨1,r.1,[]⟩,0) else (⟨0,0,[]⟩,2)
def arP (op a b:Int):aA×Int :=
  if op=10 then zB (qC (a+b)) else if op=11 then zB (qC (a - b)) else if op=12 then zB (qC (a * b)) else
    if b=0 then (⟨0,0,[]⟩,3) else if op=14 then (⟨1,a.tmod b,[]⟩,0) else if a = -9223372036854775808∧b = -1 then (⟨0,0,[]⟩,2) else (⟨1,a.tdiv b,[]⟩,0)
theorem aU6 {a b:Int} (ha:okI a) (hb:b≠0) (h:¬ (a = -9223372036854775808∧b = -1)):okI (a.tdiv b):=by
  have a1:=ha.1
  have a2:=ha.2
  by_cases h2:2≤b∨b ≤ -2
  · have:=bGo h2 ha
    exact ⟨by omega,by omega⟩
  · have:b=1∨b = -1:=by omega
    rcases this with rfl | rfl
    · rw [XH]; exact ha
    · rw [XY,XH]
      have:a ≠ -9223372036854775808:=fun e=>h ⟨e,rfl⟩
      exact ⟨by omega,by omega⟩
theorem arI {op a b:Int} (ha:okI a) (hb:okI b):aH8 op a b=some (arP op a b):=by
  unfold aH8 arP aHc
  simp only [addN ha hb,aRo ha hb,bRy ha hb,QB,QA,decide_eq_true_eq]
  have n:∀ r:Int×Bool,(if (!r.2)=true then some ((⟨0,0,[]⟩:aA),(2:Int)) else (aAq r.1).bind fun y5=>some (y5,0))=some (zB r):=by
    rintro ⟨r,b⟩
    cases b <;> simp [zB,aAq]
  by_cases h1:op=10
  · rw [if_pos h1,if_pos h1,n]
  by_cases h2:op=11
  · rw [if_neg h1,if_pos h2,if_neg h1,if_pos h2,n]
  by_cases h3:op=12
  · rw [if_neg h1,if_neg h2,if_pos h3,if_neg h1,if_neg h2,if_pos h3,n]
  rw [if_neg h1,if_neg h2,if_neg h3,if_neg h1,if_neg h2,if_neg h3]
  unfold aMt xZ yE aAq
  by_cases b0:b=0
  · simp [b0]
  by_cases h4:op=14
  · simp [b0,h4]
  by_cases h5:a = -9223372036854775808∧b = -1
  · obtain ⟨rfl,rfl⟩:=h5
    simp [h4]
  · have w:=aU6 ha b0 h5
    rw [dY w.1 w.2]
    by_cases h6:a = -9223372036854775808
    · have:b ≠ -1:=fun e=>h5 ⟨h6,e⟩
      simp [b0,h4,h6,this]
    · simp [b0,h4,h6]
theorem bMz {op a b:Int} (ho:op=13∨op=14) (ha:okI a) (hb:okI b):aLj op a b=some (arP op a b):=by
  have h1:¬ op=10:=by omega
  have h2:¬ op=11:=by omega
  have h3:¬ op=12:=by omega
  unfold arP aLj
  rw [if_neg h1,if_neg h2,if_neg h3]
  unfold xZ yE
  rw [aWe,aRo ⟨by decide,by decide⟩ ha]
  unfold I9 wT
  by_cases b0:b=0
  · simp [b0]
  by_cases b1:b = -1
  · subst b1
    by_cases h4:op=14
    · have:a.tmod (-1)=0:=by rw [Int.tmod_neg,Int.tmod_one]
      simp [h4,this]
    · have e:a.tdiv (-1)=0 - a:=by rw [XY,XH]; omega
      rw [e]
      have h13:op=13:=by omega
      have a1:=ha.1
      have a2:=ha.2
      by_cases h5:a = -9223372036854775808
      · subst h5
        have t2:qC (0 - -9223372036854775808)=(0,false):=by decide
        simp only [t2]
        simp [h4]
      · have:okI (0 - a):=⟨by omega,by omega⟩
        have t2:qC (0 - a)=(0 - a,true):=if_pos this
        simp only [t2]
        simp [h4,h5]
  · have h5:¬ (a = -9223372036854775808∧b = -1):=fun h=>b1 h.2
    have w:=aU6 ha b0 h5
    rw [dY w.1 w.2]
    rcases ho with rfl | rfl <;> simp [b0,b1]
def tF (x:aA):Bool:=(kU x).getD false
theorem aJ8 (x:aA):kU x=some (tF x):=by
  obtain ⟨b,hb⟩:=aTv x
  unfold tF; rw [hb]; rfl
theorem bKr (x:aA):qP x=some (tF x):=by rw [aQs,aJ8]
theorem aR4 {x:aA} (h:tF x=true):x.text.length≤200:=by
  have h2:=aJ8 x
  rw [h] at h2
  unfold kU at h2
  simp only [QB,QA,uV] at h2
  split at h2
  · simp only [QH,QI,decide_eq_true_eq] at h2; rw [h2.2]; simp
  · split at h2
    · simp only [QH,decide_eq_true_eq] at h2; rw [h2]; simp
    · split at h2
      · simp only [QH,QI,decide_eq_true_eq] at h2; omega
      · split at h2
        · obtain ⟨y,_,hy⟩:=Option.bind_eq_some_iff.1 h2
          simp only [QH,QI,decide_eq_true_eq] at hy
          rw [hy.2]; simp
        · simp at h2
def uT (x y:aA):Int:=(vG x y).getD 0
theorem aL7 (x y:aA):vG x y=some (uT x y):=by
  obtain ⟨b,hb⟩:=aXm x y
  unfold uT; rw [hb]; rfl
def aIn (k o:Int):Bool:=if k=3 then decide (o=0) else if k=4 then !decide (o=0) else if k=5 then decide (o<0) else if k=6 then decide (o≤0) else if k=7 then decide (0<o) else decide (0≤o)
theorem bSe (k:Int) (x y:aA):aD6 k x y=some (vBl (aIn k (uT x y))):=by
  unfold aD6 aIn vBl
  rw [aMm,aL7]
  simp only [aDo,wW,QB,QA,decide_eq_true_eq]
  by_cases h3:k=3
  · simp [h3]
  by_cases h4:k=4
  · simp [h4]
  by_cases h5:k=5
  · simp [h5]
  by_cases h6:k=6
  · simp [h6]
  by_cases h7:k=7
  · simp [h7]
  simp [h3,h4,h5,h6,h7]
theorem bTe (k o:Int):aBd k o=some (aIn k o):=by
  unfold aBd aIn
  simp only [decide_eq_true_eq]
  by_cases h3:k=3
  · simp [h3]
  by_cases h4:k=4
  · simp [h4]
  by_cases h5:k=5
  · simp [h5]
  by_cases h6:k=6
  · simp [h6]
  by_cases h7:k=7
  · simp [h7]
  simp [h3,h4,h5,h6,h7]
def xB (op:Int) (x:aA):Bool:=decide (x.kind=0)||decide (op≤8)||(if op=9 then decide (x.kind=2) else decide (x.kind=1))
theorem cDi (op:Int) (x:aA):aAg op x=some (xB op x):=by
  unfold aAg xB
  simp only [orB,QB,QA,decide_eq_true_eq]
  by_cases h1:x.kind=0
  · simp [h1]
  by_cases h2:op≤8
  · simp [h2]
  by_cases h3:op=9 <;> simp [h1,h2,h3]
def jJ (op:Int) (x y:aA):aA×Int :=
  if (decide (op<1)||decide (14<op)||!tF x||!tF y)=true then (⟨0,0,[]⟩,1)
  else if op≤2 then G5 op x y
  else if (xB op x&&xB op y&&(decide (8<op)||decide (x.kind=0)||decide (y.kind=0)||decide (x.kind=y.kind)))=false then (⟨0,0,[]⟩,1)
  else if (decide (x.kind=0)||decide (y.kind=0))=true then (⟨0,0,[]⟩,0)
  else if op≤8 then (vBl (aIn op (uT x y)),0)
  else if op=9 then (if 200<x.text.length+y.text.length then (⟨0,0,[]⟩,2) else (⟨2,0,x.text++y.text⟩,0))
  else arP op x.num y.num
theorem aGz {a b:List UInt8} (h:a.length+b.length≤1000):pW a b=some (a++b):=by
  unfold pW; rw [if_pos (by simp only [maxLen]; omega)]
theorem aH3 {op:Int} {x y:aA} (hx:okI x.num) (hy:okI y.num):tH op x y=some (jJ op x y):=by
  unfold tH jJ
  simp only [bKr,cDi,orB,QB,QA,decide_eq_true_eq]
  by_cases h1:op<1
  · simp [h1]
  by_cases h2:14<op
  · simp [h2]
  rcases hvx:tF x with _ | _
  · simp [h1,h2]
  rcases hvy:tF y with _ | _
  · simp [h1,h2]
  by_cases h3:op≤2
  · simp [h1,h2,h3,bLy]
  have tx:=aR4 hvx
  have ty:=aR4 hvy
  simp only [h1,h2,h3,decide_false,QW,QF,QX,QM,beq_self_eq_true,if_true,if_false,QA,QD,bSe,arI hx hy]
  rcases xB op x with _ | _
  · simp
  rcases xB op y with _ | _
  · simp
  by_cases h4:op≤8
  · have h4':¬ 8<op:=by omega
    by_cases k1:x.kind=0
    · simp [h4,h4',k1]
    by_cases k2:y.kind=0
    · simp [h4,h4',k1,k2]
    by_cases k3:x.kind=y.kind <;> simp [h4,h4',k1,k2,k3]
  · have h4':8<op:=by omega
    by_cases k1:x.kind=0
    · simp [h4,h4',k1]
    by_cases k2:y.kind=0
    · simp [h4,h4',k1,k2]
    by_cases h9:op=9
    · subst h9
      rw [dY (n:=(x.text.length:Int)+y.text.length) (by omega) (by omega),aGz (by omega)]
      by_cases hl:200<x.text.length+y.text.length
      · have:(200:Int)<(x.text.length:Int)+(y.text.length:Int):=by omega
        simp [k1,k2,hl,this]
      · have:¬ (200:Int)<(x.text.length:Int)+(y.text.length:Int):=by omega
        simp [k1,k2,hl,this,aQz]
    · simp [h4,h4',k1,k2,h9]
theorem aOz (a b c:Int):fM a b c=some (decide (b≤a)&&decide (a≤c)):=by
  unfold fM
  by_cases h:b≤a <;> simp [h]
theorem bS7 (op:Int) (x y:aA) (h:2<op) (h14:op≤14):aH6 op x y=some (xB op x&&xB op y&&(decide (8<op)||decide (x.kind=0)||decide (y.kind=0)||decide (x.kind=y.kind))):=by
  unfold aH6 xB
  simp only [aUg,aE1,QB,QA,orB,uV,decide_eq_true_eq]
  by_cases h9:op=9
  · subst h9
    rcases decide (x.kind=2) with _ | _ <;> rcases decide (x.kind=0) with _ | _ <;> rcases decide (y.kind=2) with _ | _ <;> rcases decide (y.kind=0) with _ | _ <;> rfl
  by_cases h10:10≤op
  · have e1:¬ op≤8:=by omega
    have e2:8<op:=by omega
    simp only [h9,h10,e1,e2,if_true,if_false,decide_true,decide_false]
    rcases decide (x.kind=1) with _ | _ <;> rcases decide (x.kind=0) with _ | _ <;> rcases decide (y.kind=1) with _ | _ <;> rcases decide (y.kind=0) with _ | _ <;> rfl
  · have e1:op≤8:=by omega
    have e2:¬ 8<op:=by omega
    simp only [h9,h10,e1,e2,if_false,decide_true,decide_false]
    generalize x.kind=a
    generalize y.kind=b
    by_cases k:a=b
    · by_cases k1:a=0 <;> by_cases k2:b=0 <;> simp [k,k2]
    · by_cases k1:a=0
      · have:¬ (0:Int)=b:=fun e=>k (k1.trans e)
        simp [k1,this]
      · by_cases k2:b=0 <;> simp [k,k1,k2]
theorem bLd (r:Int×Bool):I9 r.1 r.2=some (zB r):=by
  obtain ⟨a,b⟩:=r
  cases b <;> rfl
theorem aB2 {op:Int} {x y:aA} (hx:okI x.num) (hy:okI y.num):qU op x y=some (jJ op x y):=by
  unfold qU jJ
  simp only [aJ8,aOz,orB,QB,QA,decide_eq_true_eq]
  by_cases h1:op<1
  · have:¬ 1≤op:=by omega
    simp [h1,this]
  have h1':1≤op:=by omega
  by_cases h2:14<op
  · have:¬ op≤14:=by omega
    simp [h2,this]
  have h2':op≤14:=by omega
  rcases hvx:tF x with _ | _
  · simp [h1,h2,h1',h2']
  rcases hvy:tF y with _ | _
  · simp [h1,h2,h1',h2']
  by_cases h3:op≤2
  · simp [h1,h2,h3,h1',h2',bFh]
  have tx:=aR4 hvx
  have ty:=aR4 hvy
  rw [bS7 op x y (by omega) h2']
  simp only [h1,h2,h3,h1',h2',decide_true,decide_false,QW,QF,QX,QV,QM,beq_self_eq_true,if_true,if_false,QA,QD,cHx,aWe,addN hx hy,aRo hx hy,cJp hx hy,bLd,aE1]
  generalize (xB op x&&xB op y&&(decide (8<op)||decide (x.kind=0)||decide (y.kind=0)||decide (x.kind=y.kind)))=t
  rcases t with _ | _
  · simp
  by_cases k1:x.kind=0
  · simp [k1]
  by_cases k2:y.kind=0
  · simp [k1,k2]
  simp only [k1,k2,decide_false,QF,QD,if_false,beq_self_eq_true,QV,if_true,QA,Bool.or_self]
  by_cases h9:op=9
  · subst h9
    rw [dY (n:=(x.text.length:Int)+y.text.length) (by omega) (by omega),aGz (by omega)]
    by_cases hl:200<x.text.length+y.text.length
    · have:(200:Int)<(x.text.length:Int)+(y.text.length:Int):=by omega
      simp [hl,this]
    · have:¬ (200:Int)<(x.text.length:Int)+(y.text.length:Int):=by omega
      simp [hl,this,aEi]
  by_cases h10:op=10
  · subst h10; simp [arP]
  by_cases h11:op=11
  · subst h11; simp [arP]
  by_cases h12:op=12
  · subst h12; simp [arP]
  unfold aGw
  by_cases h13:op=13
  · subst h13
    simp [bMz (.inl rfl) hx hy]
  by_cases h14:op=14
  · subst h14
    simp [bMz (.inr rfl) hx hy]
  have h8:op≤8:=by omega
  simp [h9,h10,h11,h12,h13,h14,h8,aL7,bTe,wW,vBl]
theorem aQ4 {r:Int×Bool} (h:okI r.1):okI (zB r).1.num:=by
  unfold zB; split
  · exact h
  · exact ⟨by decide,by decide⟩
theorem aQr (n:Int):okI (qC n).1:=by
  unfold qC; split
  · assumption
  · exact ⟨by decide,by decide⟩
theorem ok0:okI 0:=⟨by decide,by decide⟩
theorem ok1:okI 1:=⟨by decide,by decide⟩
theorem aRm (b:Bool):okI (vBl b).num:=by cases b <;> first | exact ok0 | exact ok1
theorem cCb {op a b:Int} (ha:okI a) (hb:okI b):okI (arP op a b).1.num:=by
  unfold arP
  split
  · exact aQ4 (aQr _)
  split
  · exact aQ4 (aQr _)
  split
  · exact aQ4 (aQr _)
  split
  · exact ok0
  rename_i h0
  split
  · have h:(a.tmod b).natAbs=a.natAbs % b.natAbs:=XX a b
    have h2:a.natAbs % b.natAbs<b.natAbs:=Nat.mod_lt _ (by omega)
    have b1:=hb.1
    have b2:=hb.2
    exact ⟨by show -9223372036854775808≤a.tmod b; omega,by show a.tmod b≤9223372036854775807; omega⟩
  split
  · exact ok0
  · exact aU6 ha h0 ‹_›
theorem bWn (op:Int) (x y:aA):okI (G5 op x y).1.num:=by
  unfold G5
  repeat' split
  all_goals first | exact ok0 | exact ok1
theorem I4 {op:Int} {x y:aA} (hx:okI x.num) (hy:okI y.num):okI (jJ op x y).1.num:=by
  unfold jJ
  split
  · exact ok0
  split
  · exact bWn _ _ _
  split
  · exact ok0
  split
  · exact ok0
  split
  · exact aRm _
  split
  · split <;> exact ok0
  · exact cCb hx hy
def unP (op:Int) (x:aA):aA×Int :=
  if (!tF x||(!decide (op=15)&&!decide (op=16)))=true then (⟨0,0,[]⟩,1)
  else if x.kind=0 then (⟨0,0,[]⟩,0)
  else if op=15∧x.kind=3 then (vBl (decide (x.num=0)),0)
  else if op=16∧x.kind=1 then zB (qC (0 - x.num)) else (⟨0,0,[]⟩,1)
theorem unI {op:Int} {x:aA} (hx:okI x.num):aC3 op x=some (unP op x):=by
  unfold aC3 unP
  simp only [bKr,orB,uV,cI8,QB,QA,arI ok0 hx]
  rcases tF x with _ | _
  · simp
  by_cases k:x.kind=0
  · by_cases h5:op=15
    · simp [h5,k]
    · by_cases h6:op=16 <;> simp [h5,h6,k]
  by_cases h5:op=15
  · subst h5
    by_cases k3:x.kind=3 <;> simp [k,k3,aDo,wW,vBl]
  by_cases h6:op=16
  · subst h6
    by_cases k1:x.kind=1 <;> simp [k,k1,arP]
  · simp [h5,h6]
theorem cIj {x:aA} (h:tF x=true) (k:x.kind=0):x=⟨0,0,[]⟩:=by
  have h2:=aJ8 x
  rw [h] at h2
  unfold kU at h2
  simp only [QB,QA,uV,k,decide_true,if_true,QH,QI,decide_eq_true_eq] at h2
  obtain ⟨a,b,c⟩:=x
  simp_all
theorem unS {op:Int} {x:aA} (hx:okI x.num):aGu op x=some (unP op x):=by
  unfold aGu unP
  simp only [aJ8,aUg,aE1,aWe,aRo ok0 hx,bLd,QB,QA]
  rcases hv:tF x with _ | _
  · simp
  by_cases k:x.kind=0
  · have:=cIj hv k
    subst this
    by_cases h5:op=15
    · simp [h5]
    · by_cases h6:op=16 <;> simp [h5,h6]
  by_cases h5:op=15
  · subst h5
    by_cases k3:x.kind=3 <;> simp [k,k3,wW,vBl]
  by_cases h6:op=16
  · subst h6
    by_cases k1:x.kind=1 <;> simp [k,k1]
  · simp [h5,h6]
theorem bHc {op:Int} {x:aA} (_:okI x.num):okI (unP op x).1.num:=by
  unfold unP
  split
  · exact ok0
  split
  · exact ok0
  split
  · exact aRm _
  split
  · exact aQ4 (aQr _)
  · exact ok0
def K7 (x a b:aA):aA×Int:=if (jJ 8 x a).2≠0 then (⟨0,0,[]⟩,(jJ 8 x a).2) else if (jJ 6 x b).2≠0 then (⟨0,0,[]⟩,(jJ 6 x b).2) else jJ 2 (jJ 8 x a).1 (jJ 6 x b).1
theorem bZz {x a b:aA} (hx:okI x.num) (ha:okI a.num) (hb:okI b.num):aIc x a b=some (K7 x a b):=by
  unfold aIc K7
  simp only [aH3 hx ha,aH3 hx hb,aH3 (I4 (op:=8) hx ha) (I4 (op:=6) hx hb),QB,QA]
  by_cases h1:(jJ 8 x a).2=0
  · by_cases h2:(jJ 6 x b).2=0 <;> simp [h1,h2]
  · simp [h1]
theorem bO4 {x a b:aA} (hx:okI x.num) (ha:okI a.num) (hb:okI b.num):aJ0 x a b=some (K7 x a b):=by
  unfold aJ0 K7
  simp only [aB2 hx ha,aB2 hx hb,aB2 (I4 (op:=8) hx ha) (I4 (op:=6) hx hb),QB,QA]
  by_cases h1:(jJ 8 x a).2=0
  · by_cases h2:(jJ 6 x b).2=0 <;> simp [h1,h2]
  · simp [h1]
theorem bB0 {x a b:aA} (hx:okI x.num) (ha:okI a.num) (hb:okI b.num):okI (K7 x a b).1.num:=by
  unfold K7
  split
  · exact ok0
  split
  · exact ok0
  · exact I4 (I4 hx ha) (I4 hx hb)
def qQ (x:aA):List aA→aA→aA×Int
  | [],o=>(o,0)
  | y::l,o=>if (jJ 3 x y).2≠0 then (⟨0,0,[]⟩,(jJ 3 x y).2) else qQ x l (jJ 1 o (jJ 3 x y).1).1
theorem bMc {op:Int} {x y:aA} (hx:okI x.num) (hy:okI y.num) {r:aA×Int} (h:qU op x y=some r):jJ op x y=r:=by
  rw [aB2 hx hy] at h; exact Option.some.inj h
theorem aKd {x:aA} (h:tri x):okI x.num:=by rcases h with rfl | rfl | rfl <;> first | exact ok0 | exact ok1
theorem eqP {x y:aA} (hx:okI x.num) (hy:okI y.num) (h:(jJ 3 x y).2=0):tri (jJ 3 x y).1:=by
  obtain ⟨r,h1,_,h3⟩:=cIq 3 (by simp) x y
  have:=bMc hx hy h1
  subst this
  exact h3 h
theorem orP {x y:aA} (hx:tri x) (hy:tri y):(jJ 1 x y).2=0∧tri (jJ 1 x y).1:=by
  obtain ⟨r,h1,_,h3⟩:=bPa x y hx hy
  have:=bMc (aKd hx) (aKd hy) h1
  subst this
  exact h3
theorem cAu (x:aA) (p:List aA) (hl:p.length≤1048576) (hx:okI x.num) (hp:∀ y∈p,okI y.num):∀ i,i≤p.length→∀ a b c,tri ⟨a,b,c⟩ →
    V3 p x (i:Nat) a b c=some (qQ x (p.drop i) ⟨a,b,c⟩)∧aAb p x (i:Nat) a b c=some (qQ x (p.drop i) ⟨a,b,c⟩):=by
  refine eH ?_ ?_
  · intro a b c _
    rw [aAb,V3]
    simp [qQ]
  · intro i hi ih a b c ht
    rw [aAb,V3,QG hi]
    have hy:=hp _ (QE hi)
    have hc:=I4 (op:=3) hx hy
    simp only [dD,bH hi,dJ hi (by omega),hi,decide_true,if_true,QB,QA,aH3 hx hy,aB2 hx hy,qQ]
    by_cases hz:(jJ 3 x p[i]).2=0
    · have h3:=orP ht (eqP hx hy hz)
      simp only [hz,decide_true,QF,QD,if_false,QA,aH3 (aKd ht) hc,aB2 (aKd ht) hc,h3.1,ne_eq,not_true_eq_false]
      exact ih _ _ _ h3.2
    · simp [hz]
theorem aX8 {x:aA} {p:List aA} (hl:p.length≤1048576) (hx:okI x.num) (hp:∀ y∈p,okI y.num):aGb x p=some (qQ x p (vBl false))∧aFz x p=some (qQ x p (vBl false)):=by
  have:=cAu x p hl hx hp 0 (by omega) 3 0 [] (by simp [tri])
  unfold aGb aFz
  rw [aDo,wW]
  simpa [vBl] using this
theorem aIb {x:aA} (hx:okI x.num):∀ {p:List aA} {o:aA},(∀ y∈p,okI y.num)→tri o→okI (qQ x p o).1.num
  | [],o,_,ho=>aKd ho
  | y::p,o,hp,ho=>by
    rw [qQ]
    by_cases hz:(jJ 3 x y).2=0
    · rw [if_neg (by simp [hz])]
      exact aIb hx (fun y hy=>hp y (WM _ hy)) (orP ho (eqP hx (hp y (by simp)) hz)).2
    · rw [if_pos hz]; exact ok0
def bG {α β:Type} (g:α→β×Int):List α→List β×Int
  | []=>([],0)
  | x::l=>if (g x).2≠0 then ([],(g x).2) else if (bG g l).2≠0 then ([],(bG g l).2) else ((g x).1::(bG g l).1,0)
theorem aBp {α β γ:Type} {p:List α} {b:Nat} {g:α→β×Int} {F:α→Option (β×Int)} {L:List β→Int→Option γ} {K:List β→Option γ} {E:Int→γ} (hp:p.length≤1048576) (hb:b≤64) (hF:∀ x∈p,F x=some (g x))
    (hL:∀ (i:Nat) acc,L acc (i:Int)=if (decide ((i:Int)<(p.length:Int)))=true then ((idx p (i:Int))>>=fun x=>(F x)>>=fun y=>if (!decide (y.2=0))=true then some (E y.2) else (appG b acc [y.1])>>=fun z=>L z (QC .i64 ((i:Int)+1))) else K acc) :
    ∀ acc,acc.length≤1048576→L acc 0=if (bG g p).2≠0 then some (E (bG g p).2) else K (acc++(bG g p).1):=by
  have key:∀ i,i≤p.length→∀ acc,acc.length≤1048576+i→L acc (i:Nat)=if (bG g (p.drop i)).2≠0 then some (E (bG g (p.drop i)).2) else K (acc++(bG g (p.drop i)).1):=by
    refine eH ?_ ?_
    · intro acc _
      rw [hL]; simp [bG]
    · intro i hi ih acc ha
      rw [hL,bH hi,dJ hi (by omega),QG hi]
      simp only [dD,hi,decide_true,if_true,QB,QA,hF _ (QE hi),bG]
      by_cases h0:(g p[i]).2=0
      · have e:appG b acc [(g p[i]).1]=some (acc++[(g p[i]).1]):=nL (QU (Nat.mul_le_mul_left _ hb) (by simp only [WJ]; omega))
        simp only [h0,decide_true,QF,QD,if_false,ne_eq,not_true_eq_false,e,QA]
        rw [ih _ (by simp; omega)]
        by_cases h1:(bG g (p.drop (i+1))).2=0
        · simp [h1]
        · simp [h1]
      · simp [h0]
  intro acc ha
  simpa using key 0 (by omega) acc (by omega)
def tru (v:aA):Bool:=decide (v.kind=3)&&decide (v.num=1)
theorem cEj (v:aA):aL8 v=some (tru v):=by unfold aL8 tru; simp only [uV,QB,QA]
theorem bOd (v:aA):aIy v=some (tru v):=by unfold aIy tru; simp only [uV,QB,QA]
abbrev Row1:=List aA
abbrev Rows:=List (List aA)
abbrev Gf:=Row1→aA×Int
def kH (g:Gf):Rows→Rows×Int
  | []=>([],0)
  | x::l=>if (g x).2≠0 then ([],(g x).2) else if (kH g l).2≠0 then ([],(kH g l).2) else (if tru (g x).1=true then x::(kH g l).1 else (kH g l).1,0)
def whE:List Gf→Rows→Rows×Int
  | [],r=>(r,0)
  | g::l,r=>if (kH g r).2≠0 then ([],(kH g r).2) else whE l (kH g r).1
def nH (r t:Rows):Rows:=r.flatMap fun a=>t.map fun b=>a++b
def joE:List (Rows×List Gf)→Rows→Rows×Int
  | [],r=>(r,0)
  | s::l,r=>if (whE s.2 (nH r s.1)).2≠0 then ([],(whE s.2 (nH r s.1)).2) else joE l (whE s.2 (nH r s.1)).1
theorem aEo (g:Gf):∀ r:Rows,(kH g r).1.Sublist r
  | []=>by simp [kH]
  | x::l=>by
    rw [kH]
    split
    · exact XF _
    split
    · exact XF _
    dsimp only
    split
    · exact (aEo g l).cons_cons x
    · exact (aEo g l).cons x
theorem aA2:∀ (gs:List Gf) (r:Rows),(whE gs r).1.Sublist r
  | [],r=>List.Sublist.refl _
  | g::gs,r=>by
    rw [whE]
    split
    · exact XF _
    · exact (aA2 gs _).trans (aEo g r)
def tL:List Bool→Row1→Row1→Bool
  | d::ds,x::a,y::b=>if (if d=true then -(uT x y) else uT x y)≠0 then decide ((if d=true then -(uT x y) else uT x y)<0) else tL ds a b
  | _,_,_=>false
def mO {α:Type} [Inhabited α] (lt:α→α→Bool) (x:α) (l:List α):Nat→Nat
  | 0=>0
  | n+1=>if lt x (l[n]!)=true then mO lt x l n else n+1
theorem bFs {α:Type} [Inhabited α] (lt:α→α→Bool) (x:α) (l:List α):∀ n,mO lt x l n≤n
  | 0=>by simp [mO]
  | n+1=>by
    rw [mO]; split
    · have:=bFs lt x l n; omega
    · omega
def zT {α:Type} [Inhabited α] (lt:α→α→Bool) (x:α) (l:List α):List α:=l.take (mO lt x l l.length)++x::l.drop (mO lt x l l.length)
def nJ {α:Type} [Inhabited α] (lt:α→α→Bool):List α→List α→List α
  | s,[]=>s
  | s,x::l=>nJ lt (zT lt x s) l
theorem bHz {α:Type} [Inhabited α] (lt:α→α→Bool) (x:α) (l:List α):(zT lt x l).length=l.length+1:=by
  unfold zT
  have:=bFs lt x l l.length
  simp only [QN,QL,XB,List.length_drop]
  omega
theorem aVd {α:Type} [Inhabited α] (lt:α→α→Bool) (x:α) (l:List α):(zT lt x l).Perm (x::l):=by
  unfold zT
  refine List.perm_middle.trans (List.Perm.cons x ?_)
  rw [List.take_append_drop]
theorem aFb {α:Type} [Inhabited α] (lt:α→α→Bool):∀ (l s:List α),(nJ lt s l).Perm (s++l)
  | [],s=>by simp [nJ]
  | x::l,s=>by
    rw [nJ]
    refine (aFb lt l _).trans ?_
    refine ((aVd lt x s).append_right l).trans ?_
    exact List.perm_middle.symm
theorem bEn {α:Type} [Inhabited α] (lt:α→α→Bool) (h:∀ a b,lt a b=false):∀ (l s:List α),nJ lt s l=s++l
  | [],s=>by simp [nJ]
  | x::l,s=>by
    have e:mO lt x s s.length=s.length:=by
      cases s.length with
      | zero=>rfl
      | succ n=>rw [mO,h]; simp
    rw [nJ,bEn lt h l]
    unfold zT
    rw [e]; simp
def kLt (ds:List Bool) (a b:aV):Bool:=tL ds a.keys b.keys
def mF (ks:List (Gf×Bool)) (r:Rows):Rows×Int :=
  if (bG (fun row=>bG (fun k:Gf×Bool=>k.1 row) ks) r).2≠0 then ([],(bG (fun row=>bG (fun k:Gf×Bool=>k.1 row) ks) r).2)
  else ((nJ (kLt (ks.map (·.2))) [] (QT aV.mk r (bG (fun row=>bG (fun k:Gf×Bool=>k.1 row) ks) r).1)).map (·.row),0)
def aS0 (x y:aA):Bool:=decide (x.kind=y.kind)&&(decide (x.num=y.num)&&(decide (x.text=y.text)&&true))
theorem aW9 (x y:aA):aS0 x y=true↔x=y:=by
  obtain ⟨a,b,c⟩:=x
  obtain ⟨d,e,f⟩:=y
  simp [aS0]
instance:DecidableEq aA:=fun a b=>decidable_of_iff _ (aW9 a b)
def mZ:Rows→Rows→Rows
  | o,[]=>o
  | o,x::l=>if x∈o then mZ o l else mZ (o++[x]) l
def Y1 (n:Int) (r:Rows):Rows:=if 0≤n∧n<(r.length:Int) then r.take n.toNat else r
def yB (dis:Bool) (lim:Int) (r:Rows):Rows:=Y1 lim (if dis=true then mZ [] r else r)
def qA (is:List Gf) (r:Rows):Rows×Int:=bG (fun row=>bG (fun g:Gf=>g row) is) r
structure Qry where
  st:List (Rows×List Gf)
  wh:List Gf
  ks:List (Gf×Bool)
  is:List Gf
  dis:Bool
  lim:Int
def aEb (q:Qry):Rows×Int :=
  if (joE q.st [[]]).2≠0 then ([],(joE q.st [[]]).2) else if (whE q.wh (joE q.st [[]]).1).2≠0 then ([],(whE q.wh (joE q.st [[]]).1).2) else
  if (mF q.ks (whE q.wh (joE q.st [[]]).1).1).2≠0 then ([],(mF q.ks (whE q.wh (joE q.st [[]]).1).1).2) else
  if (qA q.is (mF q.ks (whE q.wh (joE q.st [[]]).1).1).1).2≠0 then ([],(qA q.is (mF q.ks (whE q.wh (joE q.st [[]]).1).1).1).2) else
  (yB q.dis q.lim (qA q.is (mF q.ks (whE q.wh (joE q.st [[]]).1).1).1).1,0)
theorem bG8 (g:Gf) (r:Rows):(kH g r).1.length≤r.length:=(aEo g r).length_le
theorem aE2 (gs:List Gf) (r:Rows):(whE gs r).1.length≤r.length:=(aA2 gs r).length_le
theorem tZ {l m:Rows} (h:l.length+m.length≤4194304):appG 24 l m=some (l++m):=nL (by omega)
theorem cId {cl:bV} {p1:List bV} {x15:Int} {g:Gf} {x0:Rows} (hl:x0.length≤1048576) (H:∀ r∈x0,oO r cl.c0 cl.c1 cl.c2 cl.c3=some (g r)) :
    ∀ i,i≤x0.length→∀ acc:Rows,acc.length≤i→P6 cl p1 x15 x0 acc (i:Nat)=if (kH g (x0.drop i)).2≠0 then some ([],(kH g (x0.drop i)).2) else M7 p1 (acc++(kH g (x0.drop i)).1) (QC .i64 (x15+1)):=by
  refine eH ?_ ?_
  · intro acc _
    rw [P6]; simp [kH]
  · intro i hi ih acc ha
    rw [P6,bH hi,QG hi]
    simp only [dD,hi,decide_true,if_true,QB,QA,H _ (QE hi),cEj,kH]
    by_cases h0:(g x0[i]).2=0
    · simp only [h0,decide_true,QF,QD,if_false,ne_eq,not_true_eq_false]
      by_cases ht:tru (g x0[i]).1=true
      · rw [if_pos ht,tZ (by simp; omega)]
        simp only [QA]
        rw [aEd,dJ hi (by omega),ih _ (by simp; omega)]
        by_cases h1:(kH g (x0.drop (i+1))).2=0 <;> simp [h1,ht]
      · rw [if_neg ht,aEd,dJ hi (by omega),ih _ (by omega)]
        by_cases h1:(kH g (x0.drop (i+1))).2=0 <;> simp [h1,ht]
    · simp [h0]
theorem cH5 {P:Row1→Prop} {c:aP} {d:GDb} {env:Rows} {ev:aJ→Gf} {l:List aJ} (hl:l.length≤1048576) (H:∀ e∈l,∀ r,P r→oO r c d env e=some (ev e r)) :
    ∀ i,i≤l.length→∀ rows:Rows,rows.length≤1048576→(∀ r∈rows,P r)→M7 (l.map (bV.mk c d env)) rows (i:Nat)=some (whE ((l.drop i).map ev) rows):=by
  refine eH ?_ ?_
  · intro rows _ _
    rw [M7]; simp [whE]
  · intro i hi ih rows hr hP
    have hi':i<(l.map (bV.mk c d env)).length:=by simpa using hi
    rw [M7,bH hi',QG hi]
    simp only [dD,hi',decide_true,if_true,QB,QA,XU,QK,whE]
    have k:=cId (cl:=bV.mk c d env l[i]) (p1:=l.map (bV.mk c d env)) (x15:=(i:Int)) (g:=ev l[i]) hr (fun r hr=>H _ (QE hi) r (hP r hr)) 0 (by omega) [] (by simp)
    simp only [Int.ofNat_zero,WN,QS] at k
    replace k:P6 (bV.mk c d env l[i]) (l.map (bV.mk c d env)) (i:Int) rows [] 0=_:=k
    rw [k,dJ hi (by omega)]
    by_cases h1:(kH (ev l[i]) rows).2=0
    · simp only [h1,ne_eq,not_true_eq_false,if_false]
      exact ih _ (QU (bG8 _ _) hr) fun r hr=>hP r ((aEo _ _).subset hr)
    · simp [h1]
theorem bM0 {P:Row1→Prop} {c:aP} {d:GDb} {env:Rows} {ev:aJ→Gf} {l:List aJ} (hl:l.length≤1048576) (H:∀ e∈l,∀ r,P r→oO r c d env e=some (ev e r)) (rows:Rows) (hr:rows.length≤1048576) (hP:∀ r∈rows,P r) :
    aB4 rows (l.map (bV.mk c d env))=some (whE (l.map ev) rows):=by
  rw [aB4]
  simpa using cH5 hl H 0 (by omega) rows hr hP
theorem cJ8 (a b:Row1) (ha:a.length≤1048576) (hb:b.length≤1048576):aKv [a,b]=some (a++b):=by
  have w1:QC .i64 (0+1)=1:=by decide
  have w2:QC .i64 (1+1)=2:=by decide
  have g:aRx [] ((a.length:Int)+b.length)=some []:=by
    unfold aRx aL9
    rw [if_pos ⟨rfl,by omega,by omega,by omega⟩]
  have e1:appG 32 [] a=some a:=by rw [nL (by simp; omega)]; rfl
  have e2:appG 32 a b=some (a++b):=nL (by omega)
  have l1:QC .i64 (a.length:Int)=a.length:=dY (by omega) (by omega)
  have l2:QC .i64 ((a.length:Int)+b.length)=(a.length:Int)+b.length:=dY (by omega) (by omega)
  have n1:¬ ((a.length:Int)<0):=by omega
  have n2:¬ ((a.length:Int)+b.length<0):=by omega
  have J:∀ p x (y:Row1) k,aF4 p x y k=xK p (QC .i64 (x+(y.length:Int))) (QC .i64 (k+1)):=fun p x y k=>by rw [aF4]
  have k2:wY [a,b] (a++b) 2=some (a++b):=by rw [wY]; simp
  have k1:wY [a,b] a 1=some (a++b):=by
    rw [wY,w2]
    simp [idx,e2,k2]
  have k0:wY [a,b] [] 0=some (a++b):=by
    rw [wY,w1]
    simp [idx,e1,k1]
  have m2:xK [a,b] ((a.length:Int)+b.length) 2=some (a++b):=by
    rw [xK,g]
    simp [k0]
  have m1:xK [a,b] (a.length:Int) 1=some (a++b):=by
    rw [xK]
    simp only [J,l2,w2]
    simp only [QL,WD,idx]
    simp only [QB,List.getElem?_cons_succ,show Int.toNat 1=1 from rfl,List.getElem?_cons_zero,l2]
    rw [if_pos (by simp)]
    simp [l2,w2,m2]
    omega
  unfold aKv
  rw [xK]
  simp [idx,J,l1,show QC .i64 1=1 by decide,m1]
def fQ (n:Nat) (r:Row1):Prop:=r.length≤n * 1000∧∀ v∈r,okI v.num
theorem bV8 {n:Nat} {a b:Row1} (ha:fQ n a) (hb:fQ 1 b):fQ (n+1) (a++b):=by
  obtain ⟨a1,a2⟩:=ha
  obtain ⟨b1,b2⟩:=hb
  refine ⟨by simp; omega,fun v hv=>?_⟩
  rcases QR.1 hv with hv | hv
  · exact a2 v hv
  · exact b2 v hv
theorem aAt {n m:Nat} (h:n≤m) {r:Row1} (hr:fQ n r):fQ m r:=⟨QU hr.1 (XI _ h),hr.2⟩
theorem aI5 (r t:Rows):(nH r t).length=r.length * t.length:=by
  unfold nH
  induction r with
  | nil=>simp
  | cons a r ih=>rw [WG,QN,ih,WI,QL,XJ]; omega
theorem aW6 {n:Nat} {r t:Rows} (hr:∀ x∈r,fQ n x) (ht:∀ x∈t,fQ 1 x):∀ x∈nH r t,fQ (n+1) x:=by
  intro x hx
  unfold nH at hx
  obtain ⟨a,ha,hx⟩:=XC.1 hx
  obtain ⟨b,hb,rfl⟩:=WE.1 hx
  exact bV8 (hr a ha) (ht b hb)
theorem bQ8 {x19:Int} {p0:eZ} {x4:Rows} {x27:Int} {t:Rows} {a:Row1} (ht:t.length≤1048576) (ha:a.length≤1048576) (hB:∀ x∈t,x.length≤1048576) :
    ∀ j,j≤t.length→∀ acc:Rows,acc.length+t.length≤2097152+j→aD7 x19 t a p0 x4 x27 (acc,(j:Nat))=aAc x19 t p0 x4 (acc++(t.drop j).map fun b=>a++b) (QC .i64 (x27+1)):=by
  refine eH ?_ ?_
  · intro acc _
    rw [aD7]; simp
  · intro j hj ih acc hacc
    rw [aD7]
    simp only [dD,hj,decide_true,if_true,bH hj,QB,QA,cJ8 a _ ha (hB _ (QE hj))]
    rw [tZ (by simp; omega)]
    simp only [QA]
    rw [dJ hj (by omega),ih _ (by simp; omega),QG hj]
    simp only [QK,WL,XG]
theorem bQa {x19:Int} {p0:eZ} {x4 t:Rows} (hx:x4.length * t.length≤1048576) (hx4:x4.length≤1048576) (ht:t.length≤1048576) (h4:∀ x∈x4,x.length≤1048576) (hB:∀ x∈t,x.length≤1048576) :
    ∀ i,i≤x4.length→∀ acc:Rows,acc.length=i * t.length→aAc x19 t p0 x4 acc (i:Nat)=(idx p0.on_ x19)>>=fun (y5:List bV)=>(aB4 (acc++nH (x4.drop i) t) y5)>>=fun (y6:(List (List aA))×Int)=>if (!decide (y6.2=0))=true then (some (([]:List (List aA)),y6.2)) else (aA0 p0 y6.1 (QC .i64 (x19+1))):=by
  refine eH ?_ ?_
  · intro acc _
    rw [aAc]; simp [nH]
  · intro i hi ih acc ha
    rw [aAc]
    simp only [dD,hi,decide_true,if_true,bH hi,QB,QA]
    have hm:(i+1) * t.length≤x4.length * t.length:=XI _ hi
    rw [XJ] at hm
    have:=bQ8 (x19:=x19) (p0:=p0) (x4:=x4) (x27:=(i:Int)) ht (h4 _ (QE hi)) hB 0 (by omega) acc (by omega)
    rw [show ((0:Nat):Int)=0 from rfl] at this
    rw [this,dJ hi (by omega),ih _ (by simp [ha,XJ]),QG hi]
    simp only [nH,WG,WL,WN]
    rfl
theorem aP2 (R:Nat):∀ (st:List (Rows×List Gf)) (r:Rows) (n:Nat),(∀ s∈st,s.1.length≤R)→r.length≤n→(joE st r).1.length≤n * R ^ st.length
  | [],r,n,_,h=>by simpa [joE] using h
  | s::st,r,n,hs,h=>by
    rw [joE]
    split
    · simp
    · have h1:(whE s.2 (nH r s.1)).1.length≤n * R:=by
        refine QU (aE2 _ _) ?_
        rw [aI5]
        exact YB h (hs s (by simp))
      have:=aP2 R st _ _ (fun s hs'=>hs s (WM _ hs')) h1
      rw [QL,YC,Nat.mul_comm (R ^ st.length),← Nat.mul_assoc]
      exact this
theorem aRn:∀ (st:List (Rows×List Gf)) (r:Rows) (n:Nat),(∀ s∈st,∀ x∈s.1,fQ 1 x)→(∀ x∈r,fQ n x)→∀ x∈(joE st r).1,fQ (n+st.length) x
  | [],r,n,_,h=>by simpa [joE] using h
  | s::st,r,n,hs,h=>by
    rw [joE]
    split
    · simp
    · have:=aRn st _ (n+1) (fun s hs'=>hs s (WM _ hs')) (fun x hx=>aW6 h (hs s (by simp)) x ((aA2 s.2 _).subset hx))
      rw [QL,show n+(st.length+1)=n+1+st.length by omega]
      exact this
structure cNw (N:Nat) (c:aP) (d:GDb) (env:Rows) (ev:aJ→Gf) (p:aQ):Prop where
  on:p.on_.length=p.tables.length
  t3:p.tables.length≤3
  on1:∀ l∈p.on_,l.length≤1048576
  wh:p.where_.length≤1048576
  ord:p.order.length≤1048576
  it:p.items.length≤1048576
  tb:∀ i∈p.tables,0≤i∧i<(d.tables.length:Int)
  N1:N≤1048576
  R:∃ R:Nat,1≤R∧R ^ p.tables.length≤N∧(∀ t∈d.tables,t.rows.length≤R)
  db:∀ t∈d.tables,∀ x∈t.rows,fQ 1 x
def rowsOf (d:GDb) (i:Int):Rows:=(d.tables[i.toNat]?.getD ⟨[]⟩).rows
def aAd (d:GDb) (ev:aJ→Gf) (p:aQ):List (Rows×List Gf):=QT (fun i l=>(rowsOf d i,l.map ev)) p.tables p.on_
def pR (d:GDb) (ev:aJ→Gf) (p:aQ):Qry:=⟨aAd d ev p,p.where_.map ev,p.order.map fun k=>(ev k.expr,k.desc),p.items.map ev,p.distinct,p.limit⟩
theorem aP5 (c:aP) (d:GDb) (env:Rows) (l:List aJ) (h:l.length≤1048576):U7 l c d env=some (l.map (bV.mk c d env)):=by
  unfold U7
  have e:(l.flatMap fun y=>[bV.mk c d env y])=l.map (bV.mk c d env):=by
    clear h
    induction l with
    | nil=>rfl
    | cons y l ih=>rw [WG,ih]; rfl
  have:=gather (p:=l) (f:=fun y=>[bV.mk c d env y]) (G:=fun y acc=>appG 8 acc ([(bV.mk c d env y)]:List bV)) (L:=fun acc i=>aB7 c d env l acc i) (K:=some) (c:=1048576) (by omega)
    (fun y hy acc ha=>by
      simp only [WJ] at ha
      exact nL (by simp only [WJ]; omega))
    (fun i acc=>by rw [aB7])
    [] (by rw [e,WI]; simp only [WD]; omega)
  rw [this,e]
  rfl
theorem bVy {c:aP} {d:GDb} {env:Rows} {ev:aJ→Gf} {x:eZ} {l:List (List aJ)} {w:List aJ} {R N:Nat} (hN:N≤1048576) (R1:1≤R)
    (ho:x.on_=l.map fun l=>l.map (bV.mk c d env)) (hw:x.where_=w.map (bV.mk c d env)) (hlt:l.length=x.tables.length) (hl:∀ y∈l,y.length≤1048576) (hwl:w.length≤1048576) (t3:x.tables.length≤3)
    (hR:∀ t∈x.tables,t.length≤R) (hRN:R ^ x.tables.length≤N) (hB:∀ t∈x.tables,∀ r∈t,fQ 1 r)
    (H:∀ e,(e∈w∨∃ y∈l,e∈y)→∀ r,fQ 3 r→oO r c d env e=some (ev e r)) :
    ∀ i,i≤x.tables.length→∀ rows:Rows,rows.length≤R ^ i→(∀ r∈rows,fQ i r)→aA0 x rows (i:Nat) =
      some (if (joE (QT (fun t l=>(t,l.map ev)) (x.tables.drop i) (l.drop i)) rows).2≠0 then ([],(joE (QT (fun t l=>(t,l.map ev)) (x.tables.drop i) (l.drop i)) rows).2) else whE (w.map ev) (joE (QT (fun t l=>(t,l.map ev)) (x.tables.drop i) (l.drop i)) rows).1):=by
  have pw:∀ i,i≤x.tables.length→R ^ i≤N:=fun i hi=>QU (YD R1 hi) hRN
  refine eH ?_ ?_
  · intro rows hr hP
    rw [aA0]
    have:=pw _ (XA _)
    simp only [dD,WO,decide_false,QD,if_false,hw,WV,XV,joE,ne_eq,not_true_eq_false,QB]
    rw [bM0 hwl (fun e he=>H e (.inl he)) rows (by omega) (fun r hr=>aAt t3 (hP r hr))]
    rfl
  · intro i hi ih rows hr hP
    have hil:i<l.length:=by omega
    have hio:i<x.on_.length:=by rw [ho]; simpa using hil
    have pi:=pw i (by omega)
    have ps:=pw (i+1) (by omega)
    have ht:=hR _ (QE hi)
    have hcl:(nH rows x.tables[i]).length≤R ^ (i+1):=by rw [aI5,YC]; exact YB hr ht
    have hRN1:R≤1048576:=QU (QU (by have:=YD R1 (show 1≤i+1 by omega); simpa using this) ps) hN
    rw [aA0,bH hi]
    simp only [dD,hi,decide_true,if_true,QB,QA]
    have j1:=bQa (x19:=(i:Int)) (p0:=x) (x4:=rows) (t:=x.tables[i]) (by rw [← aI5]; omega) (by omega) (by omega) (fun y hy=>by have:=(hP y hy).1; omega) (fun y hy=>by have:=(hB _ (QE hi) y hy).1; omega) 0 (by omega) [] (by simp)
    rw [show ((0:Nat):Int)=0 from rfl] at j1
    rw [j1,bH hio]
    have e1:x.on_[i]=l[i].map (bV.mk c d env):=by simp [ho]
    simp only [QB,QA,WN,QS,e1]
    have hcB:∀ r∈nH rows x.tables[i],fQ (i+1) r:=aW6 hP (hB _ (QE hi))
    rw [bM0 (hl _ (QE hil)) (fun e he=>H e (.inr ⟨_,QE hil,he⟩)) _ (by omega) (fun r hr=>aAt (by omega) (hcB r hr))]
    simp only [QA]
    rw [QG hi,QG hil,WZ,joE]
    by_cases h0:(whE (l[i].map ev) (nH rows x.tables[i])).2=0
    · simp only [h0,decide_true,QF,QD,if_false,ne_eq,not_true_eq_false]
      rw [dJ hi (by omega)]
      exact ih _ (QU (aE2 _ _) hcl) fun r hr=>hcB r ((aA2 _ _).subset hr)
    · simp [h0]
theorem bFm (x y:aA) : -1≤uT x y∧uT x y≤1:=by
  have h:=aL7 x y
  unfold vG at h
  generalize uT x y=n at h
  repeat' split at h
  all_goals (simp only [QH] at h; omega)
def aC2 (N:Nat):Prop:=∀ (x:eZ) (l:List aV),l.length≤N→x.order.length≤1048576→(∀ k∈l,k.keys.length=x.order.length)→aJe l (fD.mk x)=some (nJ (kLt (x.order.map (·.desc))) [] l)
theorem cB6 {x:eZ} {a b:aV} (ho:x.order.length≤1048576) (ha:a.keys.length=x.order.length) (hb:b.keys.length=x.order.length) :
    ∀ i,i≤x.order.length→∃ n,aDi x a b (i:Nat)=some n∧decide (n<0)=tL ((x.order.map (·.desc)).drop i) (a.keys.drop i) (b.keys.drop i):=by
  refine eH ?_ ?_
  · refine ⟨0,?_,?_⟩
    · rw [aDi]; simp
    · rw [List.drop_of_length_le (by simp)]; simp [tL]
  · intro i hi ih
    obtain ⟨n,h1,h2⟩:=ih
    have ia:i<a.keys.length:=by omega
    have ib:i<b.keys.length:=by omega
    have id:i<(x.order.map (·.desc)).length:=by simpa using hi
    rw [aDi]
    simp only [dD,hi,decide_true,if_true,bH hi,bH ia,bH ib,QB,QA,aMm,aL7]
    rw [QG ia,QG ib,QG id,tL]
    have hr:=bFm a.keys[i] b.keys[i]
    generalize uT a.keys[i] b.keys[i]=o at hr ⊢
    rw [dY (n:=0 - o) (by omega) (by omega)]
    have J:∀ m:Int,∃ n,aBc x (i:Int) a b m=some n∧decide (n<0)=if m≠0 then decide (m<0) else tL ((x.order.map (·.desc)).drop (i+1)) (a.keys.drop (i+1)) (b.keys.drop (i+1)):=by
      intro m
      rw [aBc]
      by_cases hm:m=0
      · refine ⟨n,?_,?_⟩
        · rw [if_neg (by simp [hm]),dJ hi (by omega)]; exact h1
        · rw [if_neg (by simp [hm])]; exact h2
      · exact ⟨m,by rw [if_pos (by simp [hm])],by rw [if_pos hm]⟩
    simp only [XU]
    by_cases hd:x.order[i].desc=true
    · rw [if_pos hd]
      simp only [hd,if_true]
      have:=J (0 - o)
      rwa [Int.zero_sub] at this ⊢
    · rw [if_neg hd]
      simp only [hd,QD,if_false]
      exact J o
theorem cEz {x:eZ} {a b:aV} (ho:x.order.length≤1048576) (ha:a.keys.length=x.order.length) (hb:b.keys.length=x.order.length) :
    ∃ n,vX a b x=some n∧decide (n<0)=kLt (x.order.map (·.desc)) a b:=by
  have:=cB6 ho ha hb 0 (by omega)
  unfold vX kLt
  simpa using this
theorem bGk {α:Type} (A:List α) (x:α) (Z:List α):idx (A++x::Z) (A.length:Int)=some x:=by rw [aT9]; simp
theorem bIx {α:Type} (A:List α) (x y:α) (Z:List α):jR (A++x::Z) (A.length:Int) y=some (A++y::Z):=by
  unfold jR; rw [if_pos ⟨by omega,by simp⟩]; simp
def KL (m:Nat) (l:List aV):Prop:=∀ k∈l,k.keys.length=m
theorem bKz {x:eZ} (ho:x.order.length≤1048576) (n x8:Int) (v:aV) (hv:v.keys.length=x.order.length) (l C:List aV) (hl:KL x.order.length l) (hl2:l.length≤1048576):∀ k,k≤l.length →
    aA8 0 n (fD.mk x) x8 (k:Int) (l.take k++v::(l.drop k++C)) =
    H8 0 n (fD.mk x) (QC .i64 (x8+1)) (l.take (mO (kLt (x.order.map (·.desc))) v l k)++v::(l.drop (mO (kLt (x.order.map (·.desc))) v l k)++C))
  | 0,_=>by
    rw [aA8]
    simp [mO]
  | k+1,hk=>by
    have hk':k<l.length:=by omega
    have et:l.take (k+1)=l.take k++[l[k]]:=by rw [List.take_add_one,QQ hk']; rfl
    have lk:(l.take k).length=k:=by simp; omega
    have e0:((k+1:Nat):Int)=((l.take k++[l[k]]).length:Int):=by simp; omega
    have e1:(k:Int)=((l.take k).length:Int):=by rw [lk]
    have ew:QC .i64 (((k+1:Nat):Int) - 1)=(k:Int):=by rw [dY] <;> omega
    have i1:∀ Z,idx ((l.take k++[l[k]])++v::Z) ((k+1:Nat):Int)=some v:=fun Z=>by rw [e0]; exact bGk _ _ _
    have i2:∀ Z,idx ((l.take k++[l[k]])++Z) (k:Int)=some l[k]:=by
      intro Z
      have:=bGk (l.take k) l[k] Z
      rw [lk] at this
      rw [WL]
      exact this
    have s1:∀ Z,jR ((l.take k++[l[k]])++v::Z) ((k+1:Nat):Int) l[k]=some ((l.take k++[l[k]])++l[k]::Z):=fun Z=>by rw [e0]; exact bIx _ _ _ _
    have s3:∀ Z,jR ((l.take k++[l[k]])++Z) (k:Int) v=some (l.take k++v::Z):=by
      intro Z
      have:=bIx (l.take k) l[k] v Z
      rw [lk] at this
      rw [WL]
      exact this
    obtain ⟨m,hm1,hm2⟩:=cEz ho hv (hl l[k] (QE hk'))
    rw [aA8,et]
    have hp:decide ((0:Int)<((k+1:Nat):Int))=true:=by rw [decide_eq_true_eq]; omega
    have eb:=getElem!_pos l k hk'
    simp only [hp,beq_self_eq_true,WF,if_true,ew,i1,i2,QB,QA,hm1,hm2]
    rw [mO,eb]
    by_cases hr:kLt (x.order.map (·.desc)) v l[k]=true
    · rw [if_pos hr,if_pos hr,s1]
      simp only [QA,i2,s3]
      rw [← bKz ho n x8 v hv l C hl hl2 k (by omega),QG hk']
      rfl
    · rw [if_neg hr,if_neg hr,et]
theorem bK0 {x:eZ} (ho:x.order.length≤1048576) (n:Nat):∀ (Z S:List aV),S.length+Z.length=n→n≤1048576→KL x.order.length (S++Z) →
    H8 0 (n:Int) (fD.mk x) (S.length:Int) (S++Z)=some (nJ (kLt (x.order.map (·.desc))) S Z)
  | [],S,hn,_,_=>by
    rw [H8]
    simp at hn
    simp [hn,nJ]
  | v::Z,S,hn,h2,hm=>by
    simp only [QL] at hn
    rw [H8]
    have hlt:S.length<n:=by omega
    simp only [dD,hlt,decide_true,if_true]
    have r:=bKz ho (n:Int) (S.length:Int) v (hm v (by simp)) S Z (fun k hk=>hm k (by simp [hk])) (by omega) S.length (XA _)
    rw [List.take_length,WV,QS] at r
    rw [r,dJ hlt (by omega),nJ]
    have e:S.take (mO (kLt (x.order.map (·.desc))) v S S.length)++v::(S.drop (mO (kLt (x.order.map (·.desc))) v S S.length)++Z)=zT (kLt (x.order.map (·.desc))) v S++Z:=by simp [zT]
    have l1:=bHz (kLt (x.order.map (·.desc))) v S
    rw [e,← l1]
    refine bK0 ho n Z _ (by omega) h2 fun k hk=>?_
    rcases QR.1 hk with hk | hk
    · have:=(aVd (kLt (x.order.map (·.desc))) v S).subset hk
      exact hm k (by simp at this ⊢; rcases this with h | h <;> simp [h])
    · exact hm k (by simp [hk])
theorem cEq:aC2 19:=by
  intro x l hl ho hk
  have hI:aEf l 0 (l.length:Int) (fD.mk x)=some (nJ (kLt (x.order.map (·.desc))) [] l):=by
    unfold aEf
    have e:QC .i64 (0+1)=1:=by decide
    rw [e]
    cases l with
    | nil=>rw [H8]; simp [nJ]
    | cons y l=>exact bK0 ho (l.length+1) l [y] (by simp; omega) (by simp at hl; omega) hk
  unfold aJe aMs
  rw [aF7]
  have c1:decide ((20:Int)≤(l.length:Int))=false:=by rw [decide_eq_false_iff_not]; omega
  have c2:decide ((20:Int)<(l.length:Int))=false:=by rw [decide_eq_false_iff_not]; omega
  simp only [c1,QD,if_false,hI,QB,QA]
  rw [aHo]
  simp only [c2,QD,if_false,QA]
theorem aAx {α β γ:Type} (f:α→β) (g:β→γ×Int):∀ l:List α,bG g (l.map f)=bG (fun x=>g (f x)) l
  | []=>rfl
  | x::l=>by simp only [QK,bG,aAx f g l]
theorem aJt {α β:Type} {g:α→β×Int}:∀ {l:List α},(bG g l).2=0→(bG g l).1.length=l.length
  | [],_=>rfl
  | x::l,h=>by
    rw [bG] at h ⊢
    by_cases h1:(g x).2=0
    · by_cases h2:(bG g l).2=0
      · simp [h1,h2,aJt h2]
      · simp [h1,h2] at h
    · simp [h1] at h
theorem aEx {α β:Type} {g:α→β×Int} (l:List α):(bG g l).1.length≤l.length:=by
  by_cases h:(bG g l).2=0
  · rw [aJt h]; exact XA _
  · cases l with
    | nil=>simp [bG]
    | cons x l =>
      rw [bG] at h ⊢
      by_cases h1:(g x).2=0
      · by_cases h2:(bG g l).2=0
        · simp [h1,h2] at h
        · simp [h1,h2]
      · simp [h1]
theorem aDf {α β:Type} {g:α→β×Int}:∀ {l:List α} {y:β},y∈(bG g l).1→∃ x∈l,y=(g x).1∧(g x).2=0
  | [],y,h=>by simp [bG] at h
  | x::l,y,h=>by
    rw [bG] at h
    by_cases h1:(g x).2=0
    · by_cases h2:(bG g l).2=0
      · simp only [h1,h2,ne_eq,not_true_eq_false,if_false,WQ] at h
        rcases h with rfl | h
        · exact ⟨x,by simp,rfl,h1⟩
        · obtain ⟨z,hz,e⟩:=aDf h
          exact ⟨z,WM _ hz,e⟩
      · simp [h1,h2] at h
    · simp [h1] at h
abbrev Sb (c:aP) (d:GDb) (env:Rows) (k:dV):nI:=nI.mk (bV.mk c d env k.expr) k.desc
theorem cHj (l:List aV) (hl:l.length≤1048576):∀ i,i≤l.length→∀ acc:Rows,acc.length≤i→R9 l acc (i:Nat)=some (acc++(l.drop i).map (·.row),0):=by
  refine eH ?_ ?_
  · intro acc _
    rw [R9]; simp
  · intro i hi ih acc ha
    rw [R9]
    simp only [dD,hi,decide_true,if_true,bH hi,QB,QA]
    rw [tZ (by simp only [WJ]; omega)]
    simp only [QA]
    rw [dJ hi (by omega),ih _ (by simp only [QN,WJ]; omega),QG hi]
    simp only [QK,WL,XG]
abbrev oW (ev:aJ→Gf) (ks:List dV) (r:Row1):Row1×Int:=bG (fun k:dV=>ev k.expr r) ks
theorem bWo {N:Nat} (hN:N≤1048576) (hS:aC2 N) {P:Row1→Prop} {c:aP} {d:GDb} {env:Rows} {ev:aJ→Gf} {ks:List dV} {x:eZ} (hx:x.order=ks.map (Sb c d env)) (hk:ks.length≤1048576)
    (H:∀ k∈ks,∀ r,P r→oO r c d env k.expr=some (ev k.expr r)) {rows:Rows} (hr:rows.length≤N) (hP:∀ r∈rows,P r) :
    ∀ i,i≤rows.length→∀ b:List aV,b.length=i→KL ks.length b→O6 rows x (i:Nat) b =
      if (bG (oW ev ks) (rows.drop i)).2≠0 then some ([],(bG (oW ev ks) (rows.drop i)).2)
      else some ((nJ (kLt (ks.map (·.desc))) [] (b++QT aV.mk (rows.drop i) (bG (oW ev ks) (rows.drop i)).1)).map (·.row),0):=by
  have ho:x.order.length=ks.length:=by rw [hx,WI]
  have hd:x.order.map (·.desc)=ks.map (·.desc):=by rw [hx,WU]; rfl
  refine eH ?_ ?_
  · intro b hb hK
    rw [O6]
    simp only [dD,WO,decide_false,QD,if_false,WV,bG,ne_eq,not_true_eq_false,XV,WY,QB]
    rw [hS x b (by omega) (by omega) (fun k hk=>by rw [ho]; exact hK k hk)]
    simp only [QA]
    have hl:(nJ (kLt (x.order.map (·.desc))) [] b).length=b.length:=by simpa using (aFb (kLt (x.order.map (·.desc))) b []).length_eq
    have:=cHj (nJ (kLt (x.order.map (·.desc))) [] b) (by omega) 0 (by omega) [] (by simp)
    rw [hd] at this
    simpa [hd] using this
  · intro i hi ih b hb hK
    rw [O6,bH hi,QG hi]
    simp only [dD,hi,decide_true,if_true,QB,QA,bG]
    have hPr:=hP _ (QE hi)
    have m:=aBp (p:=x.order) (b:=32) (g:=fun k=>ev k.eval.c3 rows[i]) (F:=fun y3=>oO rows[i] y3.eval.c0 y3.eval.c1 y3.eval.c2 y3.eval.c3)
      (L:=fun acc j=>aDp rows[i] rows (i:Int) x b acc j) (E:=fun e=>([],e)) (K:=fun acc=>(appG 48 b ([(aV.mk rows[i] acc)]:List aV))>>=fun (y6:List aV)=>O6 rows x (QC .i64 ((i:Int)+1)) y6)
      (by omega) (by omega) (fun k hk=>by
        rw [hx] at hk
        obtain ⟨q,hq,rfl⟩:=WE.1 hk
        exact H q hq _ hPr) (fun j acc=>by rw [aDp]) [] (by simp)
    rw [m,hx,aAx]
    simp only [QS]
    by_cases h0:(bG (fun k:dV=>ev k.expr rows[i]) ks).2=0
    · have hkl:=aJt h0
      have ea:appG 48 b [aV.mk rows[i] (bG (fun k:dV=>ev k.expr rows[i]) ks).1]=some (b++[aV.mk rows[i] (bG (fun k:dV=>ev k.expr rows[i]) ks).1]):=nL (by simp only [WJ]; omega)
      simp only [oW,h0,ne_eq,not_true_eq_false,if_false,ea,QB,QA]
      rw [dJ hi (by omega),ih _ (by simp [hb]) (fun k hk=>by
        rcases QR.1 hk with hk | hk
        · exact hK k hk
        · simp at hk; subst hk; exact hkl)]
      by_cases h1:(bG (oW ev ks) (rows.drop (i+1))).2=0
      · simp only [h1,ne_eq,not_true_eq_false,if_false,WZ,WL,XG]
      · simp [h1]
    · simp [h0,oW]
theorem bRr {N:Nat} (hN:N≤1048576) (hS:aC2 N) {P:Row1→Prop} {c:aP} {d:GDb} {env:Rows} {ev:aJ→Gf} {ks:List dV} {x:eZ} (hx:x.order=ks.map (Sb c d env)) (hk:ks.length≤1048576)
    (H:∀ k∈ks,∀ r,P r→oO r c d env k.expr=some (ev k.expr r)) {rows:Rows} (hr:rows.length≤N) (hP:∀ r∈rows,P r) :
    aLt x rows=some (mF (ks.map fun k=>(ev k.expr,k.desc)) rows):=by
  have:=bWo hN hS hx hk H hr hP 0 (by omega) [] rfl (fun k hk=>by simp at hk)
  rw [show ((0:Nat):Int)=0 from rfl] at this
  rw [aLt,this]
  unfold mF
  have e:(fun row:Row1=>bG (fun k:Gf×Bool=>k.1 row) (ks.map fun k=>(ev k.expr,k.desc)))=oW ev ks:=by
    funext row; rw [aAx]
  have e2:(ks.map fun k=>(ev k.expr,k.desc)).map (·.2)=ks.map (·.desc):=by rw [WU]; rfl
  rw [e,e2,WN,QS]
  split <;> rfl
theorem bUz {P:Row1→Prop} {c:aP} {d:GDb} {env:Rows} {ev:aJ→Gf} {l:List aJ} (hl:l.length≤1048576) (H:∀ e∈l,∀ r,P r→oO r c d env e=some (ev e r)) {r:Row1} (hr:P r) :
    aEy r (l.map (bV.mk c d env))=some (bG (fun e=>ev e r) l):=by
  have m:=aBp (p:=l.map (bV.mk c d env)) (b:=32) (g:=fun k=>ev k.c3 r) (F:=fun y1=>oO r y1.c0 y1.c1 y1.c2 y1.c3)
    (L:=fun acc j=>aEk r (l.map (bV.mk c d env)) j acc) (E:=fun e=>([],e)) (K:=fun acc=>some (acc,0)) (by simpa using hl) (by omega) (fun k hk=>by
      obtain ⟨q,hq,rfl⟩:=WE.1 hk
      exact H q hq _ hr) (fun j acc=>by rw [aEk]) [] (by simp)
  rw [aEy,aMp,m,aAx]
  by_cases h0:(bG (fun e=>ev e r) l).2=0
  · simp only [h0,ne_eq,not_true_eq_false,if_false,QS,QB,QA]
    rw [← h0]
  · have e:(bG (fun e=>ev e r) l).1=[]:=by
      cases l with
      | nil=>simp [bG] at h0
      | cons x l =>
        rw [bG] at h0 ⊢
        by_cases h1:(ev x r).2=0
        · by_cases h2:(bG (fun e=>ev e r) l).2=0
          · simp [h1,h2] at h0
          · simp [h1,h2]
        · simp [h1]
    simp only [h0,ne_eq,not_false_eq_true,if_true,QB,QA]
    rw [← e]
theorem bW5 (a b:Row1) (ha:a.length≤1048576):aKz a b=some (decide (a=b)):=by
  unfold aKz
  by_cases hl:a.length=b.length
  · have key:∀ i,i≤a.length→Q7 a b (i:Nat)=some (decide (a.drop i=b.drop i)):=by
      refine eH ?_ ?_
      · rw [Q7]
        rw [WV,hl,WV]; simp
      · intro i hi ih
        have hb:i<b.length:=by omega
        rw [Q7]
        simp only [dD,hi,decide_true,if_true,bH hi,bH hb,QB,QA]
        rw [dJ hi (by omega),ih,QG hi,QG hb]
        have e:=aW9 a[i] b[i]
        unfold aS0 at e
        by_cases h:a[i]=b[i]
        · rw [if_neg (by rw [e.2 h]; decide),h]; simp only [List.cons.injEq,true_and]
        · rw [if_pos (by rw [Bool.eq_false_iff.2 (fun h'=>h (e.1 h'))]; rfl)]; simp only [List.cons.injEq,h,false_and,decide_false]
    have:=key 0 (by omega)
    simp only [WN] at this
    rw [if_neg (by simp; omega)]
    exact this
  · have:a≠b:=fun e=>hl (by rw [e])
    rw [if_pos (by simp; omega)]
    simp [this]
theorem cGb (o:Rows) (y:Row1) (ho:o.length≤1048576) (hy:y.length≤1048576):aLo o (uU.mk y)=some (decide (y∈o)):=by
  have key:∀ i,i≤o.length→∃ n,Y4 o (uU.mk y) (i:Nat)=some n∧decide (0≤n)=decide (y∈o.drop i):=by
    refine eH ?_ ?_
    · refine ⟨-1,?_,?_⟩
      · rw [Y4]; simp
      · simp
    · intro i hi ⟨n,h1,h2⟩
      rw [Y4]
      simp only [dD,hi,decide_true,if_true,bH hi,QB,QA,aJh,bW5 y _ hy,dJ hi (show o.length≤4611686018427387904 by omega)]
      rw [QG hi]
      by_cases h:y=o[i]
      · refine ⟨i,by simp [h],?_⟩
        rw [decide_eq_true (show (0:Int)≤i by omega),decide_eq_true (by rw [← h]; simp)]
      · refine ⟨n,?_,?_⟩
        · rw [if_neg (by simp [h])]; exact h1
        · rw [h2]; simp only [WQ,h,false_or]
  obtain ⟨n,h1,h2⟩:=key 0 (by omega)
  unfold aLo aOt
  rw [show ((0:Nat):Int)=0 from rfl] at h1
  rw [h1]
  simpa using h2
theorem bK6 (r:Row1) (h:r.length≤1048576):aD3 r=some r:=by
  unfold aD3
  split
  · rename_i e
    simp only [decide_eq_true_eq] at e
    have:r=[]:=XK (by omega)
    rw [this]
  · rw [nL (by simp only [WD]; omega)]; rfl
theorem bW6 (p:Rows) (hp:p.length≤1048576) (hr:∀ y∈p,y.length≤1048576):aCw p=some (mZ [] p):=by
  have key:∀ i,i≤p.length→∀ acc:Rows,acc.length≤i→aCd p (i:Nat) acc=some (mZ acc (p.drop i)):=by
    refine eH ?_ ?_
    · intro acc _
      rw [aCd]; simp [mZ]
    · intro i hi ih acc ha
      have hy:=hr _ (QE hi)
      rw [aCd]
      simp only [dD,hi,decide_true,if_true,bH hi,QB,QA,cGb acc _ (by omega) hy,bK6 _ hy]
      rw [QG hi,mZ]
      by_cases h:p[i]∈acc
      · simp only [h,decide_true,QF,QD,if_false,if_true]
        rw [aDx,dJ hi (by omega)]
        exact ih acc (by omega)
      · simp only [h,decide_false,QP,if_true,if_false]
        rw [tZ (by simp only [WJ]; omega)]
        simp only [QA]
        rw [aDx,dJ hi (by omega)]
        exact ih _ (by simp only [QN,WJ]; omega)
  unfold aCw
  simpa using key 0 (by omega) [] (by simp)
theorem aI9:∀ (l o:Rows),(mZ o l).length≤o.length+l.length
  | [],o=>by simp [mZ]
  | x::l,o=>by
    rw [mZ]
    split
    · have:=aI9 l o; simp; omega
    · have:=aI9 l (o++[x]); simp at this ⊢; omega
theorem bGh (n:Int) (r:Rows) (hr:r.length≤1048576):((some (if (decide (0≤n))=true then (decide (n<(r.length:Int))) else false))>>=fun (y8:Bool)=>if y8=true then ((iR r 0 n)>>=fun (y9:List (List aA))=>some (y9,(0:Int))) else (some (r,0)))=some (Y1 n r,0):=by
  unfold Y1
  simp only [QB,QA]
  by_cases h0:0≤n
  · by_cases h1:n<(r.length:Int)
    · obtain ⟨m,rfl⟩:∃ m:Nat,n=m:=⟨n.toNat,by omega⟩
      have:m≤r.length:=by omega
      simp [h0,h1,aOr this]
    · simp [h0,h1]
  · simp [h0]
theorem bR9 {x:eZ} (r:Rows) (hr:r.length≤1048576) (hl:∀ y∈r,y.length≤1048576):(if x.distinct=true then ((aCw r)>>=fun (y6:List (List aA))=>xX x y6) else (xX x r))=some (yB x.distinct x.limit r,0):=by
  have J:∀ y:Rows,y.length≤1048576→xX x y=some (Y1 x.limit y,0):=fun y hy=>by
    unfold xX aLw
    exact bGh x.limit y hy
  unfold yB
  by_cases hd:x.distinct=true
  · rw [if_pos hd,if_pos hd,bW6 r hr hl]
    exact J _ (by have:=aI9 r []; simp at this; omega)
  · rw [if_neg hd,if_neg hd]; exact J r hr
theorem cJ6 {N:Nat} (hS:aC2 N) {c:aP} {d:GDb} {env:Rows} {ev:aJ→Gf} {x:eZ} {l:List (List aJ)} {w it:List aJ} {ks:List dV} {R:Nat} (hN:N≤1048576) (R1:1≤R)
    (ho:x.on_=l.map fun l=>l.map (bV.mk c d env)) (hw:x.where_=w.map (bV.mk c d env)) (hx:x.order=ks.map (Sb c d env)) (hi:x.items=⟨it.map (bV.mk c d env)⟩)
    (hlt:l.length=x.tables.length) (hl:∀ y∈l,y.length≤1048576) (hwl:w.length≤1048576) (hkl:ks.length≤1048576) (hil:it.length≤1048576) (t3:x.tables.length≤3)
    (hR:∀ t∈x.tables,t.length≤R) (hRN:R ^ x.tables.length≤N) (hB:∀ t∈x.tables,∀ r∈t,fQ 1 r)
    (H:∀ e,(e∈w∨(∃ y∈l,e∈y)∨(∃ k∈ks,e=k.expr)∨e∈it)→∀ r,fQ 3 r→oO r c d env e=some (ev e r)) :
    M5 x=some (aEb ⟨QT (fun t l=>(t,l.map ev)) x.tables l,w.map ev,ks.map fun k=>(ev k.expr,k.desc),it.map ev,x.distinct,x.limit⟩):=by
  have j:=bVy hN R1 ho hw hlt hl hwl t3 hR hRN hB (fun e he=>H e (he.elim .inl fun h=>.inr (.inl h))) 0 (by omega) [[]] (by simp) (fun r hr=>by simp at hr; subst hr; exact ⟨by simp,by simp⟩)
  rw [show ((0:Nat):Int)=0 from rfl,WN,WN] at j
  rw [M5,aQb,j]
  unfold aEb
  dsimp only
  have js:(QT (fun (t:Rows) (l:List aJ)=>(t,l.map ev)) x.tables l).length=x.tables.length:=by simp [hlt]
  have jm:∀ (T:List Rows) (L:List (List aJ)),∀ s∈QT (fun (t:Rows) (l:List aJ)=>(t,l.map ev)) T L,s.1∈T:=by
    intro T
    induction T with
    | nil=>intro L s hs; simp at hs
    | cons t T ih =>
      intro L s hs
      cases L with
      | nil=>simp at hs
      | cons y L =>
        rw [WZ,WQ] at hs
        rcases hs with rfl | hs
        · simp
        · exact WM _ (ih L s hs)
  have jl:=aP2 R (QT (fun (t:Rows) (l:List aJ)=>(t,l.map ev)) x.tables l) [[]] 1 (fun s hs=>hR _ (jm _ _ s hs)) (by simp)
  have jB:=aRn (QT (fun (t:Rows) (l:List aJ)=>(t,l.map ev)) x.tables l) [[]] 0 (fun s hs=>hB _ (jm _ _ s hs)) (fun r hr=>by simp at hr; subst hr; exact ⟨by simp,by simp⟩)
  rw [js,YA] at jl
  rw [js,Nat.zero_add] at jB
  generalize joE (QT (fun (t:Rows) (l:List aJ)=>(t,l.map ev)) x.tables l) [[]]=J at jl jB ⊢
  obtain ⟨J1,J2⟩:=J
  dsimp only at jl jB ⊢
  by_cases h0:J2=0
  · subst h0
    have wl:=aE2 (w.map ev) J1
    have wB:∀ r∈(whE (w.map ev) J1).1,fQ 3 r:=fun r hr=>aAt t3 (jB r ((aA2 _ _).subset hr))
    simp only [ne_eq,not_true_eq_false,if_false,QB,QA]
    generalize whE (w.map ev) J1=W at wl wB ⊢
    obtain ⟨W1,W2⟩:=W
    dsimp only at wl wB ⊢
    by_cases h1:W2=0
    · subst h1
      simp only [decide_true,QF,QD,if_false]
      rw [bRr hN hS hx hkl (fun k hk r hr=>H k.expr (.inr (.inr (.inl ⟨k,hk,rfl⟩))) r hr) (QU wl (QU jl hRN)) wB]
      simp only [QA]
      have sl:(mF (ks.map fun k=>(ev k.expr,k.desc)) W1).1.length≤W1.length:=by
        unfold mF
        split
        · simp
        · rw [WI,(aFb _ _ _).length_eq]
          simp only [QS,List.length_zipWith]
          omega
      have sB:∀ r∈(mF (ks.map fun k=>(ev k.expr,k.desc)) W1).1,fQ 3 r:=by
        unfold mF
        split
        · simp
        · intro r hr
          obtain ⟨k,hk,rfl⟩:=WE.1 hr
          have hk2:=(aFb _ _ _).subset hk
          rw [QS] at hk2
          have:∀ (A B:List Row1) (k:aV),k∈QT aV.mk A B→k.row∈A:=by
            intro A
            induction A with
            | nil=>intro B k hk; simp at hk
            | cons a A ih =>
              intro B k hk
              cases B with
              | nil=>simp at hk
              | cons b B =>
                rw [WZ,WQ] at hk
                rcases hk with rfl | hk
                · simp
                · exact WM _ (ih B k hk)
          exact wB _ (this _ _ _ hk2)
      generalize mF (ks.map fun k=>(ev k.expr,k.desc)) W1=S at sl sB ⊢
      obtain ⟨S1,S2⟩:=S
      dsimp only at sl sB ⊢
      by_cases h2:S2=0
      · subst h2
        simp only [decide_true,QF,QD,if_false]
        have sN:S1.length≤1048576:=by omega
        have m:=aBp (p:=S1) (b:=24) (g:=fun row=>bG (fun e=>ev e row) it) (F:=fun y3=>aEy y3 x.items.c0)
          (L:=fun acc j=>aF3 (S1,0) x j acc) (E:=fun e=>([],e)) (K:=fun acc=>if x.distinct=true then ((aCw acc)>>=fun (y6:List (List aA))=>xX x y6) else (xX x acc))
          sN (by omega) (fun r hr=>by rw [hi]; exact bUz hil (fun e he r hr=>H e (.inr (.inr (.inr he))) r hr) (sB r hr)) (fun j acc=>by rw [aF3]) [] (by simp)
        rw [m]
        have e:qA (it.map ev) S1=bG (fun row=>bG (fun e=>ev e row) it) S1:=by
          unfold qA
          congr 1
          funext row
          rw [aAx]
        rw [e]
        have ml:=aEx (g:=fun row=>bG (fun e=>ev e row) it) S1
        have mm:∀ y∈(bG (fun row=>bG (fun e=>ev e row) it) S1).1,y.length≤1048576:=by
          intro y hy
          obtain ⟨r,_,rfl,_⟩:=aDf hy
          exact QU (aEx _) hil
        generalize bG (fun row=>bG (fun e=>ev e row) it) S1=M at ml mm ⊢
        obtain ⟨M1,M2⟩:=M
        dsimp only at ml mm ⊢
        by_cases h3:M2=0
        · subst h3
          simp only [ne_eq,not_true_eq_false,if_false,QS]
          exact bR9 M1 (by omega) mm
        · simp [h3]
      · simp [h2]
    · simp [h1]
  · simp [h0]
end Go.Ab
