/- What the functions compute,in plain Lean. -/
import Derived.Test.YthgkmdkjegiaoabGreatFSPlanSame
namespace Go.Ab
open Go
theorem dN {n:Int} (h1 : -9223372036854775808≤n) (h2:n≤9223372036854775807):IntKind.wrap .i64 n=n:=by rw [IntKind.wrap_i64]; omega
theorem gG {i n:Nat} (h:i<n) (hn:n≤4611686018427387904):IntKind.wrap .i64 ((i:Int)+1)=((i+1:Nat):Int):=by rw [dN] <;> omega
theorem fO (i n:Nat):decide ((i:Int)<(n:Int))=decide (i<n):=by simp
theorem bO6 {α:Type} (l:List α) (i:Nat):idx l (i:Int)=l[i]?:=by simp [idx]
theorem eF {α:Type} {l:List α} {i:Nat} (h:i<l.length):idx l (i:Int)=some l[i]:=by rw [bO6]; simp [h]
theorem iI {M:Nat→Prop} {n:Nat} (h0:M n) (h:∀ i,i<n→M (i+1)→M i):∀ i,i≤n→M i:=by
  have:∀ k i,i+k=n→M i:=by
    intro k
    induction k with
    | zero => intro i hi; have : i = n := by omega
              subst this; exact h0
    | succ k ih=>intro i hi; exact h i (by omega) (ih (i+1) (by omega))
  exact fun i hi=>this (n - i) i (by omega)
theorem bGl {α:Type} {by':Nat} {n:Nat} {z:α} (h:(n:Int) * by'≤140737488355328):mkG by' (n:Int) z=some (List.replicate n z):=by
  unfold mkG; rw [if_pos ⟨by omega,h⟩]; simp
def zL {α:Type} (z:α→Nat) (l:List α):Nat:=l.length+(l.map z).sum
def z0 {α:Type} (_:α):Nat:=0
theorem aEf {α:Type} (z:α→Nat) (x:α) (l:List α):((x::l).map z).sum=z x+(l.map z).sum:=by simp
theorem aP0 {α:Type} {z:α→Nat}:∀ {p:List α} {y:α},y ∈ p→z y≤(p.map z).sum
  | x::p,y,h=>by
    rw [aEf]
    rcases List.mem_cons.1 h with rfl | h
    · omega
    · have:=aP0 (z:=z) h; omega
def aR6:bH→Nat
  | ⟨a0,a1,a2⟩=>a2.length
mutual
def uM:bO→Nat
  | ⟨a0,a1⟩=>aX a0
def dU:aL→Nat
  | ⟨a0,a1,a2,a3,a4,a5,a6,a7⟩=>(zL z0) a0+(a1.length+aAo a1)+(a2.length+wV a2)+(a3.length+aB5 a3)+(a4.length+wV a4)+(zL List.length) a5
def aX:aA→Nat
  | ⟨a0,a1,a2,a3,a4,a5,a6,a7⟩=>aR6 a3+(a6.length+wV a6)+(a7.length+aEw a7)
def aEw:List aL→Nat
  | []=>0
  | x::l=>dU x+aEw l
def wV:List aA→Nat
  | []=>0
  | x::l=>aX x+wV l
def aB5:List bO→Nat
  | []=>0
  | x::l=>uM x+aB5 l
def aAo:List (List aA)→Nat
  | []=>0
  | x::l=>(x.length+wV x)+aAo l
end
theorem aOk:∀ l:List aL,aEw l=(l.map dU).sum
  | []=>by simp [aEw]
  | x::l=>by rw [aEf,← aOk l]; simp only [aEw]
theorem Z9:∀ l:List aA,wV l=(l.map aX).sum
  | []=>by simp [wV]
  | x::l=>by rw [aEf,← Z9 l]; simp only [wV]
theorem aKf:∀ l:List bO,aB5 l=(l.map uM).sum
  | []=>by simp [aB5]
  | x::l=>by rw [aEf,← aKf l]; simp only [aB5]
theorem aM9:∀ l:List (List aA),aAo l=(l.map (zL aX)).sum
  | []=>by simp [aAo]
  | x::l=>by rw [aEf,← aM9 l]; simp only [aAo,zL,Z9]
def lH:bC→Nat
  | ⟨_,a1,_,a3,a4,a5,a6⟩=>dU a1+zL (zL aX) a3+zL z0 a4+zL aX a5+zL aX a6
theorem jD {α:Type} {z:α→Nat} {l:List α} {x:α} (h:x ∈ l):z x+l.length≤zL z l:=by
  have:=aP0 (z:=z) h
  unfold zL; omega
theorem aGi (x:aA):aX x=x.value.text.length+zL aX x.kids+zL dU x.sub:=by
  obtain ⟨a0,a1,a2,⟨b0,b1,b2⟩,a4,a5,a6,a7⟩:=x
  simp only [aX,aR6,Z9,aOk,zL]
theorem mI (q:aL):dU q=zL z0 q.tables+zL (zL aX) q.on_+zL aX q.where_+(q.order.length+(q.order.map fun k=>aX k.expr).sum)+zL aX q.items+zL List.length q.names:=by
  obtain ⟨a0,a1,a2,a3,a4,a5,a6,a7⟩:=q
  simp only [dU,Z9,aKf,aM9,zL]
  have:(a3.map uM)=a3.map fun k=>aX k.expr:=List.map_congr_left fun k _=>by obtain ⟨k0,k1⟩:=k; simp only [uM]
  rw [this]
theorem gM {α:Type} {z:α→Nat} (l:List α):l.length≤zL z l:=by unfold zL; omega
theorem P8 {x k:aA} (h:k ∈ x.kids):aX k+x.kids.length≤aX x:=by have:=aGi x; have:=jD (z:=aX) h; omega
theorem X9 {x:aA} {p:aL} (h:p ∈ x.sub):dU p+x.sub.length≤aX x:=by have:=aGi x; have:=jD (z:=dU) h; omega
theorem aKh (x:aA):x.kids.length+x.sub.length≤aX x:=by have:=aGi x; have:=gM (z:=aX) x.kids; have:=gM (z:=dU) x.sub; omega
theorem onZ {q:aL} {l:List aA} {e:aA} (h:l ∈ q.on_) (he:e ∈ l):aX e+l.length+q.on_.length≤dU q:=by have:=mI q; have:=jD (z:=zL aX) h; have:=jD (z:=aX) he; omega
theorem aNb {q:aL} {e:aA} (h:e ∈ q.where_):aX e+q.where_.length≤dU q:=by have:=mI q; have:=jD (z:=aX) h; omega
theorem aKd {q:aL} {e:aA} (h:e ∈ q.items):aX e+q.items.length≤dU q:=by have:=mI q; have:=jD (z:=aX) h; omega
theorem aK3 {q:aL} {k:bO} (h:k ∈ q.order):aX k.expr+q.order.length≤dU q:=by have:=mI q; have:=aP0 (z:=fun k:bO=>aX k.expr) h; omega
theorem aJl (q:aL):q.tables.length+q.on_.length+q.where_.length+q.order.length+q.items.length+q.names.length≤dU q:=by
  have:=mI q; have:=gM (z:=z0) q.tables; have:=gM (z:=zL aX) q.on_; have:=gM (z:=aX) q.where_; have:=gM (z:=aX) q.items; have:=gM (z:=List.length) q.names; omega
theorem oH {α:Type} {b:Nat} {l m:List α} (h:(l.length+m.length) * b≤140737488355328):appG b l m=some (l++m):=by unfold appG; rw [if_pos h]
theorem gather {α β γ : Type} {p : List α} {f : α → List β} {G : α → List β → Option (List β)} {L : List β → Int → Option γ} {K : List β → Option γ} {c : Nat} (hp : p.length ≤ 4194304)
    (hG:∀ y ∈ p,∀ acc:List β,acc.length+(f y).length≤c→G y acc=some (acc++f y))
    (hL:∀ (i:Nat) acc,L acc (i:Int)=if (decide ((i:Int)<(p.length:Int)))=true then ((idx p (i:Int))>>=fun y=>(G y acc)>>=fun z=>L z (IntKind.wrap .i64 ((i:Int)+1))) else K acc) :
    ∀ acc:List β,acc.length+(p.flatMap f).length≤c→L acc 0=K (acc++p.flatMap f):=by
  have key:∀ i,i≤p.length→∀ acc:List β,acc.length+((p.drop i).flatMap f).length≤c→L acc (i:Nat)=K (acc++(p.drop i).flatMap f):=by
    refine iI ?_ ?_
    · intro acc _
      rw [hL]; simp
    · intro i hi ih acc ha
      rw [List.drop_eq_getElem_cons hi,List.flatMap_cons,List.length_append] at ha
      rw [hL,eF hi,gG hi (by omega)]
      simp only [fO,hi,decide_true,if_true,Option.bind_eq_bind,Option.bind_some,hG _ (List.getElem_mem hi) acc (by omega)]
      rw [ih _ (by rw [List.length_append]; omega),List.drop_eq_getElem_cons hi,List.flatMap_cons,List.append_assoc]
  intro acc ha
  simpa using key 0 (by omega) acc (by simpa using ha)
theorem folded {α β γ : Type} {p : List α} {g : α → β → Option β} {h : α → β → β} {L : β → Int → Option γ} {K : β → Option γ} (hp : p.length ≤ 1048576)
    (hg:∀ y ∈ p,∀ b,g y b=some (h y b))
    (hL:∀ (i:Nat) b,L b (i:Int)=if (decide ((i:Int)<(p.length:Int)))=true then ((idx p (i:Int))>>=fun y=>(g y b)>>=fun z=>L z (IntKind.wrap .i64 ((i:Int)+1))) else K b) :
    ∀ b,L b 0=K (p.foldl (fun b y=>h y b) b):=by
  have key:∀ i,i≤p.length→∀ b,L b (i:Nat)=K ((p.drop i).foldl (fun b y=>h y b) b):=by
    refine iI ?_ ?_
    · intro b; rw [hL]; simp
    · intro i hi ih b
      rw [hL,eF hi,gG hi (by omega)]
      simp only [fO,hi,decide_true,if_true,Option.bind_eq_bind,Option.bind_some,hg _ (List.getElem_mem hi)]
      rw [ih,List.drop_eq_getElem_cons hi,List.foldl_cons]
  intro b
  simpa using key 0 (by omega) b
theorem aKv (s:List UInt8):∃ b,lY s=some b∧oU s=some b:=by
  unfold oU lY fI
  exact ⟨_,rfl,rfl⟩
theorem bWr (s:List UInt8):∃ b,xW s=some b:=by
  obtain ⟨b,h1,h2⟩:=aKv s
  unfold xW
  by_cases h:s=[]
  · exact ⟨true,by simp [h]⟩
  · exact ⟨b,by simp [h,h1]⟩
theorem bA3 (x:bH):aEc x=G6 x∧∃ b,G6 x=some b:=by
  unfold aEc G6 fI
  simp only [Option.bind_eq_bind,Option.bind_some]
  by_cases h0:x.kind=0
  · simp [h0]
  by_cases h1:x.kind=1
  · simp [h1]
  by_cases h2:x.kind=2
  · simp [h2]
  by_cases h3:x.kind=3
  · by_cases n0:x.num=0
    · simp [h3,n0]
    by_cases n1:x.num=1
    · simp [h3,n1]
    have e:(if decide (0≤x.num)=true then decide (x.num≤1) else false)=false:=by
      by_cases p:0≤x.num
      · simp [p]; omega
      · simp [p]
    rw [e]
    simp [h3,n0,n1]
  · simp [h0,h1,h2,h3]
theorem bIr (x:bH):∃ b,zP x=some b∧aBg x=some b:=by
  obtain ⟨h1,b,h2⟩:=bA3 x
  unfold zP aBg
  rw [h1,h2]
  cases b <;> simp
theorem orB (b c:Bool):(if b=true then true else c)=(b||c):=by cases b <;> rfl
theorem aU8 (b c:Bool):(if b=true then c else false)=(b&&c):=by cases b <;> rfl
def zvE (x:eO):Bool:=((decide (x.value.kind=0))&&((decide (x.value.num=0))&&((decide (x.value.text=[]))&&true)))
theorem cM4 (x : eO) : X8 x = (if ((!decide (x.kind = 2) && (!decide (x.qual = []) || !decide (x.name = []))) || (!decide (x.kind = 1) && !zvE x)) = true then some false else
    if ((!decide (x.kind=3)&&!decide (x.kind=4))&&!decide (x.op=0)||(x.not_&&!(decide (5≤x.kind)&&decide (x.kind≤8))))=true then some false else
    (if (decide (x.kind=1))=true then ((zP x.value)>>=fun (y10:Bool)=>some (y10&&decide ((IntKind.wrap .i64 ((x.kids.length:Int)+(x.sub.length:Int)))=0)))
     else if (decide (x.kind=2))=true then ((lY x.name)>>=fun (y12:Bool)=>(if y12=true then xW x.qual else some false)>>=fun (y14:Bool)=>some (y14&&decide ((IntKind.wrap .i64 ((x.kids.length:Int)+(x.sub.length:Int)))=0)))
     else some (if x.kind=3 then (decide (x.op=15)||decide (x.op=16))&&decide ((x.kids.length:Int)=1)&&decide ((x.sub.length:Int)=0)
      else if x.kind=4 then (decide (1≤x.op)&&decide (x.op≤14))&&decide ((x.kids.length:Int)=2)&&decide ((x.sub.length:Int)=0)
      else if x.kind=5 then decide ((x.kids.length:Int)=1)&&decide ((x.sub.length:Int)=0)
      else if x.kind=6 then decide ((x.kids.length:Int)=3)&&decide ((x.sub.length:Int)=0)
      else if x.kind=7 then (decide (2≤(x.kids.length:Int))&&decide ((x.kids.length:Int)≤9))&&decide ((x.sub.length:Int)=0)
      else if x.kind=8 then decide ((x.kids.length:Int)=1)&&decide ((x.sub.length:Int)=1)
      else if x.kind=9 then decide ((x.kids.length:Int)=0)&&decide ((x.sub.length:Int)=1)
      else false))):=by
  unfold X8 fI
  simp only [Option.bind_eq_bind]
  simp only [Option.bind_some]
  simp only [aU8,orB]
  obtain ⟨k,o,no,v,q,nm,ks,sb⟩:=x
  obtain ⟨bl,l1,l2⟩:=bIr v
  obtain ⟨bn,n1,n2⟩:=aKv nm
  obtain ⟨bq,q1⟩:=bWr q
  have hz:zvE ⟨k,o,no,v,q,nm,ks,sb⟩=((decide (v.kind=0))&&((decide (v.num=0))&&((decide (v.text=[]))&&true))):=rfl
  simp only [l1,n1,q1,hz,Option.bind_some]
  generalize ((decide (v.kind=0))&&((decide (v.num=0))&&((decide (v.text=[]))&&true)))=zv
  generalize decide (q=[])=q0
  generalize decide (nm=[])=n0
  by_cases k1:k=1
  · subst k1; cases q0 <;> cases n0 <;> cases no <;> by_cases o0:o=0 <;> cases bl <;> simp [o0]
  by_cases k2:k=2
  · subst k2; cases zv <;> cases no <;> by_cases o0:o=0 <;> cases bn <;> simp [o0]
  by_cases k3:k=3
  · subst k3; cases q0 <;> cases n0 <;> cases zv <;> cases no <;> simp
  by_cases k4:k=4
  · subst k4; cases q0 <;> cases n0 <;> cases zv <;> cases no <;> simp
  have kk:¬ (k=3∨k=4):=by omega
  by_cases k5:k=5
  · subst k5; cases q0 <;> cases n0 <;> cases zv <;> cases no <;> by_cases o0:o=0 <;> simp [o0]
  by_cases k6:k=6
  · subst k6; cases q0 <;> cases n0 <;> cases zv <;> cases no <;> by_cases o0:o=0 <;> simp [o0]
  by_cases k7:k=7
  · subst k7; cases q0 <;> cases n0 <;> cases zv <;> cases no <;> by_cases o0:o=0 <;> simp [o0]
  by_cases k8:k=8
  · subst k8; cases q0 <;> cases n0 <;> cases zv <;> cases no <;> by_cases o0:o=0 <;> simp [o0]
  by_cases k9:k=9
  · subst k9; cases q0 <;> cases n0 <;> cases zv <;> cases no <;> by_cases o0:o=0 <;> simp [o0]
  have kr:(decide (5≤k)&&decide (k≤8))=false:=by
    by_cases h:5≤k
    · have:¬ k≤8:=by omega
      simp [this]
    · simp [h]
  cases q0 <;> cases n0 <;> cases zv <;> cases no <;> by_cases o0:o=0 <;> simp [o0,k1,k2,k3,k4,k5,k6,k7,k8,k9]
theorem bJ9 (x : eO) (bl bc : Bool) (h1 : aBg x.value = some bl) (h2 : (lY x.name >>= fun (y12 : Bool) => (if y12 = true then xW x.qual else some false)) = some bc) : O6 x = some (
    if x.kind=1 then (⟨false,false,true,false,0,0,0⟩,bl)
    else if x.kind=2 then (⟨false,false,false,true,0,0,0⟩,bc)
    else if x.kind=3 then (⟨true,false,false,false,1,1,0⟩,decide (x.op=15)||decide (x.op=16))
    else if x.kind=4 then (⟨true,false,false,false,2,2,0⟩,decide (1≤x.op)&&decide (x.op≤14))
    else if x.kind=5 then (⟨false,true,false,false,1,1,0⟩,true)
    else if x.kind=6 then (⟨false,true,false,false,3,3,0⟩,true)
    else if x.kind=7 then (⟨false,true,false,false,2,9,0⟩,true)
    else if x.kind=8 then (⟨false,true,false,false,1,1,1⟩,true)
    else if x.kind=9 then (⟨false,false,false,false,0,0,1⟩,true)
    else (⟨false,false,false,false,0,0,0⟩,false)):=by
  obtain ⟨k,o,no,v,q,nm,ks,sb⟩:=x
  obtain ⟨bn,n1,n2⟩:=aKv nm
  obtain ⟨bo,o1,o2⟩:=aKv q
  unfold O6
  dsimp only at h1 h2 ⊢
  have h3:((if ((true&&(bn==true))&&((decide (q=[]))==false))=true then oU q else some default).bind fun (y3:Bool)=>(if (true&&(bn==true))=true then some (if (decide (q=[]))=true then true else y3) else some default).bind fun (y4:Bool)=>(some (if bn=true then y4 else false)).bind fun y5=>some ((jO.mk false false false true 0 0 0),y5))=some ((jO.mk false false false true 0 0 0),bc):=by
    unfold xW at h2
    rw [n1,o1] at h2
    rw [o2]
    cases bn
    · simp at h2; simp [h2]
    · by_cases q0:q=[]
      · simp [q0] at h2; simp [q0,h2]
      · simp [q0] at h2; simp [q0,h2]
  simp only [h1,n2,Option.bind_eq_bind,Option.bind_some]
  by_cases k1:k=1
  · simp [k1]
  by_cases k2:k=2
  · subst k2; simp only [Option.bind_some] at h3; simpa using h3
  by_cases k3:k=3
  · simp [k3]
  by_cases k4:k=4
  · simp [k4]
  by_cases k5:k=5
  · simp [k5]
  by_cases k6:k=6
  · simp [k6]
  by_cases k7:k=7
  · simp [k7]
  by_cases k8:k=8
  · simp [k8]
  by_cases k9:k=9
  · simp [k9]
  simp [k1,k2,k3,k4,k5,k6,k7,k8,k9]
theorem aVn:Y5=vV:=by
  funext p q
  unfold Y5 vV aEs yC fI
  rfl
def okT (p:Int):Prop:=0≤p∧p≤3
theorem aMh {p:Int} (h:okT p):yC p=some true:=by
  unfold yC fI
  have h1:=h.1
  have h2:=h.2
  simp [h1,h2]
theorem aTl {p q:Int} (hp:okT p) (hq:okT q):∃ r,vV p q=some r∧okT r.1:=by
  unfold vV
  rw [aMh hp,aMh hq]
  simp only [Bool.not_true,beq_self_eq_true,Bool.and_self,if_true,Bool.false_eq_true,if_false,Option.bind_eq_bind,Option.bind_some]
  have h0:okT 0:=⟨by omega,by omega⟩
  by_cases p0:p=0
  · exact ⟨(q,true),by simp [p0],hq⟩
  · by_cases q0:q=0∨p=q
    · refine ⟨(p,true),?_,hp⟩
      rcases q0 with h | h <;> simp [p0,h]
    · have a1:¬ q=0:=fun h=>q0 (.inl h)
      have a2:¬ p=q:=fun h=>q0 (.inr h)
      exact ⟨(0,false),by simp [p0,a1,a2],h0⟩
theorem aUv:U4=F5:=rfl
theorem aL5 (p:Int):∃ b,F5 p=some b:=⟨_,rfl⟩
theorem aXx (p q:Int):X5 p q=some (decide (p=0)||decide (p=q)):=by
  unfold X5
  by_cases h:p=0 <;> simp [h]
theorem bIu (a p q:Int):P6 a p q=some ((decide (p=0)||decide (p=a))&&(decide (q=0)||decide (q=a))):=by
  unfold P6
  by_cases h1:p=a <;> by_cases h2:p=0 <;> by_cases h3:q=a <;> by_cases h4:q=0 <;> simp [h1,h2,h3,h4]
theorem bMt (o p q:Int) (hp:okT p) (hq:okT q):∃ r,aDc o p q=some r∧aF4 o p q=some r∧okT r.1:=by
  have h0:okT 0:=⟨by omega,by omega⟩
  have h3:okT 3:=⟨by omega,by omega⟩
  have h2:okT 2:=⟨by omega,by omega⟩
  have h1:okT 1:=⟨by omega,by omega⟩
  obtain ⟨m,m1,m2⟩:=aTl hp hq
  obtain ⟨t1,e1⟩:=aL5 p
  obtain ⟨t2,e2⟩:=aL5 q
  unfold aDc aF4 C9 aFa oQ fI
  simp only [aVn,aUv,m1,e1,e2,aMh hp,aMh hq,aXx,bIu,Option.bind_eq_bind,Option.bind_some]
  by_cases a:1≤o
  · by_cases b:o≤14
    · have c1:¬ o<1:=by omega
      have c2:¬ 14<o:=by omega
      by_cases d:o≤2
      · cases t1 <;> cases t2
        · exact ⟨(0,false),by simp [c1,c2,d],by simp [a,b,d],h0⟩
        · exact ⟨(0,false),by simp [c1,c2,d],by simp [a,b,d],h0⟩
        · exact ⟨(0,false),by simp [c1,c2,d],by simp [a,b,d],h0⟩
        · exact ⟨(3,true),by simp [c1,c2,d],by simp [a,b,d],h3⟩
      by_cases d2:o≤8
      · cases hm:m.2
        · exact ⟨(0,false),by simp [c1,c2,d,d2,hm],by simp [a,b,d,d2,hm],h0⟩
        · exact ⟨(3,true),by simp [c1,c2,d,d2,hm],by simp [a,b,d,d2,hm],h3⟩
      by_cases d3:o=9
      · subst d3
        generalize (decide (p=0)||decide (p=2))=b1
        generalize (decide (q=0)||decide (q=2))=b2
        cases b1 <;> cases b2
        · exact ⟨(0,false),by simp,by simp,h0⟩
        · exact ⟨(0,false),by simp,by simp,h0⟩
        · exact ⟨(0,false),by simp,by simp,h0⟩
        · exact ⟨(2,true),by simp,by simp,h2⟩
      · generalize (decide (p=0)||decide (p=1))=b1
        generalize (decide (q=0)||decide (q=1))=b2
        cases b1 <;> cases b2
        · exact ⟨(0,false),by simp [c1,c2,d,d2,d3],by simp [a,b,d,d2,d3],h0⟩
        · exact ⟨(0,false),by simp [c1,c2,d,d2,d3],by simp [a,b,d,d2,d3],h0⟩
        · exact ⟨(0,false),by simp [c1,c2,d,d2,d3],by simp [a,b,d,d2,d3],h0⟩
        · exact ⟨(1,true),by simp [c1,c2,d,d2,d3],by simp [a,b,d,d2,d3],h1⟩
    · have c2:14<o:=by omega
      exact ⟨(0,false),by simp [c2],by simp [b],h0⟩
  · have c1:o<1:=by omega
    exact ⟨(0,false),by simp [c1],by simp [a],h0⟩
theorem bNb (o p:Int):∃ r,aDp o p=some r∧aEh o p=some r∧okT r.1:=by
  have h0:okT 0:=⟨by omega,by omega⟩
  have h3:okT 3:=⟨by omega,by omega⟩
  have h1:okT 1:=⟨by omega,by omega⟩
  obtain ⟨t1,e1⟩:=aL5 p
  unfold aDp aEh oQ
  simp only [aUv,e1,aXx,bIu,Option.bind_eq_bind,Option.bind_some]
  by_cases a:o=15
  · subst a
    cases t1
    · exact ⟨(0,false),by simp,by simp,h0⟩
    · exact ⟨(3,true),by simp,by simp,h3⟩
  by_cases b:o=16
  · subst b
    generalize (decide (p=0)||decide (p=1))=b1
    cases b1
    · exact ⟨(0,false),by simp,by simp,h0⟩
    · exact ⟨(1,true),by simp,by simp,h1⟩
  · exact ⟨(0,false),by simp [a,b],by simp [a,b],h0⟩
theorem cDx (l:List Int) (hl:l.length≤1048576) (h:∀ p ∈ l,okT p):∃ r,aFg l=some r∧F6 l=some r.2:=by
  have key:∀ i,i≤l.length→∀ x,okT x→∃ r,J8 l x (i:Nat)=some r∧xY l x (i:Nat)=some r.2:=by
    refine iI ?_ ?_
    · intro x hx
      rw [J8,xY]
      exact ⟨(x,true),by simp,by simp⟩
    · intro i hi ih x hx
      rw [J8,xY]
      obtain ⟨m,m1,m2⟩:=aTl hx (h _ (List.getElem_mem hi))
      simp only [fO,hi,decide_true,if_true,eF hi,gG hi (by omega),aVn,m1,Option.bind_eq_bind,Option.bind_some]
      cases hm:m.2
      · exact ⟨(0,false),by simp,by simp⟩
      · simpa using ih m.1 m2
  unfold aFg F6
  exact key 0 (by omega) 0 ⟨by omega,by omega⟩
theorem cI8 {v:bH} (h:zP v=some true):okT v.kind:=by
  unfold zP at h
  have hv:G6 v=some true:=by
    obtain ⟨_,b,e2⟩:=bA3 v
    rw [e2] at h ⊢
    cases b with
    | true=>rfl
    | false=>simp at h
  unfold G6 at hv
  unfold okT
  by_cases k0:v.kind=0
  · omega
  by_cases k1:v.kind=1
  · omega
  by_cases k2:v.kind=2
  · omega
  by_cases k3:v.kind=3
  · omega
  simp [k0,k1,k2,k3] at hv
def bFv (p:aA):Prop:=(p.kind=1∧p.kids.length=0∧p.sub.length=0∧okT p.value.kind)∨(p.kind=2∧p.kids.length=0∧p.sub.length=0)∨(p.kind=3∧p.kids.length=1∧p.sub.length=0)∨(p.kind=4∧p.kids.length=2∧p.sub.length=0) ∨
  (p.kind=5∧p.kids.length=1∧p.sub.length=0)∨(p.kind=6∧p.kids.length=3∧p.sub.length=0)∨(p.kind=7∧(2≤p.kids.length∧p.kids.length≤9)∧p.sub.length=0)∨(p.kind=8∧p.kids.length=1∧p.sub.length=1)∨(p.kind=9∧p.kids.length=0∧p.sub.length=1)
theorem bDq {β:Type} {b:Bool} {m:Option Bool} {K:Bool→Option β}:((if (true&&(b==true))=true then m else some (default:Bool)).bind fun y=>(some (if b=true then y else false)).bind K)=((if b=true then m else some false).bind K):=by cases b <;> cases m <;> rfl
theorem aY1 (b c:Bool):(if b=true then some c else some false)=some (b&&c):=by cases b <;> rfl
theorem cEv {β:Type} {b n u:Bool} {K:Bool→Option β}:((if ((true&&(b==true))&&(n==false))=true then some u else some (default:Bool)).bind fun y8=>(if (true&&(b==true))=true then some (if n=true then true else y8) else some (default:Bool)).bind fun y9=>(some (if b=true then y9 else false)).bind K)=K (b&&(n||u)):=by cases b <;> cases n <;> rfl
theorem or3 {β:Type} {b n u:Bool} {K:Bool→Option β}:((if ((true&&(b==true))&&(n==false))=true then some u else some (default:Bool)).bind fun y8=>K (b&&(n||y8)))=K (b&&(n||u)):=by cases b <;> cases n <;> rfl
theorem cDo (p:aA) (f:jO) (ok:Bool) (h:O6 (eO.mk p.kind p.op false p.value [] [120] [] [])=some (f,ok)):aBn p=some (ok&&(f.op||decide (p.op=0))&&(f.not_||!p.not_)&&(f.value||((decide (p.value.kind=0))&&((decide (p.value.num=0))&&((decide (p.value.text=[]))&&true))))&&(f.name||(decide (p.up=0)&&decide (p.at_=0)))&&decide (f.least≤(p.kids.length:Int))&&decide ((p.kids.length:Int)≤f.most)&&decide ((p.sub.length:Int)=f.subs)):=by
  rw [aBn,h]
  simp only [Option.bind_eq_bind]
  rw [show ∀ K:jO×Bool→Option Bool,(some (f,ok)).bind K=K (f,ok) from fun _=>rfl]
  simp only [bDq,cEv]
  simp only [aY1,Option.bind_some,aU8,orB]
  exact or3 (K:=fun z=>some (z&&decide (f.least≤(p.kids.length:Int))&&decide ((p.kids.length:Int)≤f.most)&&decide ((p.sub.length:Int)=f.subs)))
theorem bLs (p:aA) (hk:p.kids.length≤1048576) (hs:p.sub.length≤1048576):∃ b,aBt p=some b∧aBn p=some b∧(b=true→bFv p):=by
  obtain ⟨bl,l1,l2⟩:=bIr p.value
  have hlk:bl=true→okT p.value.kind:=fun h=>cI8 (by rw [l1,h])
  have e1:mkG 136 (p.kids.length:Int) (eO.mk 0 0 false (bH.mk 0 0 []) [] [] [] [])=some (List.replicate p.kids.length (eO.mk 0 0 false (bH.mk 0 0 []) [] [] [] [])):=bGl (by omega)
  have e2:mkG 112 (p.sub.length:Int) (iJ.mk false [] [] [] [] 0)=some (List.replicate p.sub.length (iJ.mk false [] [] [] [] 0)):=bGl (by omega)
  have hw:IntKind.wrap .i64 ((p.kids.length:Int)+(p.sub.length:Int))=(p.kids.length:Int)+(p.sub.length:Int):=dN (by omega) (by omega)
  have hF:=bJ9 (eO.mk p.kind p.op false p.value [] [120] [] []) bl true l2 rfl
  obtain ⟨⟨f,ok⟩,hfo⟩:∃ r,O6 (eO.mk p.kind p.op false p.value [] [120] [] [])=some r:=⟨_,hF⟩
  rw [cDo p f ok hfo]
  rw [hfo] at hF
  have n97:lY [97]=some true:=rfl
  have m0:xW []=some true:=rfl
  have hS:aBt p=if (!decide (p.kind=2)&&(!decide (p.up=0)||!decide (p.at_=0)))=true then some false else (if decide (p.kind=2)=true then X8 (eO.mk p.kind p.op p.not_ p.value [] [97] (List.replicate p.kids.length (eO.mk 0 0 false (bH.mk 0 0 []) [] [] [] [])) (List.replicate p.sub.length (iJ.mk false [] [] [] [] 0))) else X8 (eO.mk p.kind p.op p.not_ p.value [] [] (List.replicate p.kids.length (eO.mk 0 0 false (bH.mk 0 0 []) [] [] [] [])) (List.replicate p.sub.length (iJ.mk false [] [] [] [] 0)))):=by
    unfold aBt aCs
    simp only [Option.bind_eq_bind]
    simp only [bDq]
    simp only [e1,e2,aY1,Option.bind_some,Option.bind_fun_some,aU8,orB]
  rw [hS]
  unfold bFv
  simp only [cM4,zvE,List.length_replicate,hw,l1,n97,m0]
  obtain ⟨k,o,no,v,up,at_,ks,sb⟩:=p
  dsimp only at hk hs hF hlk ⊢
  generalize ((decide (v.kind=0))&&((decide (v.num=0))&&((decide (v.text=[]))&&true)))=zv
  have fin:∀ (a b:Bool) (P:Prop),a=b→(b=true→P)→∃ c,(some a:Option Bool)=some c∧(some b:Option Bool)=some c∧(c=true→P):=by
    rintro a b P rfl h; exact ⟨a,rfl,rfl,h⟩
  have hif:∀ (a b:Bool) (X:Bool),(if a=true then some false else if b=true then some false else some X)=some (!a&&(!b&&X)):=by intro a b X; cases a <;> cases b <;> rfl
  have hif1:∀ (a:Bool) (X:Bool),(if a=true then some false else some X)=some (!a&&X):=by intro a X; cases a <;> rfl
  clear hS hfo e1 e2 hw l1 l2 n97 m0
  have eN:∀ n:Int,(decide (n≤(ks.length:Int))&&decide ((ks.length:Int)≤n))=decide ((ks.length:Int)=n):=fun n=>by rw [Bool.eq_iff_iff]; simp only [Bool.and_eq_true,decide_eq_true_eq]; omega
  have e0:decide ((ks.length:Int)+(sb.length:Int)=0)=(decide ((ks.length:Int)=0)&&decide ((sb.length:Int)=0)):=by rw [Bool.eq_iff_iff]; simp only [Bool.and_eq_true,decide_eq_true_eq]; omega
  by_cases k1:k=1
  · subst k1
    simp only [Int.reduceEq,if_true,if_false,Option.some.injEq,Prod.mk.injEq] at hF
    obtain ⟨rfl,rfl⟩:=hF
    simp only [Int.reduceEq,Int.reduceLE,if_true,if_false,decide_true,decide_false,Bool.not_true,Bool.not_false,Bool.true_and,Bool.false_and,Bool.and_true,Bool.and_false,Bool.false_or,Bool.or_false,Bool.true_or,Bool.or_true,Bool.false_eq_true,Option.bind_eq_bind,Option.bind_some,hif,hif1]
    refine fin _ _ _ ?_ fun h=>?_
    · simp only [e0,Bool.and_assoc]
      try simp only [← Bool.and_assoc (decide (_≤(ks.length:Int))),eN]
      generalize decide ((ks.length:Int)=0)=c0
      generalize decide ((ks.length:Int)=1)=c1
      generalize decide ((ks.length:Int)=2)=c2
      generalize decide ((ks.length:Int)=3)=c3
      generalize decide (2≤(ks.length:Int))=c4
      generalize decide ((ks.length:Int)≤9)=c5
      generalize decide ((sb.length:Int)=0)=d0
      generalize decide ((sb.length:Int)=1)=d1
      generalize decide (up=0)=u0
      generalize decide (at_=0)=a0
      generalize decide (o=0)=o0
      generalize decide (o=15)=o5
      generalize decide (o=16)=o6
      generalize decide (1≤o)=o7
      generalize decide (o≤14)=o8
      cases ok <;> cases no <;> cases u0 <;> cases a0 <;> cases o0 <;> cases c0 <;> cases d0 <;> rfl
    · simp only [Bool.and_eq_true,decide_eq_true_eq] at h
      exact .inl ⟨trivial,by omega,by omega,hlk h.1.1.1.1.1.1⟩
  by_cases k2:k=2
  · subst k2
    simp only [Int.reduceEq,if_true,if_false,Option.some.injEq,Prod.mk.injEq] at hF
    obtain ⟨rfl,rfl⟩:=hF
    simp only [Int.reduceEq,Int.reduceLE,if_true,if_false,decide_true,decide_false,Bool.not_true,Bool.not_false,Bool.true_and,Bool.false_and,Bool.and_true,Bool.and_false,Bool.false_or,Bool.or_false,Bool.true_or,Bool.or_true,Bool.false_eq_true,Option.bind_eq_bind,Option.bind_some,hif,hif1]
    refine fin _ _ _ ?_ fun h=>?_
    · simp only [e0,Bool.and_assoc]
      try simp only [← Bool.and_assoc (decide (_≤(ks.length:Int))),eN]
      generalize decide ((ks.length:Int)=0)=c0
      generalize decide ((ks.length:Int)=1)=c1
      generalize decide ((ks.length:Int)=2)=c2
      generalize decide ((ks.length:Int)=3)=c3
      generalize decide (2≤(ks.length:Int))=c4
      generalize decide ((ks.length:Int)≤9)=c5
      generalize decide ((sb.length:Int)=0)=d0
      generalize decide ((sb.length:Int)=1)=d1
      generalize decide (up=0)=u0
      generalize decide (at_=0)=a0
      generalize decide (o=0)=o0
      generalize decide (o=15)=o5
      generalize decide (o=16)=o6
      generalize decide (1≤o)=o7
      generalize decide (o≤14)=o8
      cases no <;> cases zv <;> cases o0 <;> cases c0 <;> cases d0 <;> rfl
    · simp only [Bool.and_eq_true,decide_eq_true_eq] at h
      simp only [Int.reduceEq,false_and,false_or,true_and,or_false]
      omega
  by_cases k3:k=3
  · subst k3
    simp only [Int.reduceEq,if_true,if_false,Option.some.injEq,Prod.mk.injEq] at hF
    obtain ⟨rfl,rfl⟩:=hF
    simp only [Int.reduceEq,Int.reduceLE,if_true,if_false,decide_true,decide_false,Bool.not_true,Bool.not_false,Bool.true_and,Bool.false_and,Bool.and_true,Bool.and_false,Bool.false_or,Bool.or_false,Bool.true_or,Bool.or_true,Bool.false_eq_true,Option.bind_eq_bind,Option.bind_some,hif,hif1]
    refine fin _ _ _ ?_ fun h=>?_
    · simp only [e0,Bool.and_assoc]
      try simp only [← Bool.and_assoc (decide (_≤(ks.length:Int))),eN]
      generalize decide ((ks.length:Int)=0)=c0
      generalize decide ((ks.length:Int)=1)=c1
      generalize decide ((ks.length:Int)=2)=c2
      generalize decide ((ks.length:Int)=3)=c3
      generalize decide (2≤(ks.length:Int))=c4
      generalize decide ((ks.length:Int)≤9)=c5
      generalize decide ((sb.length:Int)=0)=d0
      generalize decide ((sb.length:Int)=1)=d1
      generalize decide (up=0)=u0
      generalize decide (at_=0)=a0
      generalize decide (o=0)=o0
      generalize decide (o=15)=o5
      generalize decide (o=16)=o6
      generalize decide (1≤o)=o7
      generalize decide (o≤14)=o8
      cases no <;> cases zv <;> cases u0 <;> cases a0 <;> cases o5 <;> cases o6 <;> cases c1 <;> cases d0 <;> rfl
    · simp only [Bool.and_eq_true,decide_eq_true_eq] at h
      simp only [Int.reduceEq,false_and,false_or,true_and,or_false]
      omega
  by_cases k4:k=4
  · subst k4
    simp only [Int.reduceEq,if_true,if_false,Option.some.injEq,Prod.mk.injEq] at hF
    obtain ⟨rfl,rfl⟩:=hF
    simp only [Int.reduceEq,Int.reduceLE,if_true,if_false,decide_true,decide_false,Bool.not_true,Bool.not_false,Bool.true_and,Bool.false_and,Bool.and_true,Bool.and_false,Bool.false_or,Bool.or_false,Bool.true_or,Bool.or_true,Bool.false_eq_true,Option.bind_eq_bind,Option.bind_some,hif,hif1]
    refine fin _ _ _ ?_ fun h=>?_
    · simp only [e0,Bool.and_assoc]
      try simp only [← Bool.and_assoc (decide (_≤(ks.length:Int))),eN]
      generalize decide ((ks.length:Int)=0)=c0
      generalize decide ((ks.length:Int)=1)=c1
      generalize decide ((ks.length:Int)=2)=c2
      generalize decide ((ks.length:Int)=3)=c3
      generalize decide (2≤(ks.length:Int))=c4
      generalize decide ((ks.length:Int)≤9)=c5
      generalize decide ((sb.length:Int)=0)=d0
      generalize decide ((sb.length:Int)=1)=d1
      generalize decide (up=0)=u0
      generalize decide (at_=0)=a0
      generalize decide (o=0)=o0
      generalize decide (o=15)=o5
      generalize decide (o=16)=o6
      generalize decide (1≤o)=o7
      generalize decide (o≤14)=o8
      cases no <;> cases zv <;> cases u0 <;> cases a0 <;> cases o7 <;> cases o8 <;> cases c2 <;> cases d0 <;> rfl
    · simp only [Bool.and_eq_true,decide_eq_true_eq] at h
      simp only [Int.reduceEq,false_and,false_or,true_and,or_false]
      omega
  by_cases k5:k=5
  · subst k5
    simp only [Int.reduceEq,if_true,if_false,Option.some.injEq,Prod.mk.injEq] at hF
    obtain ⟨rfl,rfl⟩:=hF
    simp only [Int.reduceEq,Int.reduceLE,if_true,if_false,decide_true,decide_false,Bool.not_true,Bool.not_false,Bool.true_and,Bool.false_and,Bool.and_true,Bool.and_false,Bool.false_or,Bool.or_false,Bool.true_or,Bool.or_true,Bool.false_eq_true,Option.bind_eq_bind,Option.bind_some,hif,hif1]
    refine fin _ _ _ ?_ fun h=>?_
    · simp only [e0,Bool.and_assoc]
      try simp only [← Bool.and_assoc (decide (_≤(ks.length:Int))),eN]
      generalize decide ((ks.length:Int)=0)=c0
      generalize decide ((ks.length:Int)=1)=c1
      generalize decide ((ks.length:Int)=2)=c2
      generalize decide ((ks.length:Int)=3)=c3
      generalize decide (2≤(ks.length:Int))=c4
      generalize decide ((ks.length:Int)≤9)=c5
      generalize decide ((sb.length:Int)=0)=d0
      generalize decide ((sb.length:Int)=1)=d1
      generalize decide (up=0)=u0
      generalize decide (at_=0)=a0
      generalize decide (o=0)=o0
      generalize decide (o=15)=o5
      generalize decide (o=16)=o6
      generalize decide (1≤o)=o7
      generalize decide (o≤14)=o8
      cases zv <;> cases u0 <;> cases a0 <;> cases o0 <;> cases c1 <;> cases d0 <;> rfl
    · simp only [Bool.and_eq_true,decide_eq_true_eq] at h
      simp only [Int.reduceEq,false_and,false_or,true_and,or_false]
      omega
  by_cases k6:k=6
  · subst k6
    simp only [Int.reduceEq,if_true,if_false,Option.some.injEq,Prod.mk.injEq] at hF
    obtain ⟨rfl,rfl⟩:=hF
    simp only [Int.reduceEq,Int.reduceLE,if_true,if_false,decide_true,decide_false,Bool.not_true,Bool.not_false,Bool.true_and,Bool.false_and,Bool.and_true,Bool.and_false,Bool.false_or,Bool.or_false,Bool.true_or,Bool.or_true,Bool.false_eq_true,Option.bind_eq_bind,Option.bind_some,hif,hif1]
    refine fin _ _ _ ?_ fun h=>?_
    · simp only [e0,Bool.and_assoc]
      try simp only [← Bool.and_assoc (decide (_≤(ks.length:Int))),eN]
      generalize decide ((ks.length:Int)=0)=c0
      generalize decide ((ks.length:Int)=1)=c1
      generalize decide ((ks.length:Int)=2)=c2
      generalize decide ((ks.length:Int)=3)=c3
      generalize decide (2≤(ks.length:Int))=c4
      generalize decide ((ks.length:Int)≤9)=c5
      generalize decide ((sb.length:Int)=0)=d0
      generalize decide ((sb.length:Int)=1)=d1
      generalize decide (up=0)=u0
      generalize decide (at_=0)=a0
      generalize decide (o=0)=o0
      generalize decide (o=15)=o5
      generalize decide (o=16)=o6
      generalize decide (1≤o)=o7
      generalize decide (o≤14)=o8
      cases zv <;> cases u0 <;> cases a0 <;> cases o0 <;> cases c3 <;> cases d0 <;> rfl
    · simp only [Bool.and_eq_true,decide_eq_true_eq] at h
      simp only [Int.reduceEq,false_and,false_or,true_and,or_false]
      omega
  by_cases k7:k=7
  · subst k7
    simp only [Int.reduceEq,if_true,if_false,Option.some.injEq,Prod.mk.injEq] at hF
    obtain ⟨rfl,rfl⟩:=hF
    simp only [Int.reduceEq,Int.reduceLE,if_true,if_false,decide_true,decide_false,Bool.not_true,Bool.not_false,Bool.true_and,Bool.false_and,Bool.and_true,Bool.and_false,Bool.false_or,Bool.or_false,Bool.true_or,Bool.or_true,Bool.false_eq_true,Option.bind_eq_bind,Option.bind_some,hif,hif1]
    refine fin _ _ _ ?_ fun h=>?_
    · simp only [e0,Bool.and_assoc]
      try simp only [← Bool.and_assoc (decide (_≤(ks.length:Int))),eN]
      generalize decide ((ks.length:Int)=0)=c0
      generalize decide ((ks.length:Int)=1)=c1
      generalize decide ((ks.length:Int)=2)=c2
      generalize decide ((ks.length:Int)=3)=c3
      generalize decide (2≤(ks.length:Int))=c4
      generalize decide ((ks.length:Int)≤9)=c5
      generalize decide ((sb.length:Int)=0)=d0
      generalize decide ((sb.length:Int)=1)=d1
      generalize decide (up=0)=u0
      generalize decide (at_=0)=a0
      generalize decide (o=0)=o0
      generalize decide (o=15)=o5
      generalize decide (o=16)=o6
      generalize decide (1≤o)=o7
      generalize decide (o≤14)=o8
      cases zv <;> cases u0 <;> cases a0 <;> cases o0 <;> cases c4 <;> cases c5 <;> cases d0 <;> rfl
    · simp only [Bool.and_eq_true,decide_eq_true_eq] at h
      simp only [Int.reduceEq,false_and,false_or,true_and,or_false]
      omega
  by_cases k8:k=8
  · subst k8
    simp only [Int.reduceEq,if_true,if_false,Option.some.injEq,Prod.mk.injEq] at hF
    obtain ⟨rfl,rfl⟩:=hF
    simp only [Int.reduceEq,Int.reduceLE,if_true,if_false,decide_true,decide_false,Bool.not_true,Bool.not_false,Bool.true_and,Bool.false_and,Bool.and_true,Bool.and_false,Bool.false_or,Bool.or_false,Bool.true_or,Bool.or_true,Bool.false_eq_true,Option.bind_eq_bind,Option.bind_some,hif,hif1]
    refine fin _ _ _ ?_ fun h=>?_
    · simp only [e0,Bool.and_assoc]
      try simp only [← Bool.and_assoc (decide (_≤(ks.length:Int))),eN]
      generalize decide ((ks.length:Int)=0)=c0
      generalize decide ((ks.length:Int)=1)=c1
      generalize decide ((ks.length:Int)=2)=c2
      generalize decide ((ks.length:Int)=3)=c3
      generalize decide (2≤(ks.length:Int))=c4
      generalize decide ((ks.length:Int)≤9)=c5
      generalize decide ((sb.length:Int)=0)=d0
      generalize decide ((sb.length:Int)=1)=d1
      generalize decide (up=0)=u0
      generalize decide (at_=0)=a0
      generalize decide (o=0)=o0
      generalize decide (o=15)=o5
      generalize decide (o=16)=o6
      generalize decide (1≤o)=o7
      generalize decide (o≤14)=o8
      cases zv <;> cases u0 <;> cases a0 <;> cases o0 <;> cases c1 <;> cases d1 <;> rfl
    · simp only [Bool.and_eq_true,decide_eq_true_eq] at h
      simp only [Int.reduceEq,false_and,false_or,true_and,or_false]
      omega
  by_cases k9:k=9
  · subst k9
    simp only [Int.reduceEq,if_true,if_false,Option.some.injEq,Prod.mk.injEq] at hF
    obtain ⟨rfl,rfl⟩:=hF
    simp only [Int.reduceEq,Int.reduceLE,if_true,if_false,decide_true,decide_false,Bool.not_true,Bool.not_false,Bool.true_and,Bool.false_and,Bool.and_true,Bool.and_false,Bool.false_or,Bool.or_false,Bool.true_or,Bool.or_true,Bool.false_eq_true,Option.bind_eq_bind,Option.bind_some,hif,hif1]
    refine fin _ _ _ ?_ fun h=>?_
    · simp only [e0,Bool.and_assoc]
      try simp only [← Bool.and_assoc (decide (_≤(ks.length:Int))),eN]
      generalize decide ((ks.length:Int)=0)=c0
      generalize decide ((ks.length:Int)=1)=c1
      generalize decide ((ks.length:Int)=2)=c2
      generalize decide ((ks.length:Int)=3)=c3
      generalize decide (2≤(ks.length:Int))=c4
      generalize decide ((ks.length:Int)≤9)=c5
      generalize decide ((sb.length:Int)=0)=d0
      generalize decide ((sb.length:Int)=1)=d1
      generalize decide (up=0)=u0
      generalize decide (at_=0)=a0
      generalize decide (o=0)=o0
      generalize decide (o=15)=o5
      generalize decide (o=16)=o6
      generalize decide (1≤o)=o7
      generalize decide (o≤14)=o8
      cases no <;> cases zv <;> cases u0 <;> cases a0 <;> cases o0 <;> cases c0 <;> cases d1 <;> rfl
    · simp only [Bool.and_eq_true,decide_eq_true_eq] at h
      simp only [Int.reduceEq,false_and,false_or,true_and,or_false]
      omega
  simp only [k1,k2,k3,k4,k5,k6,k7,k8,k9,if_false,Option.some.injEq,Prod.mk.injEq] at hF
  obtain ⟨rfl,rfl⟩:=hF
  simp only [k1,k2,k3,k4,k5,k6,k7,k8,k9,Int.reduceEq,Int.reduceLE,if_true,if_false,decide_true,decide_false,Bool.not_true,Bool.not_false,Bool.true_and,Bool.false_and,Bool.and_true,Bool.and_false,Bool.false_or,Bool.or_false,Bool.true_or,Bool.or_true,Bool.false_eq_true,Option.bind_eq_bind,Option.bind_some,hif,hif1]
  refine ⟨false,?_,rfl,by simp⟩
  repeat' split
  all_goals first | rfl | simp
theorem aSn {n : Nat} {L : Int → Option Bool} {good : Nat → Prop} {KP : Prop}
    (hstep:∀ i,i<n→(good i→L (i:Nat)=L ((i+1:Nat):Int))∧(¬ good i→L (i:Nat)=some false))
    (hend:∃ b,L (n:Nat)=some b∧(b=true↔KP)):∃ b,L 0=some b∧(b=true↔(∀ i,i<n→good i)∧KP):=by
  have key:∀ i,i≤n→∃ b,L (i:Nat)=some b∧(b=true↔(∀ k,i≤k→k<n→good k)∧KP):=by
    refine iI ?_ ?_
    · obtain ⟨b,h1,h2⟩:=hend
      exact ⟨b,h1,h2.trans ⟨fun h=>⟨fun k h1 h2=>by omega,h⟩,fun h=>h.2⟩⟩
    · intro i hi ih
      obtain ⟨b,h1,h2⟩:=ih
      obtain ⟨s1,s2⟩:=hstep i hi
      by_cases hg:good i
      · refine ⟨b,(s1 hg).trans h1,h2.trans ⟨fun h=>⟨fun k k1 k2=>?_,h.2⟩,fun h=>⟨fun k k1 k2=>h.1 k (by omega) k2,h.2⟩⟩⟩
        by_cases e:k=i
        · subst e; exact hg
        · exact h.1 k (by omega) k2
      · refine ⟨false,s2 hg,?_⟩
        simp only [Bool.false_eq_true,false_iff,not_and]
        intro h
        exact absurd (h i (by omega) hi) hg
  obtain ⟨b,h1,h2⟩:=key 0 (by omega)
  exact ⟨b,h1,h2.trans ⟨fun h=>⟨fun k hk=>h.1 k (by omega) hk,h.2⟩,fun h=>⟨fun k _ hk=>h.1 k hk,h.2⟩⟩⟩
theorem bDy {γ : Type} {n : Nat} {L M : Int → Option γ} (hstep : ∀ i, i < n → L ((i + 1 : Nat) : Int) = M ((i + 1 : Nat) : Int) → (∃ r, L ((i + 1 : Nat) : Int) = some r) → L (i : Nat) = M (i : Nat) ∧ ∃ r, L (i : Nat) = some r)
    (hend:L (n:Nat)=M (n:Nat)∧∃ r,L (n:Nat)=some r):L 0=M 0∧∃ r,L 0=some r:=by
  have key:∀ i,i≤n→L (i:Nat)=M (i:Nat)∧∃ r,L (i:Nat)=some r :=
    iI hend fun i hi ih=>hstep i hi ih.1 ih.2
  exact key 0 (by omega)
theorem aH6 (s:List UInt8):oU s=lY s∧∃ b,lY s=some b∧(b=true↔1≤s.length∧s.length≤20):=by
  unfold oU lY fI
  simp only [Option.bind_eq_bind,Option.bind_some]
  refine ⟨by simp,_,rfl,?_⟩
  by_cases h1:(1:Int)≤(s.length:Int)
  · simp [h1]; omega
  · simp [h1]; omega
theorem aJh (t:bI) (s:List UInt8) (hl:t.cols.length≤1048576):aDv t s=rO t s∧∃ r,rO t s=some r:=by
  have:=bDy (n:=t.cols.length) (L:=fun i=>H5 t.cols s i) (M:=fun i=>uU s t i) ?_ ?_
  · unfold aDv aNd rO
    obtain ⟨h1,r,h2⟩:=this
    try simp only at h1 h2
    rw [← h1,h2]
    exact ⟨rfl,r,rfl⟩
  · intro i hi h1 h2
    try dsimp only at h1 h2 ⊢
    rw [H5,uU]
    simp only [fO,eF hi,gG hi (by omega),hi,decide_true,if_true,aN2,Option.bind_eq_bind,Option.bind_some]
    by_cases hc:t.cols[i].name=s
    · simp [hc]
    · simp only [hc,decide_false,Bool.false_eq_true,if_false]
      exact ⟨h1,h2⟩
  · try dsimp only
    rw [H5,uU]
    simp
theorem bB7 (c:aP) (s:List UInt8) (hl:c.tables.length≤1048576):aCq c s=rG c s∧∃ r,rG c s=some r:=by
  have:=bDy (n:=c.tables.length) (L:=fun i=>E5 c.tables s i) (M:=fun i=>zV s c i) ?_ ?_
  · unfold aCq aKj rG
    obtain ⟨h1,r,h2⟩:=this
    try simp only at h1 h2
    rw [← h1,h2]
    exact ⟨rfl,r,rfl⟩
  · intro i hi h1 h2
    try dsimp only at h1 h2 ⊢
    rw [E5,zV]
    simp only [fO,eF hi,gG hi (by omega),hi,decide_true,if_true,aNc,Option.bind_eq_bind,Option.bind_some]
    by_cases hc:c.tables[i].name=s
    · simp [hc]
    · simp only [hc,decide_false,Bool.false_eq_true,if_false]
      exact ⟨h1,h2⟩
  · try dsimp only
    rw [E5,zV]
    simp
def qV (t:bI) (j:Nat):Prop:=∃ c,t.cols[j]?=some c∧(1≤c.name.length∧c.name.length≤20)∧(1≤c.type∧c.type≤3)∧rO t c.name=some (j:Int)
def sV (t:bI):Prop:=(∀ j,j<t.cols.length→qV t j)∧((1≤t.name.length∧t.name.length≤20)∧1≤t.cols.length∧t.cols.length≤4)
theorem cAy (t:bI) (hl:t.cols.length≤1048576):∃ b,aCp t=some b∧(b=true↔sV t):=by
  unfold aCp sV
  refine aSn (n:=t.cols.length) (L:=fun i=>I5 t i) (good:=qV t) ?_ ?_
  · intro i hi
    try dsimp only
    rw [I5]
    obtain ⟨n1,b,n2,n3⟩:=aH6 t.cols[i].name
    obtain ⟨c1,k,c2⟩:=aJh t t.cols[i].name hl
    simp only [fO,eF hi,gG hi (by omega),hi,decide_true,if_true,n1,n2,c1,c2,Option.bind_eq_bind,Option.bind_some]
    have hP:qV t i↔(1≤t.cols[i].name.length∧t.cols[i].name.length≤20)∧(1≤t.cols[i].type∧t.cols[i].type≤3)∧k=(i:Int):=by
      unfold qV
      constructor
      · rintro ⟨c,h1,h2,h3,h4⟩
        rw [List.getElem?_eq_getElem hi] at h1
        simp only [Option.some.injEq] at h1; subst h1
        rw [c2] at h4
        exact ⟨h2,h3,by simpa using h4⟩
      · rintro ⟨h2,h3,h4⟩
        exact ⟨_,List.getElem?_eq_getElem hi,h2,h3,by rw [c2,h4]⟩
    rw [hP,← n3]
    cases b with
    | false=>simp
    | true =>
      by_cases t1:t.cols[i].type<1
      · simp [t1] <;> omega
      by_cases t3:3<t.cols[i].type
      · simp [t1,t3] <;> omega
      by_cases hk:k=(i:Int)
      · simp [t1,t3,hk] <;> omega
      · simp [t1,t3,hk]
  · try dsimp only
    rw [I5]
    obtain ⟨n1,b,n2,n3⟩:=aH6 t.name
    simp only [fO,Nat.lt_irrefl,decide_false,Bool.false_eq_true,if_false,n1,n2,Option.bind_eq_bind,Option.bind_some]
    refine ⟨_,rfl,?_⟩
    rw [← n3]
    cases b with
    | false=>simp
    | true =>
      by_cases l1:(1:Int)≤(t.cols.length:Int)
      · simp [l1] <;> omega
      · simp [l1] <;> omega
def aFr (c:aP):Prop:=(∀ i,i<c.tables.length→∃ t,c.tables[i]?=some t∧sV t∧rG c t.name=some (i:Int))∧c.tables.length≤4
def E9 (c:aP):Prop:=c.tables.length≤1048576∧∀ t ∈ c.tables,t.cols.length≤1048576
theorem bGi (c:aP) (hs:E9 c):∃ b,aBq c=some b∧(b=true↔aFr c):=by
  unfold aBq aFr
  refine aSn (n:=c.tables.length) (L:=fun i=>J9 c i) (good:=fun i=>∃ t,c.tables[i]?=some t∧sV t∧rG c t.name=some (i:Int)) ?_ ?_
  · intro i hi
    try dsimp only
    rw [J9]
    obtain ⟨b,n2,n3⟩:=cAy c.tables[i] (hs.2 _ (List.getElem_mem hi))
    obtain ⟨c1,k,c2⟩:=bB7 c c.tables[i].name hs.1
    have:=hs.1
    simp only [fO,eF hi,gG hi (by omega),hi,decide_true,if_true,n2,c1,c2,Option.bind_eq_bind,Option.bind_some]
    have hP:(∃ t,c.tables[i]?=some t∧sV t∧rG c t.name=some (i:Int))↔sV c.tables[i]∧k=(i:Int):=by
      constructor
      · rintro ⟨t,h1,h2,h3⟩
        rw [List.getElem?_eq_getElem hi] at h1
        simp only [Option.some.injEq] at h1; subst h1
        rw [c2] at h3
        exact ⟨h2,by simpa using h3⟩
      · rintro ⟨h2,h3⟩
        exact ⟨_,List.getElem?_eq_getElem hi,h2,by rw [c2,h3]⟩
    rw [hP,← n3]
    cases b with
    | false=>simp
    | true =>
      by_cases hk:k=(i:Int)
      · simp [hk]
      · simp [hk]
  · try dsimp only
    rw [J9]
    refine ⟨decide ((c.tables.length:Int)≤4),by simp,?_⟩
    simp only [decide_eq_true_eq]; omega
theorem bAu (c:aP) (hs:E9 c):∃ b,aBw c=some b∧(b=true↔aFr c):=by
  unfold aBw
  by_cases h4:(4:Int)<(c.tables.length:Int)
  · rw [if_pos (by simpa using h4)]
    refine ⟨false,rfl,?_⟩
    unfold aFr
    simp only [Bool.false_eq_true,false_iff,not_and]
    intro _; omega
  rw [if_neg (by simpa using h4)]
  have:=aSn (n:=c.tables.length) (L:=fun i=>E8 c i) (good:=fun i=>∃ t,c.tables[i]?=some t∧sV t∧rG c t.name=some (i:Int)) (KP:=True) ?_ ?_
  · obtain ⟨b,h1,h2⟩:=this
    exact ⟨b,h1,h2.trans ⟨fun h=>⟨h.1,by omega⟩,fun h=>⟨h.1,trivial⟩⟩⟩
  · intro i hi
    try dsimp only
    rw [E8]
    obtain ⟨n1,b,n2,n3⟩:=aH6 c.tables[i].name
    obtain ⟨c1,k,c2⟩:=bB7 c c.tables[i].name hs.1
    have:=hs.1
    have hcl:=hs.2 _ (List.getElem_mem hi)
    have inner:∀ (j:Nat),j≤c.tables[i].cols.length→((∀ m,j≤m→m<c.tables[i].cols.length→qV c.tables[i] m)→wU (i:Int) c c.tables[i] (j:Nat)=E8 c ((i+1:Nat):Int))∧(¬ (∀ m,j≤m→m<c.tables[i].cols.length→qV c.tables[i] m)→wU (i:Int) c c.tables[i] (j:Nat)=some false):=by
      refine iI ?_ ?_
      · rw [wU]
        simp only [fO,Nat.lt_irrefl,decide_false,Bool.false_eq_true,if_false,gG hi (by omega)]
        refine ⟨fun _=>trivial,fun h=>absurd (fun m h1 h2=>by omega) h⟩
      · intro j hj ih
        rw [wU]
        obtain ⟨_,b',m2,m3⟩:=aH6 c.tables[i].cols[j].name
        obtain ⟨_,k',d2⟩:=aJh c.tables[i] c.tables[i].cols[j].name hcl
        simp only [fO,eF hj,gG hj (by omega),hj,decide_true,if_true,m2,d2,fI,Option.bind_eq_bind,Option.bind_some]
        have hP:qV c.tables[i] j↔b'=true∧(1≤c.tables[i].cols[j].type∧c.tables[i].cols[j].type≤3)∧k'=(j:Int):=by
          unfold qV
          constructor
          · rintro ⟨c',h1,h2,h3,h4⟩
            rw [List.getElem?_eq_getElem hj] at h1
            simp only [Option.some.injEq] at h1; subst h1
            rw [d2] at h4
            exact ⟨m3.2 h2,h3,by simpa using h4⟩
          · rintro ⟨h2,h3,h4⟩
            exact ⟨_,List.getElem?_eq_getElem hj,m3.1 h2,h3,by rw [d2,h4]⟩
        have hall:(∀ m,j≤m→m<c.tables[i].cols.length→qV c.tables[i] m)↔qV c.tables[i] j∧∀ m,j+1≤m→m<c.tables[i].cols.length→qV c.tables[i] m:=by
          constructor
          · intro h; exact ⟨h j (by omega) hj,fun m h1 h2=>h m (by omega) h2⟩
          · rintro ⟨h1,h2⟩ m h3 h4
            by_cases e:m=j
            · subst e; exact h1
            · exact h2 m (by omega) h4
        rw [hall,hP]
        cases b' with
        | false=>simp
        | true =>
          by_cases hk:k'=(j:Int)
          · by_cases t1:1≤c.tables[i].cols[j].type
            · by_cases t3:c.tables[i].cols[j].type≤3
              · have t3':¬ 3<c.tables[i].cols[j].type:=by omega
                simpa [hk,t1,t3,t3',d2] using ih
              · simp [hk,t1,t3,d2]
            · simp [hk,t1,d2]
          · simp [hk,d2]
    obtain ⟨i1,i2⟩:=inner 0 (by omega)
    rw [show ((0:Nat):Int)=0 from rfl] at i1 i2
    simp only [fO,eF hi,gG hi (by omega),hi,decide_true,if_true,n2,c2,fI,Option.bind_eq_bind,Option.bind_some]
    have hP:(∃ t,c.tables[i]?=some t∧sV t∧rG c t.name=some (i:Int))↔sV c.tables[i]∧k=(i:Int):=by
      constructor
      · rintro ⟨t,h1,h2,h3⟩
        rw [List.getElem?_eq_getElem hi] at h1
        simp only [Option.some.injEq] at h1; subst h1
        rw [c2] at h3
        exact ⟨h2,by simpa using h3⟩
      · rintro ⟨h2,h3⟩
        exact ⟨_,List.getElem?_eq_getElem hi,h2,by rw [c2,h3]⟩
    rw [hP]
    unfold sV
    rw [← n3]
    cases b with
    | false=>simp
    | true =>
      by_cases hk:k=(i:Int)
      · by_cases l1:(1:Int)≤(c.tables[i].cols.length:Int)
        · by_cases l4:(c.tables[i].cols.length:Int)≤4
          · have l1':1≤c.tables[i].cols.length:=by omega
            have l4':c.tables[i].cols.length≤4:=by omega
            simp only [hk,l1,l4,l1',l4']
            simp only [Nat.zero_le,true_implies] at i1 i2
            simpa using And.intro i1 (fun (x:Nat) (hx:x<c.tables[i].cols.length) (hn:¬ qV c.tables[i] x)=>i2 fun h=>hn (h x hx))
          · have l4':¬ c.tables[i].cols.length≤4:=by omega
            simp [hk,l1,l4,l4']
        · have l1':¬ 1≤c.tables[i].cols.length:=by omega
          simp [hk,l1,l1']
      · simp [hk]
  · try dsimp only
    rw [E8]
    exact ⟨true,by simp,by simp⟩
def jS (t:bI):List Int:=t.cols.map bV.type
theorem aPl (t:bI) (hl:t.cols.length≤1048576):aBu t=some (jS t)∧wR t=some (jS t):=by
  have key:∀ i,i≤t.cols.length→∀ l:List Int,l.length≤i→K7 t l (i:Nat)=some (l++(t.cols.drop i).map bV.type)∧K4 t l (i:Nat)=some (l++(t.cols.drop i).map bV.type):=by
    refine iI ?_ ?_
    · intro l _
      rw [K7,K4]; simp
    · intro i hi ih l hl2
      rw [K7,K4]
      have ea:appG 8 l [t.cols[i].type]=some (l++[t.cols[i].type]):=by unfold appG; rw [if_pos (by simp; omega)]
      simp only [fO,eF hi,gG hi (by omega),hi,decide_true,if_true,ea,Option.bind_eq_bind,Option.bind_some]
      have:=ih (l++[t.cols[i].type]) (by simp; omega)
      rw [List.drop_eq_getElem_cons hi,List.map_cons]
      simpa using this
  unfold aBu wR jS
  have:=key 0 (by omega) [] (by simp)
  simpa using this
def jA (c:aP):List Int→List Int→List Int×Bool
  | acc,[]=>(acc,true)
  | acc,i::l=>if 0≤i∧i<(c.tables.length:Int) then jA c (acc++jS (c.tables[i.toNat]?.getD default)) l else ([],false)
def lW (c:aP):Prop:=c.tables.length≤4∧∀ t ∈ c.tables,t.cols.length≤4∧∀ x ∈ jS t,okT x
theorem aDy (c:aP) (hc:lW c) (l:List Int) (hl:l.length≤1048576):aC6 c l=some (jA c [] l)∧yE c l=some (jA c [] l):=by
  have key:∀ i,i≤l.length→∀ acc:List Int,acc.length≤4 * i→I4 l c acc (i:Nat)=some (jA c acc (l.drop i))∧yN l c acc (i:Nat)=some (jA c acc (l.drop i)):=by
    refine iI ?_ ?_
    · intro acc _
      rw [I4,yN]; simp [jA]
    · intro i hi ih acc ha
      rw [I4,yN,List.drop_eq_getElem_cons hi,jA]
      have hw:IntKind.wrap .i64 ((c.tables.length:Int) - 1)=(c.tables.length:Int) - 1:=by have:=hc.1; exact dN (by omega) (by omega)
      unfold fI
      simp only [fO,eF hi,gG hi (by omega),hi,decide_true,if_true,hw,Option.bind_eq_bind,Option.bind_some]
      by_cases h0:0≤l[i]
      · by_cases h1:l[i]<(c.tables.length:Int)
        · have n0:¬ l[i]<0:=by omega
          have n1:¬ (c.tables.length:Int)≤l[i]:=by omega
          have n2:l[i]≤(c.tables.length:Int) - 1:=by omega
          have hj:l[i].toNat<c.tables.length:=by omega
          have hx:idx c.tables l[i]=some c.tables[l[i].toNat]:=by
            have:=eF hj
            rwa [show ((l[i].toNat:Nat):Int)=l[i] by omega] at this
          obtain ⟨t1,t2⟩:=hc.2 _ (List.getElem_mem hj)
          obtain ⟨e1,e2⟩:=aPl c.tables[l[i].toNat] (by omega)
          have tl:(jS c.tables[l[i].toNat]).length≤4:=by unfold jS; simpa using t1
          have ea:appG 8 acc (jS c.tables[l[i].toNat])=some (acc++jS c.tables[l[i].toNat]):=by unfold appG; rw [if_pos (by omega)]
          have hg:c.tables[l[i].toNat]?.getD default=c.tables[l[i].toNat]:=by simp [hj]
          have hp:0≤l[i]∧l[i]<(c.tables.length:Int):=⟨h0,h1⟩
          rw [if_pos hp,hg]
          simp only [h0,n0,n1,n2,hx,e1,e2,ea,decide_true,decide_false,if_true,if_false,Bool.false_eq_true,Bool.not_true,Option.bind_some]
          exact ih _ (by rw [List.length_append]; omega)
        · have n1:(c.tables.length:Int)≤l[i]:=by omega
          have n2:¬ l[i]≤(c.tables.length:Int) - 1:=by omega
          have hn:¬ (0≤l[i]∧l[i]<(c.tables.length:Int)):=by omega
          rw [if_neg hn]
          simp [h0,n1,n2]
      · have n0:l[i]<0:=by omega
        have hn:¬ (0≤l[i]∧l[i]<(c.tables.length:Int)):=by omega
        rw [if_neg hn]
        simp [h0,n0]
  unfold aC6 yE
  have:=key 0 (by omega) [] (by simp)
  simpa using this
theorem aLw (c:aP) (hc:lW c):∀ (l acc:List Int),(∀ x ∈ acc,okT x)→(∀ x ∈ (jA c acc l).1,okT x)∧(jA c acc l).1.length≤acc.length+4 * l.length
  | [],acc,h=>⟨h,by simp [jA]⟩
  | i::l,acc,h=>by
    rw [jA]
    split
    · rename_i hi
      have hj:i.toNat<c.tables.length:=by omega
      have hg:c.tables[i.toNat]?.getD default=c.tables[i.toNat]:=by simp [hj]
      rw [hg]
      obtain ⟨t1,t2⟩:=hc.2 _ (List.getElem_mem hj)
      have tl:(jS c.tables[i.toNat]).length≤4:=by unfold jS; simpa using t1
      obtain ⟨a1,a2⟩:=aLw c hc l (acc++jS c.tables[i.toNat]) (fun x hx=>by
        rcases List.mem_append.1 hx with hx | hx
        · exact h x hx
        · exact t2 x hx)
      exact ⟨a1,by rw [List.length_append] at a2; simp only [List.length_cons]; omega⟩
    · exact ⟨by simp,by simp⟩
def aE8 (p:aL):Bool:=(decide (1≤p.tables.length)&&decide (p.tables.length≤3))&&decide (p.on_.length=p.tables.length)&&decide ((p.on_[0]?.getD []).length=0)&&decide (p.where_.length≤1)&&decide (p.order.length≤12)&&(decide (1≤p.items.length)&&decide (p.items.length≤12))&&decide (p.names.length=p.items.length)&&decide (-1≤p.limit)
def onB (p:aL):Bool:=p.on_.all fun l=>decide (l.length≤1)
def nmB (s:List UInt8):Bool:=decide (1≤s.length)&&decide (s.length≤20)
theorem bO8 (s:List UInt8):oU s=some (nmB s):=by
  unfold oU nmB
  by_cases h:1≤s.length <;> by_cases h2:s.length≤20 <;> simp [h,h2] <;> omega
theorem cBu (s:List UInt8):lY s=some (nmB s):=by
  unfold lY fI nmB
  by_cases h:1≤s.length <;> by_cases h2:s.length≤20 <;> simp [h,h2] <;> omega
theorem onI (l:List (List aA)) (hl:l.length≤1048576):aEk l=some (!l.all fun l=>decide (l.length≤1)):=by
  have key:∀ i,i≤l.length→∃ k:Int,zB l (i:Nat)=some k∧decide (0≤k)=!(l.drop i).all fun l=>decide (l.length≤1):=by
    refine iI ?_ ?_
    · rw [zB]
      exact ⟨-1,by simp,by simp⟩
    · intro i hi ih
      rw [zB,List.drop_eq_getElem_cons hi]
      simp only [fO,eF hi,gG hi (by omega),hi,decide_true,if_true,aDi,Option.bind_eq_bind,Option.bind_some,List.all_cons]
      by_cases h:l[i].length≤1
      · have h1:¬ (1:Int)<(l[i].length:Int):=by omega
        simpa [h,h1] using ih
      · have h1:(1:Int)<(l[i].length:Int):=by omega
        exact ⟨(i:Int),by simp [h1],by simp [h]⟩
  obtain ⟨k,h1,h2⟩:=key 0 (by omega)
  rw [show ((0:Nat):Int)=0 from rfl] at h1
  rw [aEk,aGv,h1]
  simpa using h2
theorem nmI (l:List (List UInt8)) (hl:l.length≤1048576):aD4 l=some (!l.all nmB):=by
  have key:∀ i,i≤l.length→∃ k:Int,yU l (i:Nat)=some k∧decide (0≤k)=!(l.drop i).all nmB:=by
    refine iI ?_ ?_
    · rw [yU]
      exact ⟨-1,by simp,by simp⟩
    · intro i hi ih
      rw [yU,List.drop_eq_getElem_cons hi]
      simp only [fO,eF hi,gG hi (by omega),hi,decide_true,if_true,aCx,bO8,Option.bind_eq_bind,Option.bind_some,List.all_cons]
      cases h:nmB l[i] with
      | true=>simpa using ih
      | false=>exact ⟨(i:Int),by simp,by simp⟩
  obtain ⟨k,h1,h2⟩:=key 0 (by omega)
  rw [show ((0:Nat):Int)=0 from rfl] at h1
  rw [aD4,aMg,h1]
  simpa using h2
theorem bY7 (c:aP) (hc:lW c) (p:aL) (hn:p.names.length≤1048576) (ht:p.tables.length≤1048576):wT c p 0=some (p.names.all nmB&&(jA c [] p.tables).2):=by
  have key:∀ i,i≤p.names.length→wT c p (i:Nat)=some ((p.names.drop i).all nmB&&(jA c [] p.tables).2):=by
    refine iI ?_ ?_
    · rw [wT]; simp [(aDy c hc p.tables ht).2]
    · intro i hi ih
      rw [wT,List.drop_eq_getElem_cons hi,List.all_cons]
      simp only [fO,eF hi,gG hi (by omega),hi,decide_true,if_true,cBu,ih,Option.bind_eq_bind,Option.bind_some]
      cases nmB p.names[i] <;> simp
  simpa using key 0 (by omega)
theorem cD0 (c:aP) (hc:lW c) (p:aL) (ho:p.on_.length≤1048576) (hn:p.names.length≤1048576) (ht:p.tables.length≤1048576):wO c p 0=some (onB p&&(p.names.all nmB&&(jA c [] p.tables).2)):=by
  have key:∀ i,i≤p.on_.length→wO c p (i:Nat)=some (((p.on_.drop i).all fun l=>decide (l.length≤1))&&(p.names.all nmB&&(jA c [] p.tables).2)):=by
    refine iI ?_ ?_
    · rw [wO]; simp [bY7 c hc p hn ht]
    · intro i hi ih
      rw [wO,List.drop_eq_getElem_cons hi,List.all_cons]
      simp only [fO,eF hi,gG hi (by omega),hi,decide_true,if_true,ih,Option.bind_eq_bind,Option.bind_some]
      by_cases h:p.on_[i].length≤1
      · have h1:¬ (1:Int)<(p.on_[i].length:Int):=by omega
        simp [h,h1]
      · have h1:(1:Int)<(p.on_[i].length:Int):=by omega
        simp [h,h1]
  unfold onB
  simpa using key 0 (by omega)
theorem bVg (c : aP) (hc : lW c) (p : aL) (ho : p.on_.length ≤ 1048576) (hn : p.names.length ≤ 1048576) (ht : p.tables.length ≤ 1048576) :
    aFn c p=some (aE8 p&&(onB p&&(p.names.all nmB&&(jA c [] p.tables).2)))∧aCy p=some (aE8 p&&(onB p&&p.names.all nmB)):=by
  unfold aFn aCy fI aE8
  simp only [cD0 c hc p ho hn ht,onI p.on_ ho,nmI p.names hn,Option.bind_eq_bind,Option.bind_some]
  have hon:(!p.on_.all fun l=>decide (l.length≤1))=!onB p:=rfl
  rw [hon]
  generalize onB p=b1
  generalize p.names.all nmB=b2
  generalize (jA c [] p.tables).2=b3
  by_cases t1:1≤p.tables.length
  case neg =>
    have c1:¬ (1:Int)≤(p.tables.length:Int):=by omega
    have c2:(p.tables.length:Int)<1:=by omega
    simp only [t1,c1,c2,decide_true,decide_false,if_true,if_false,Bool.not_true,Bool.not_false,Bool.false_eq_true,Bool.false_and,Option.bind_some,beq_self_eq_true]
    simp
  by_cases t2:p.tables.length≤3
  case neg =>
    have c1:¬ (p.tables.length:Int)≤3:=by omega
    have c2:(3:Int)<(p.tables.length:Int):=by omega
    simp [t2,c1,c2]
  by_cases t3:p.on_.length=p.tables.length
  case neg =>
    have c1:¬ (p.on_.length:Int)=(p.tables.length:Int):=by omega
    simp [t3,c1]
  have a1:(1:Int)≤(p.tables.length:Int):=by omega
  have a2:(p.tables.length:Int)≤3:=by omega
  have a3:¬ (p.tables.length:Int)<1:=by omega
  have a4:¬ (3:Int)<(p.tables.length:Int):=by omega
  have a5:(p.on_.length:Int)=(p.tables.length:Int):=by omega
  have h0:0<p.on_.length:=by omega
  have hi:idx p.on_ 0=some p.on_[0]:=eF h0
  have hg:p.on_[0]?.getD []=p.on_[0]:=by simp [h0]
  rw [hg,hi]
  generalize p.on_[0]=l0
  have e0:decide ((0:Int)<(l0.length:Int))=!decide (l0.length=0):=by rw [Bool.eq_iff_iff]; simp only [Bool.not_eq_true',decide_eq_true_eq,decide_eq_false_iff_not]; omega
  have e1:decide ((1:Int)<(p.where_.length:Int))=!decide (p.where_.length≤1):=by rw [Bool.eq_iff_iff]; simp only [Bool.not_eq_true',decide_eq_true_eq,decide_eq_false_iff_not]; omega
  have e2:decide ((12:Int)<(p.order.length:Int))=!decide (p.order.length≤12):=by rw [Bool.eq_iff_iff]; simp only [Bool.not_eq_true',decide_eq_true_eq,decide_eq_false_iff_not]; omega
  have e3:decide ((1:Int)≤(p.items.length:Int))=decide (1≤p.items.length):=by rw [Bool.eq_iff_iff]; simp only [decide_eq_true_eq]; omega
  have e4:decide ((p.items.length:Int)≤12)=decide (p.items.length≤12):=by rw [Bool.eq_iff_iff]; simp only [decide_eq_true_eq]; omega
  have e5:decide ((p.names.length:Int)=(p.items.length:Int))=decide (p.names.length=p.items.length):=by rw [Bool.eq_iff_iff]; simp only [decide_eq_true_eq]; omega
  have e6:decide (p.limit < -1)=!decide (-1≤p.limit):=by rw [Bool.eq_iff_iff]; simp only [Bool.not_eq_true',decide_eq_true_eq,decide_eq_false_iff_not]; omega
  simp only [a1,a2,a3,a4,a5,t1,t2,t3,e0,e1,e2,e3,e4,e5,e6,decide_true,decide_false,if_true,if_false,Bool.not_true,Bool.not_false,Bool.false_eq_true,beq_self_eq_true,Bool.and_self,Bool.true_and,Option.bind_some]
  generalize decide (l0.length=0)=x0
  generalize decide (p.where_.length≤1)=x1
  generalize decide (p.order.length≤12)=x2
  generalize decide (1≤p.items.length)=x3
  generalize decide (p.items.length≤12)=x4
  generalize decide (p.names.length=p.items.length)=x5
  generalize decide (-1≤p.limit)=x6
  cases x0 <;> cases x1 <;> cases x2 <;> cases x3 <;> cases x4 <;> cases x5 <;> cases x6 <;> cases b1 <;> cases b2 <;> exact ⟨rfl,rfl⟩
def TyE (c:aP) (env:List (List Int)) (e:aA):Prop:=∃ r:Int×Bool,xP c env e=some r∧uZ c env e=some r∧okT r.1
def PlE (c:aP) (env:List (List Int)) (p:aL):Prop:=∃ r:List Int×Bool,aAp c env p=some r∧aBe c env p=some r∧∀ x ∈ r.1,okT x
def jE (env:List (List Int)):Prop:=∀ row ∈ env,row.length≤4194304∧∀ x ∈ row,okT x
theorem okT0:okT 0:=⟨by omega,by omega⟩
theorem okT3:okT 3:=⟨by omega,by omega⟩
theorem aTn (c:aP) (env:List (List Int)) (l:List aA) (hl:l.length≤1048576) (H:∀ e ∈ l,TyE c env e):∃ b,Y8 c env l=some b∧U0 c env l=some b:=by
  have key:∀ i,i≤l.length→∃ (k:Int) (b:Bool),X4 l c env (i:Nat)=some k∧U1 env l c (i:Nat)=some b∧decide (0≤k)=!b:=by
    refine iI ?_ ?_
    · rw [X4,U1]
      exact ⟨-1,true,by simp,by simp,by simp⟩
    · intro i hi ih
      rw [X4,U1]
      obtain ⟨r,h1,h2,h3⟩:=H _ (List.getElem_mem hi)
      obtain ⟨t,e1⟩:=aL5 r.1
      simp only [fO,hi,decide_true,if_true,eF hi,gG hi (by omega),aLd,h1,h2,aUv,e1,Option.bind_eq_bind,Option.bind_some]
      cases hr:r.2
      · exact ⟨(i:Int),false,by simp,by simp,by simp⟩
      · cases t
        · exact ⟨(i:Int),false,by simp,by simp,by simp⟩
        · simpa using ih
  obtain ⟨k,b,h1,h2,h3⟩:=key 0 (by omega)
  rw [show ((0:Nat):Int)=0 from rfl] at h1 h2
  rw [Y8,aMy,aNa,h1,U0,h2]
  exact ⟨b,by simp [h3],rfl⟩
theorem aMx (row:List Int) (env:List (List Int)) (h:env.length≤4194304):aAh row env=some (row::env)∧zG row env=some (row::env):=by
  have e:appG 24 ([row]:List (List Int)) env=some (row::env):=by unfold appG; rw [if_pos (by simp; omega)]; rfl
  unfold aAh zG
  rw [e]; exact ⟨rfl,rfl⟩
theorem bU7 (c : aP) (env : List (List Int)) (e : aA) (hk : e.kids.length ≤ 1048576) (H : ∀ k ∈ e.kids, TyE c env k) :
    (qU env e c [] 0=some (0,false)∧nU env c e [] 0=some (0,false))∨∃ acc:List Int,acc.length=e.kids.length∧(∀ x ∈ acc,okT x)∧qU env e c [] 0=wE env acc e c [] 0∧nU env c e [] 0=nU env c e acc (e.kids.length:Int):=by
  have key:∀ i,i≤e.kids.length→∀ acc:List Int,acc.length=i→(∀ x ∈ acc,okT x)→(qU env e c acc (i:Nat)=some (0,false)∧nU env c e acc (i:Nat)=some (0,false))∨∃ a:List Int,a.length=e.kids.length∧(∀ x ∈ a,okT x)∧qU env e c acc (i:Nat)=wE env a e c [] 0∧nU env c e acc (i:Nat)=nU env c e a (e.kids.length:Int):=by
    refine iI ?_ ?_
    · intro acc ha hx
      right
      refine ⟨acc,ha,hx,?_,rfl⟩
      rw [qU]
      simp
    · intro i hi ih acc ha hx
      obtain ⟨r,h1,h2,h3⟩:=H _ (List.getElem_mem hi)
      have ea:appG 8 acc [r.1]=some (acc++[r.1]):=by unfold appG; rw [if_pos (by simp; omega)]
      have f1:qU env e c acc (i:Nat)=if (!r.2)=true then some (0,false) else qU env e c (acc++[r.1]) ((i+1:Nat):Int):=by
        rw [qU]
        simp only [fO,hi,decide_true,if_true,eF hi,gG hi (by omega),h1,ea,Option.bind_eq_bind,Option.bind_some]
      have f2:nU env c e acc (i:Nat)=if (!r.2)=true then some (0,false) else nU env c e (acc++[r.1]) ((i+1:Nat):Int):=by
        rw [nU]
        simp only [fO,hi,decide_true,if_true,eF hi,gG hi (by omega),h2,ea,Option.bind_eq_bind,Option.bind_some]
      rw [f1,f2]
      cases hr:r.2
      · left; exact ⟨by simp,by simp⟩
      · have:=ih (acc++[r.1]) (by simp [ha]) (by intro x hx2; rcases List.mem_append.1 hx2 with h | h; exact hx x h; simp at h; rw [h]; exact h3)
        simpa using this
  simpa using key 0 (by omega) [] rfl (by simp)
theorem aIs {α:Type} {l:List α} (h:0<l.length):idx l 0=some l[0]:=eF h
theorem bHk {α:Type} {l:List α} (h:1<l.length):idx l 1=some l[1]:=eF h
theorem cCy (l:List Int) (h:l.length≤4194304):aE3 l=some l:=by
  unfold aE3
  by_cases h0:l=[]
  · simp [h0]
  · have e:appG 8 ([]:List Int) l=some l:=by unfold appG; rw [if_pos (by simp; omega)]; simp
    have h1:¬ (l.length:Int)=0:=by
      have:=List.length_pos_iff.2 h0
      omega
    simp [h1,e]
theorem aQq (a b:List Int) (ha:a.length≤1000000) (hb:b.length≤1000) (oa:∀ x ∈ a,okT x) (ob:∀ x ∈ b,okT x):∃ m:Bool,F6 (a++b)=some m∧D5 a b false=some (if m=true then 3 else 0,m):=by
  obtain ⟨r,h1,h2⟩:=cDx (a++b) (by simp; omega) (by intro x hx; rcases List.mem_append.1 hx with h | h; exact oa x h; exact ob x h)
  refine ⟨r.2,h2,?_⟩
  have e:appG 8 a b=some (a++b):=by unfold appG; rw [if_pos (by omega)]
  unfold D5
  rw [cCy a (by omega)]
  simp only [e,h1,Bool.false_eq_true,if_false,Option.bind_eq_bind,Option.bind_some]
  cases r.2 <;> simp
theorem cDl (c:aP) (env:List (List Int)) (hv:jE env) (hl:env.length≤4194304) (e:aA) (hk:e.kids.length≤1048576) (hs:e.sub.length≤1048576) (H:∀ k ∈ e.kids,TyE c env k) (HP:∀ p ∈ e.sub,PlE c env p):TyE c env e:=by
  unfold TyE
  obtain ⟨b,s1,i1,hf⟩:=bLs e hk hs
  rw [xP,uZ,s1,i1]
  simp only [Option.bind_eq_bind,Option.bind_some]
  cases b with
  | false=>exact ⟨(0,false),by simp,by simp,okT0⟩
  | true =>
  simp only [Bool.not_true,Bool.false_eq_true,if_false]
  have hF:=hf rfl
  by_cases k2:e.kind=2
  · have hk0 : e.kids.length = 0 := by
      rcases hF with h | h | h | h | h | h | h | h | h <;> first | exact h.2.1 | (exact absurd h.1 (by omega))
    rw [if_pos (by simpa using k2),nU]
    have n1:¬ e.kind=1:=by omega
    have hw:IntKind.wrap .i64 ((env.length:Int) - 1)=(env.length:Int) - 1:=dN (by omega) (by omega)
    unfold fI
    simp only [hk0,k2,n1,hw,decide_true,decide_false,if_true,if_false,Bool.false_eq_true,Option.bind_eq_bind,Option.bind_some,Int.reduceEq]
    by_cases u0:0≤e.up
    case neg => exact ⟨(0, false), by have : e.up < 0 := by omega
                                      simp [this],by simp [u0],okT0⟩
    by_cases u1:e.up<(env.length:Int)
    case neg => exact ⟨(0, false), by have : (env.length : Int) ≤ e.up := by omega
                                      simp [this], by have : ¬ e.up ≤ (env.length : Int) - 1 := by omega
                                                      simp [u0,this],okT0⟩
    have hj:e.up.toNat<env.length:=by omega
    have hx:idx env e.up=some env[e.up.toNat]:=by
      have:=eF hj
      rwa [show ((e.up.toNat:Nat):Int)=e.up by omega] at this
    obtain ⟨r1,r2⟩:=hv _ (List.getElem_mem hj)
    have a1:¬ e.up<0:=by omega
    have a2:¬ (env.length:Int)≤e.up:=by omega
    have a3:e.up≤(env.length:Int) - 1:=by omega
    have hw2:IntKind.wrap .i64 ((env[e.up.toNat].length:Int) - 1)=(env[e.up.toNat].length:Int) - 1:=dN (by omega) (by omega)
    simp only [u0,a1,a2,a3,hx,hw2,decide_true,decide_false,if_true,if_false,Bool.not_true,Bool.false_eq_true,beq_self_eq_true,Bool.and_self,Option.bind_some,Bool.true_and]
    by_cases t0:0≤e.at_
    case neg => exact ⟨(0, false), by have : e.at_ < 0 := by omega
                                      simp [this],by simp [t0],okT0⟩
    by_cases t1:e.at_<(env[e.up.toNat].length:Int)
    case neg => exact ⟨(0, false), by have h1 : (env[e.up.toNat].length : Int) ≤ e.at_ := by omega
                                      have h2:¬ e.at_<0:=by omega
                                      simp [h1, h2], by have : ¬ e.at_ ≤ (env[e.up.toNat].length : Int) - 1 := by omega
                                                        simp [t0,this],okT0⟩
    have hj2:e.at_.toNat<env[e.up.toNat].length:=by omega
    have hx2:idx env[e.up.toNat] e.at_=some env[e.up.toNat][e.at_.toNat]:=by
      have:=eF hj2
      rwa [show ((e.at_.toNat:Nat):Int)=e.at_ by omega] at this
    have b1:¬ e.at_<0:=by omega
    have b2:¬ (env[e.up.toNat].length:Int)≤e.at_:=by omega
    have b3:e.at_≤(env[e.up.toNat].length:Int) - 1:=by omega
    exact ⟨(env[e.up.toNat][e.at_.toNat],true),by simp [b1,b2,hx2],by simp [t0,b3,hx2],r2 _ (List.getElem_mem hj2)⟩
  rw [if_neg (by simpa using k2)]
  rcases bU7 c env e hk H with ⟨h1,h2⟩ | ⟨acc,ha,hx,h1,h2⟩
  · exact ⟨(0,false),h1,h2,okT0⟩
  rw [h1,h2,nU,wE]
  have nk:decide ((e.kids.length:Int)<(e.kids.length:Int))=false:=by simp
  simp only [nk,k2,decide_false,Bool.false_eq_true,if_false]
  rcases hF with ⟨k,f1,f2,f3⟩ | ⟨k,f1⟩ | ⟨k,f1,f2⟩ | ⟨k,f1,f2⟩ | ⟨k,f1,f2⟩ | ⟨k,f1,f2⟩ | ⟨k,⟨f1,f3⟩,f2⟩ | ⟨k,f1,f2⟩ | ⟨k,f1,f2⟩
  · refine ⟨(e.value.kind,true),?_,?_,f3⟩
    · unfold rU; simp [f2,k]
    · simp [k]
  · exact absurd k k2
  · obtain ⟨r,r1,r2,r3⟩:=bNb e.op (acc[0]'(by omega))
    refine ⟨r,?_,?_,r3⟩
    · unfold rU; simp [f2,k,aIs (show 0<acc.length by omega),r1]
    · simp [k,aIs (show 0<acc.length by omega),r2]
  · obtain ⟨r,r1,r2,r3⟩:=bMt e.op (acc[0]'(by omega)) (acc[1]'(by omega)) (hx _ (List.getElem_mem _)) (hx _ (List.getElem_mem _))
    refine ⟨r,?_,?_,r3⟩
    · unfold rU; simp [f2,k,aIs (show 0<acc.length by omega),bHk (show 1<acc.length by omega),r1]
    · simp [k,aIs (show 0<acc.length by omega),bHk (show 1<acc.length by omega),r2]
  · refine ⟨(3,true),?_,?_,okT3⟩
    · unfold rU D5; simp [f2,k]
    · unfold tH; simp [f2,k]
  · obtain ⟨m,m1,m2⟩:=aQq acc [] (by omega) (by simp) hx (by simp)
    refine ⟨(if m=true then 3 else 0,m),?_,?_,by cases m; exact okT0; exact okT3⟩
    · unfold rU; simp [f2,k,m2]
    · rw [List.append_nil] at m1
      unfold tH oQ; cases m <;> simp [f2,k,m1]
  · obtain ⟨m,m1,m2⟩:=aQq acc [] (by omega) (by simp) hx (by simp)
    refine ⟨(if m=true then 3 else 0,m),?_,?_,by cases m; exact okT0; exact okT3⟩
    · unfold rU; simp [f2,k,m2]
    · rw [List.append_nil] at m1
      unfold tH oQ; cases m <;> simp [f2,k,m1]
  · obtain ⟨p, hp⟩ : ∃ p, e.sub = [p] := by
      match hh:e.sub,f2 with
      | [p],_=>exact ⟨p,rfl⟩
    obtain ⟨r,r1,r2,r3⟩:=HP p (by rw [hp]; simp)
    have ip:idx e.sub 0=some p:=by rw [hp]; rfl
    rw [ip]
    simp only [f2,k,r1,r2,Option.bind_eq_bind,Option.bind_some]
    obtain ⟨out,ok⟩:=r
    cases ok with
    | false=>exact ⟨(0,false),by simp,by simp,okT0⟩
    | true =>
    by_cases ho:out.length=1
    case neg =>
      have h3:¬ (out.length:Int)=1:=by omega
      exact ⟨(0,false),by simp [h3],by simp [h3],okT0⟩
    obtain ⟨t,ht⟩:∃ t,out=[t]:=by
      match out,ho with
      | [t],_=>exact ⟨t,rfl⟩
    subst ht
    have iw:IntKind.wrap .i64 (0+1)=1:=rfl
    have i0:idx [t] 0=some t:=rfl
    have ea:appG 8 acc [t]=some (acc++[t]):=by unfold appG; rw [if_pos (by simp; omega)]
    obtain ⟨m,m1,m2⟩:=aQq acc [t] (by omega) (by simp) hx (by intro x hx2; exact r3 x hx2)
    have h8:¬ e.kind=1:=by omega
    refine ⟨(if m=true then 3 else 0,m),?_,?_,by cases m; exact okT0; exact okT3⟩
    · rw [iw,wE]
      unfold rU
      simp [f2,k,m2]
    · unfold tH oQ; cases m <;> simp [k,i0,ea,m1]
  · obtain ⟨p, hp⟩ : ∃ p, e.sub = [p] := by
      match hh:e.sub,f2 with
      | [p],_=>exact ⟨p,rfl⟩
    obtain ⟨r,r1,r2,r3⟩:=HP p (by rw [hp]; simp)
    have ip:idx e.sub 0=some p:=by rw [hp]; rfl
    rw [ip]
    simp only [f2,k,r1,r2,Option.bind_eq_bind,Option.bind_some]
    obtain ⟨out,ok⟩:=r
    cases ok with
    | false=>exact ⟨(0,false),by simp,by simp,okT0⟩
    | true =>
    have iw:IntKind.wrap .i64 (0+1)=1:=rfl
    have ha0:acc=[]:=List.eq_nil_of_length_eq_zero (by omega)
    subst ha0
    have hm:F6 []=some true:=by unfold F6; rw [xY]; simp
    refine ⟨(3,true),?_,?_,okT3⟩
    · simp only [iw]
      rw [wE]
      unfold rU D5
      simp [f2,k]
    · unfold tH oQ; simp [k,hm]
theorem bDu {α:Type} {l:List α} {n:Nat} (h:n≤l.length):pY l 0 (n:Int)=some (l.take n):=by
  unfold pY
  rw [if_pos (by omega)]
  simp
theorem bWh (c:aP) (env:List (List Int)) (p:aL) (hn:p.items.length≤1048576) (H:∀ e ∈ p.items,TyE c env e):∃ r:List Int×Bool,yD env p c [] 0=some r∧vQ env c p [] 0=some r∧∀ x ∈ r.1,okT x:=by
  have key:∀ i,i≤p.items.length→∀ acc:List Int,acc.length=i→(∀ x ∈ acc,okT x)→∃ r:List Int×Bool,yD env p c acc (i:Nat)=some r∧vQ env c p acc (i:Nat)=some r∧∀ x ∈ r.1,okT x:=by
    refine iI ?_ ?_
    · intro acc _ hx
      rw [yD,vQ]
      exact ⟨(acc,true),by simp,by simp,hx⟩
    · intro i hi ih acc ha hx
      obtain ⟨r,h1,h2,h3⟩:=H _ (List.getElem_mem hi)
      have ea:appG 8 acc [r.1]=some (acc++[r.1]):=by unfold appG; rw [if_pos (by simp; omega)]
      rw [yD,vQ]
      simp only [fO,hi,decide_true,if_true,eF hi,gG hi (by omega),h1,h2,ea,Option.bind_eq_bind,Option.bind_some]
      cases hr:r.2
      · exact ⟨([],false),by simp,by simp,by simp⟩
      · have:=ih (acc++[r.1]) (by simp [ha]) (by intro x hx2; rcases List.mem_append.1 hx2 with h | h; exact hx x h; simp at h; rw [h]; exact h3)
        simpa using this
  simpa using key 0 (by omega) [] rfl (by simp)
theorem bMi (c:aP) (env:List (List Int)) (p:aL) (hn:p.items.length≤1048576) (ho:p.order.length≤1048576) (H:∀ e ∈ p.items,TyE c env e) (HO:∀ k ∈ p.order,TyE c env k.expr):∃ r:List Int×Bool,zX env p c 0=some r∧H8 env c p 0=some r∧∀ x ∈ r.1,okT x:=by
  have key:∀ i,i≤p.order.length→∃ r:List Int×Bool,zX env p c (i:Nat)=some r∧H8 env c p (i:Nat)=some r∧∀ x ∈ r.1,okT x:=by
    refine iI ?_ ?_
    · rw [zX,H8]
      simpa using bWh c env p hn H
    · intro i hi ih
      obtain ⟨r,h1,h2,h3⟩:=HO _ (List.getElem_mem hi)
      rw [zX,H8]
      simp only [fO,hi,decide_true,if_true,eF hi,gG hi (by omega),h1,h2,Option.bind_eq_bind,Option.bind_some]
      cases hr:r.2
      · exact ⟨([],false),by simp,by simp,by simp⟩
      · simpa using ih
  simpa using key 0 (by omega)
theorem aOi {row:List Int} {env:List (List Int)} (hr:row.length≤4194304) (hx:∀ x ∈ row,okT x) (hv:jE env):jE (row::env):=by
  intro r h
  rcases List.mem_cons.1 h with rfl | h
  · exact ⟨hr,hx⟩
  · exact hv r h
theorem cL1 (c : aP) (hc : lW c) (env : List (List Int)) (hv : jE env) (hl : env.length < 4194304) (p : aL) (ho : p.on_.length ≤ 1048576) (hn : p.names.length ≤ 1048576) (ht : p.tables.length ≤ 1048576)
    (H:∀ env',jE env'→env'.length=env.length+1→(∀ l ∈ p.on_,∀ e ∈ l,TyE c env' e)∧(∀ e ∈ p.where_,TyE c env' e)∧(∀ k ∈ p.order,TyE c env' k.expr)∧(∀ e ∈ p.items,TyE c env' e)):PlE c env p:=by
  unfold PlE
  obtain ⟨f1,f2⟩:=bVg c hc p ho hn ht
  obtain ⟨r1,r2⟩:=aDy c hc p.tables ht
  rw [aAp,aBe,f1,f2,r1]
  simp only [Option.bind_eq_bind,Option.bind_some]
  cases hr:(jA c [] p.tables).2 with
  | false=>exact ⟨([],false),by simp,by simp,by simp⟩
  | true =>
  cases hP:aE8 p with
  | false=>exact ⟨([],false),by simp,by simp,by simp⟩
  | true =>
  cases hO:onB p with
  | false=>exact ⟨([],false),by simp,by simp,by simp⟩
  | true =>
  cases hN:p.names.all nmB with
  | false=>exact ⟨([],false),by simp,by simp,by simp⟩
  | true =>
  simp only [Bool.not_true,Bool.true_and,Bool.and_self,beq_self_eq_true,if_true,Bool.false_eq_true,if_false,Option.bind_some]
  have hB:p.tables.length≤3∧p.on_.length=p.tables.length∧p.where_.length≤1∧p.order.length≤12∧p.items.length≤12:=by
    unfold aE8 at hP
    simp only [Bool.and_eq_true,decide_eq_true_eq] at hP
    omega
  obtain ⟨b1,b2,b3,b4,b5⟩:=hB
  have hO1:∀ l ∈ p.on_,l.length≤1:=by
    unfold onB at hO
    simpa using hO
  obtain ⟨q1,q2⟩:=aLw c hc p.tables [] (by simp)
  simp only [List.length_nil] at q2
  obtain ⟨w1,w2⟩:=aMx (jA c [] p.tables).1 env (by omega)
  obtain ⟨-,m2,m3,m4⟩:=H ((jA c [] p.tables).1::env) (aOi (by omega) q1 hv) (by simp)
  have key:∀ i,i≤p.on_.length→∃ r:List Int×Bool,V4 env (jA c [] p.tables) p c (i:Nat)=some r∧Z8 env c p (i:Nat)=some r∧∀ x ∈ r.1,okT x:=by
    refine iI ?_ ?_
    · obtain ⟨t,t1,t2⟩:=aTn c ((jA c [] p.tables).1::env) p.where_ (by omega) m2
      rw [V4,Z8]
      simp only [fO,Nat.lt_irrefl,decide_false,Bool.false_eq_true,if_false,r2,w1,w2,t1,t2,Option.bind_eq_bind,Option.bind_some]
      cases t
      · exact ⟨([],false),by simp,by simp,by simp⟩
      · simpa using bMi c _ p (by omega) (by omega) m4 m3
    · intro i hi ih
      obtain ⟨a1,a2⟩:=aLw c hc (p.tables.take (i+1)) [] (by simp)
      simp only [List.length_nil] at a2
      obtain ⟨a3,a4⟩:=aDy c hc (p.tables.take (i+1)) (by rw [List.length_take]; omega)
      have a5:(p.tables.take (i+1)).length≤3:=by rw [List.length_take]; omega
      obtain ⟨a6,a7⟩:=aMx (jA c [] (p.tables.take (i+1))).1 env (by omega)
      obtain ⟨a8,-⟩:=H ((jA c [] (p.tables.take (i+1))).1::env) (aOi (by omega) a1 hv) (by simp)
      obtain ⟨t,t1,t2⟩:=aTn c _ p.on_[i] (by have:=hO1 _ (List.getElem_mem hi); omega) (a8 _ (List.getElem_mem hi))
      have hs:pY p.tables 0 ((i+1:Nat):Int)=some (p.tables.take (i+1)):=bDu (by omega)
      rw [V4,Z8]
      simp only [fO,hi,decide_true,if_true,eF hi,gG hi (by omega),hs,a3,a4,a6,a7,t1,t2,Option.bind_eq_bind,Option.bind_some]
      cases t
      · exact ⟨([],false),by simp,by simp,by simp⟩
      · simpa using ih
  simpa using key 0 (by omega)
theorem aR3 (c:aP) (hc:lW c):∀ n:Nat,(∀ (e:aA) (env:List (List Int)),aX e<n→n≤1048577→jE env→env.length+n≤4000000→TyE c env e)∧(∀ (p:aL) (env:List (List Int)),dU p<n→n≤1048577→jE env→env.length+n≤4000000→PlE c env p)
  | 0=>⟨fun _ _ h=>absurd h (by omega),fun _ _ h=>absurd h (by omega)⟩
  | n+1=>by
    obtain ⟨i1,i2⟩:=aR3 c hc n
    refine ⟨fun e env he hn hv hl=>?_,fun p env hp hn hv hl=>?_⟩
    · have:=aKh e
      exact cDl c env hv (by omega) e (by omega) (by omega) (fun k hk=>i1 k env (by have:=P8 hk; have:=List.length_pos_of_mem hk; omega) (by omega) hv (by omega)) fun p hp=>i2 p env (by have:=X9 hp; have:=List.length_pos_of_mem hp; omega) (by omega) hv (by omega)
    · have:=aJl p
      refine cL1 c hc env hv (by omega) p (by omega) (by omega) (by omega) fun env' hv' hl'=>⟨fun l hm e he=>i1 e env' ?_ (by omega) hv' (by omega),fun e he=>i1 e env' ?_ (by omega) hv' (by omega),fun k hk=>i1 k.expr env' ?_ (by omega) hv' (by omega),fun e he=>i1 e env' ?_ (by omega) hv' (by omega)⟩
      · have:=onZ hm he; have:=List.length_pos_of_mem he; omega
      · have:=aNb he; have:=List.length_pos_of_mem he; omega
      · have:=aK3 hk; have:=List.length_pos_of_mem hk; omega
      · have:=aKd he; have:=List.length_pos_of_mem he; omega
theorem bGu (c:aP) (hc:lW c) (e:aA) (env:List (List Int)) (hz:aX e≤1048576) (hv:jE env) (hl:env.length≤1000):TyE c env e:=(aR3 c hc (aX e+1)).1 e env (by omega) (by omega) hv (by omega)
theorem cF9 (c:aP) (hc:lW c) (p:aL) (env:List (List Int)) (hz:dU p≤1048576) (hv:jE env) (hl:env.length≤1000):PlE c env p:=(aR3 c hc (dU p+1)).2 p env (by omega) (by omega) hv (by omega)
theorem bH8 {c:aP} (h:aFr c):lW c:=by
  refine ⟨h.2,fun t ht=>?_⟩
  obtain ⟨i,hi,rfl⟩:=List.getElem_of_mem ht
  obtain ⟨t,h1,⟨h2,h3⟩,-⟩:=h.1 i hi
  rw [List.getElem?_eq_getElem hi] at h1
  simp only [Option.some.injEq] at h1; subst h1
  refine ⟨h3.2.2,fun x hx=>?_⟩
  unfold jS at hx
  obtain ⟨k,hk,rfl⟩:=List.mem_map.1 hx
  obtain ⟨j,hj,rfl⟩:=List.getElem_of_mem hk
  obtain ⟨k,k1,-,k2,-⟩:=h2 j hj
  rw [List.getElem?_eq_getElem hj] at k1
  simp only [Option.some.injEq] at k1; subst k1
  exact ⟨by omega,k2.2⟩
theorem summed {α γ : Type} {p : List α} {f : α → Option Int} {s : α → Int} {L : Int → Int → Option γ} {K : Int → Option γ} (hp : p.length ≤ 1048576)
    (hf:∀ y ∈ p,f y=some (s y)∧0≤s y)
    (hL:∀ (i:Nat) (x:Int),L x (i:Int)=if (decide ((i:Int)<(p.length:Int)))=true then ((idx p (i:Int))>>=fun y=>(f y)>>=fun z=>L (IntKind.wrap .i64 (x+z)) (IntKind.wrap .i64 ((i:Int)+1))) else K x) :
    ∀ x:Int,0≤x→x+(p.map s).sum≤9223372036854775807→L x 0=K (x+(p.map s).sum):=by
  have nn:∀ l:List α,(∀ y ∈ l,0≤s y)→0≤(l.map s).sum:=by
    intro l
    induction l with
    | nil=>intro _; simp
    | cons y l ih=>intro h; have h1:=h y (by simp); have h2:=ih fun z hz=>h z (by simp [hz]); simp only [List.map_cons,List.sum_cons]; omega
  have key:∀ i,i≤p.length→∀ x:Int,0≤x→x+((p.drop i).map s).sum≤9223372036854775807→L x (i:Nat)=K (x+((p.drop i).map s).sum):=by
    refine iI ?_ ?_
    · intro x _ _
      rw [hL]; simp
    · intro i hi ih x h0 hx
      obtain ⟨f1,f2⟩:=hf _ (List.getElem_mem hi)
      have hn:=nn (p.drop (i+1)) fun y hy=>(hf y (List.mem_of_mem_drop hy)).2
      rw [List.drop_eq_getElem_cons hi] at hx ⊢
      simp only [List.map_cons,List.sum_cons] at hx ⊢
      rw [hL,eF hi,gG hi (by omega)]
      simp only [fO,hi,decide_true,if_true,f1,Option.bind_eq_bind,Option.bind_some]
      rw [dN (by omega) (by omega),ih _ (by omega) (by omega),Int.add_assoc]
  intro x h0 hx
  simpa using key 0 (by omega) x h0 (by simpa using hx)
theorem aE1 {α:Type} {s:α→Int}:∀ l:List α,(∀ y ∈ l,0≤s y)→0≤(l.map s).sum
  | [],_=>by simp
  | y::l,h=>by have h1:=h y (by simp); have h2:=aE1 l fun z hz=>h z (by simp [hz]); simp only [List.map_cons,List.sum_cons]; omega
theorem wB {α:Type} {s:α→Int} {z:α→Nat}:∀ l:List α,(∀ y ∈ l,s y≤(z y:Int)+1)→(l.map s).sum≤(zL z l:Int)
  | [],_=>by simp [zL]
  | y::l,h=>by
    have h1:=h y (by simp); have h2:=wB l fun w hw=>h w (by simp [hw])
    unfold zL at *
    simp only [List.map_cons,List.sum_cons,List.length_cons] at *; omega
def mx {α:Type} (d:α→Int) (l:List α) (x:Int):Int:=l.foldl (fun b y=>if d y > b then d y else b) x
theorem bC1 {α:Type} {d:α→Int} {n:Int}:∀ (l:List α) (x:Int),mx d l x≤n↔x≤n∧∀ y ∈ l,d y≤n
  | [],x=>by simp [mx]
  | y::l,x=>by
    have:=bC1 (d:=d) (n:=n) l (if d y > x then d y else x)
    unfold mx at *
    rw [List.foldl_cons,this]
    simp only [List.mem_cons,forall_eq_or_imp]
    split
    · constructor
      · rintro ⟨a,b⟩; exact ⟨by omega,a,b⟩
      · rintro ⟨a,b,c⟩; exact ⟨b,c⟩
    · constructor
      · rintro ⟨a,b⟩; exact ⟨a,by omega,b⟩
      · rintro ⟨a,b,c⟩; exact ⟨a,c⟩
theorem aVs (a b:Int):tY a b=some (if b > a then b else a):=by
  unfold tY
  by_cases h:b<a
  · have:¬ a<b:=by omega
    simp [h,this]
  · by_cases h2:a<b
    · simp [h,h2]
    · have:a=b:=by omega
      subst this; simp
def nA (p:aL):List aA:=p.on_.flatMap (fun l=>l)++p.where_++p.order.flatMap (fun k=>[k.expr])++p.items
theorem aNs {α β:Type} {f:α→List β} {z:α→Nat}:∀ l:List α,(∀ y ∈ l,(f y).length≤z y+1)→(l.flatMap f).length≤zL z l
  | [],_=>by simp [zL]
  | y::l,h=>by
    have h1:=h y (by simp); have h2:=aNs l fun w hw=>h w (by simp [hw])
    unfold zL at *
    simp only [List.flatMap_cons,List.length_append,List.map_cons,List.sum_cons,List.length_cons] at *; omega
theorem aVr (l:List bO):(l.flatMap fun k=>[k.expr])=l.map fun k=>k.expr:=by
  induction l with
  | nil=>rfl
  | cons x l ih=>rw [List.flatMap_cons,ih]; rfl
theorem bCc (p:aL):(nA p).length≤dU p:=by
  have h1:=mI p
  have h2:=aNs (f:=fun l:List aA=>l) (z:=zL aX) p.on_ fun y _=>by have:=gM (z:=aX) y; omega
  have h3:=gM (z:=aX) p.where_
  have h4:=gM (z:=aX) p.items
  unfold nA
  simp only [List.length_append,aVr,List.length_map]
  omega
theorem bAd {p:aL} {e:aA} (h:e ∈ nA p):aX e<dU p:=by
  unfold nA at h
  simp only [List.mem_append,List.mem_flatMap,List.mem_singleton] at h
  rcases h with ((⟨l,h1,h2⟩ | h) | ⟨k,h1,rfl⟩) | h
  · have:=onZ h1 h2; have:=List.length_pos_of_mem h2; omega
  · have:=aNb h; have:=List.length_pos_of_mem h; omega
  · have:=aK3 h1; have:=List.length_pos_of_mem h1; omega
  · have:=aKd h; have:=List.length_pos_of_mem h; omega
theorem aNu {s:aA→Int}:∀ l:List (List aA),(∀ r ∈ l,∀ y ∈ r,s y≤(aX y:Int)+1)→((l.flatMap (fun r=>r)).map s).sum≤(zL (zL aX) l:Int)
  | [],_=>by simp [zL]
  | r::l,h=>by
    have h1:=wB (s:=s) (z:=aX) r (h r (by simp)); have h2:=aNu (s:=s) l fun w hw=>h w (by simp [hw])
    rw [List.flatMap_cons,List.map_append,List.sum_append]
    have:(zL (zL aX) (r::l):Int)=1+zL aX r+zL (zL aX) l:=by unfold zL; simp only [List.length_cons,List.map_cons,List.sum_cons]; omega
    omega
theorem cCt {s:aA→Int} (p:aL) (h:∀ y ∈ nA p,s y≤(aX y:Int)+1):((nA p).map s).sum≤(dU p:Int):=by
  have h1:=mI p
  unfold nA at *
  have a1:=aNu (s:=s) p.on_ fun r hr y hy=>h y (by simp only [List.mem_append,List.mem_flatMap]; exact .inl (.inl (.inl ⟨r,hr,hy⟩)))
  have a2:=wB (s:=s) (z:=aX) p.where_ fun y hy=>h y (by simp only [List.mem_append]; exact .inl (.inl (.inr hy)))
  have a3:=wB (s:=fun k:bO=>s k.expr) (z:=fun k=>aX k.expr) p.order fun y hy=>h y.expr (by rw [aVr]; simp only [List.mem_append,List.mem_map]; exact .inl (.inr ⟨y,hy,rfl⟩))
  have a4:=wB (s:=s) (z:=aX) p.items fun y hy=>h y (by simp only [List.mem_append]; exact .inr hy)
  rw [aVr]
  simp only [List.map_append,List.sum_append,List.map_map]
  have:(p.order.map (s ∘ fun k=>k.expr))=p.order.map fun k:bO=>s k.expr:=rfl
  rw [this]
  unfold zL at a3
  omega
theorem oI {l m:List aA} (h:l.length+m.length≤4194304):appG 120 l m=some (l++m):=oH (by omega)
theorem parts_eq (p:aL) (hz:dU p≤1048576):aBk p=some (nA p)∧aCe p=some (nA p):=by
  have hl:=aJl p
  have hp:=bCc p
  unfold nA at hp
  simp only [List.length_append] at hp
  have o1:∀ acc:List aA,acc.length+(p.order.flatMap fun k=>[k.expr]).length+p.items.length≤4194304→xG p acc 0=some (acc++(p.order.flatMap fun k=>[k.expr])++p.items):=by
    intro acc ha
    rw [gather (p:=p.order) (f:=fun k=>[k.expr]) (c:=4194304) (G:=fun y acc=>appG 120 acc ([y.expr]:List aA)) (L:=fun acc i=>xG p acc i) (K:=fun x=>(appG 120 x p.items)>>=fun (y7:List aA)=>some y7) (by omega) (fun y _ acc h=>oI h) (fun i acc=>by rw [xG]) acc (by omega)]
    rw [oI (by rw [List.length_append]; omega)]; rfl
  have o2:∀ acc:List aA,acc.length+(p.order.flatMap fun k=>[k.expr]).length+p.items.length≤4194304→xM p acc 0=some (acc++(p.order.flatMap fun k=>[k.expr])++p.items):=by
    intro acc ha
    rw [gather (p:=p.order) (f:=fun k=>[k.expr]) (c:=4194304) (G:=fun y acc=>appG 120 acc ([y.expr]:List aA)) (L:=fun acc i=>xM p acc i) (K:=fun x=>(appG 120 x p.items)>>=fun (y7:List aA)=>some y7) (by omega) (fun y _ acc h=>oI h) (fun i acc=>by rw [xM]) acc (by omega)]
    rw [oI (by rw [List.length_append]; omega)]; rfl
  constructor
  · rw [aBk,gather (p:=p.on_) (f:=fun l=>l) (c:=4194304) (G:=fun y acc=>appG 120 acc y) (L:=fun acc i=>Y2 p acc i) (K:=fun x=>(appG 120 x p.where_)>>=fun (y3:List aA)=>xG p y3 0) (by omega) (fun y _ acc h=>oI h) (fun i acc=>by rw [Y2]) [] (by simp only [List.length_nil]; omega)]
    rw [oI (by simp only [List.nil_append]; omega)]
    simp only [Option.bind_eq_bind,Option.bind_some,List.nil_append]
    rw [o1 _ (by simp only [List.length_append]; omega)]; rfl
  · rw [aCe,gather (p:=p.on_) (f:=fun l=>l) (c:=4194304) (G:=fun y acc=>appG 120 acc y) (L:=fun acc i=>X6 p acc i) (K:=fun x=>(appG 120 x p.where_)>>=fun (y3:List aA)=>xM p y3 0) (by omega) (fun y _ acc h=>oI h) (fun i acc=>by rw [X6]) [] (by simp only [List.length_nil]; omega)]
    rw [oI (by simp only [List.nil_append]; omega)]
    simp only [Option.bind_eq_bind,Option.bind_some,List.nil_append]
    rw [o2 _ (by simp only [List.length_append]; omega)]; rfl
def dE (e:aA):Int:=(A8 e).getD 0
def sE (e:aA):Int:=(vP e).getD 0
def dP (p:aL):Int:=(tC p).getD 0
def sP (p:aL):Int:=(tF p).getD 0
def DsE (e:aA):Prop:=A8 e=some (dE e)∧uK e=some (dE e)∧vP e=some (sE e)∧tQ e=some (sE e)∧0≤sE e∧sE e≤(aX e:Int)+1
def DsP (p:aL):Prop:=tC p=some (dP p)∧Z0 p=some (dP p)∧tF p=some (sP p)∧Y9 p=some (sP p)∧0≤sP p∧sP p≤(dU p:Int)
theorem aSk (l:List aA) (hl:l.length≤1048576) (H:∀ e ∈ l,DsE e) (x:Int):U9 l x 0=some (mx dE l x)∧zQ l x 0=some (mx dE l x):=by
  constructor
  · exact folded (p:=l) (g:=fun y b=>(A8 y)>>=fun z=>some (if z > b then z else b)) (h:=fun y b=>if dE y > b then dE y else b) (L:=fun b i=>U9 l b i) (K:=fun b=>some b) hl (fun y hy b=>by rw [(H y hy).1]; rfl) (fun i b=>by rw [U9]; simp only [Option.bind_eq_bind,Option.bind_assoc,Option.bind_some]) x
  · exact folded (p:=l) (g:=fun y b=>(uK y)>>=fun z=>tY b z) (h:=fun y b=>if dE y > b then dE y else b) (L:=fun b i=>zQ l b i) (K:=fun b=>some b) hl (fun y hy b=>by rw [(H y hy).2.1]; exact aVs _ _) (fun i b=>by rw [zQ]; simp only [Option.bind_eq_bind,Option.bind_assoc]) x
theorem aPt (l:List aA) (hl:l.length≤1048576) (hz:(l.map sE).sum≤4194304) (H:∀ e ∈ l,DsE e):D9 l=some ((l.map sE).sum)∧zJ l 0 0=some ((l.map sE).sum):=by
  constructor
  · rw [D9,summed (p:=l) (f:=vP) (s:=sE) (L:=fun x i=>aAc l x i) (K:=fun x=>some x) hl (fun y hy=>⟨(H y hy).2.2.1,(H y hy).2.2.2.2.1⟩) (fun i x=>by rw [aAc]) 0 (by omega) (by omega)]
    simp
  · rw [summed (p:=l) (f:=tQ) (s:=sE) (L:=fun x i=>zJ l x i) (K:=fun x=>some x) hl (fun y hy=>⟨(H y hy).2.2.2.1,(H y hy).2.2.2.2.1⟩) (fun i x=>by rw [zJ]) 0 (by omega) (by omega)]
    simp
theorem cIp (p:aL) (hz:dU p≤1048576) (H:∀ e ∈ nA p,DsE e):DsP p:=by
  obtain ⟨p1,p2⟩:=parts_eq p hz
  have hl:=bCc p
  have hs:=cCt (s:=sE) p fun y hy=>(H y hy).2.2.2.2.2
  have hn:=aE1 (s:=sE) (nA p) fun y hy=>(H y hy).2.2.2.2.1
  obtain ⟨a1,a2⟩:=aSk _ (by omega) H 0
  obtain ⟨b1,b2⟩:=aPt _ (by omega) (by omega) H
  have e1:tC p=some (mx dE (nA p) 0):=by rw [tC,p1]; simp only [Option.bind_eq_bind,Option.bind_some,wN,a1]
  have e2:tF p=some (((nA p).map sE).sum):=by rw [tF,p1]; simp only [Option.bind_eq_bind,Option.bind_some,b1]
  have d1:dP p=mx dE (nA p) 0:=by unfold dP; rw [e1]; rfl
  have d2:sP p=((nA p).map sE).sum:=by unfold sP; rw [e2]; rfl
  unfold DsP
  rw [d1,d2]
  exact ⟨e1,by rw [Z0,p2]; exact a2,e2,by rw [Y9,p2]; exact b2,hn,hs⟩
theorem bUo (e:aA) (hz:aX e≤1048576) (HK:∀ k ∈ e.kids,DsE k) (HS:∀ p ∈ e.sub,DsP p):DsE e:=by
  have hl:=aKh e
  have hzz:=aGi e
  have s1:=wB (s:=sE) (z:=aX) e.kids fun y hy=>(HK y hy).2.2.2.2.2
  have s2:=wB (s:=sP) (z:=dU) e.sub fun y hy=>by have:=(HS y hy).2.2.2.2.2; omega
  have n1:=aE1 (s:=sE) e.kids fun y hy=>(HK y hy).2.2.2.2.1
  have n2:=aE1 (s:=sP) e.sub fun y hy=>(HS y hy).2.2.2.2.1
  obtain ⟨a1,-⟩:=aSk e.kids (by omega) HK 0
  obtain ⟨b1,-⟩:=aPt e.kids (by omega) (by omega) HK
  have e1:A8 e=some (IntKind.wrap .i64 (1+mx dP e.sub (mx dE e.kids 0))):=by
    rw [A8,wN,a1]
    exact folded (p:=e.sub) (g:=fun y b=>(tC y)>>=fun z=>some (if z > b then z else b)) (h:=fun y b=>if dP y > b then dP y else b) (L:=fun b i=>aBj e b i) (K:=fun b=>some (IntKind.wrap .i64 (1+b))) (by omega) (fun y hy b=>by rw [(HS y hy).1]; rfl) (fun i b=>by rw [aBj]; simp only [Option.bind_eq_bind,Option.bind_assoc,Option.bind_some]) _
  have e2:uK e=some (IntKind.wrap .i64 (1+mx dP e.sub (mx dE e.kids 0))):=by
    rw [uK,folded (p:=e.kids) (g:=fun y b=>(uK y)>>=fun z=>tY b z) (h:=fun y b=>if dE y > b then dE y else b) (L:=fun b i=>aB0 e b i) (K:=fun b=>Y0 e b 0) (by omega) (fun y hy b=>by rw [(HK y hy).2.1]; exact aVs _ _) (fun i b=>by rw [aB0]; simp only [Option.bind_eq_bind,Option.bind_assoc]) 0]
    rw [Int.add_comm 1]
    exact folded (p:=e.sub) (g:=fun y b=>(Z0 y)>>=fun z=>tY b z) (h:=fun y b=>if dP y > b then dP y else b) (L:=fun b i=>Y0 e b i) (K:=fun b=>some (IntKind.wrap .i64 (b+1))) (by omega) (fun y hy b=>by rw [(HS y hy).2.1]; exact aVs _ _) (fun i b=>by rw [Y0]; simp only [Option.bind_eq_bind,Option.bind_assoc]) _
  have e3:vP e=some (1+(e.kids.map sE).sum+(e.sub.map sP).sum):=by
    rw [vP,b1]
    simp only [Option.bind_eq_bind,Option.bind_some]
    rw [dN (by omega) (by omega)]
    exact summed (p:=e.sub) (f:=tF) (s:=sP) (L:=fun x i=>aAq e x i) (K:=fun x=>some x) (by omega) (fun y hy=>⟨(HS y hy).2.2.1,(HS y hy).2.2.2.2.1⟩) (fun i x=>by rw [aAq]) _ (by omega) (by omega)
  have e4:tQ e=some (1+(e.kids.map sE).sum+(e.sub.map sP).sum):=by
    rw [tQ,summed (p:=e.kids) (f:=tQ) (s:=sE) (L:=fun x i=>aAy e x i) (K:=fun x=>R7 e x 0) (by omega) (fun y hy=>⟨(HK y hy).2.2.2.1,(HK y hy).2.2.2.2.1⟩) (fun i x=>by rw [aAy]) 1 (by omega) (by omega)]
    exact summed (p:=e.sub) (f:=Y9) (s:=sP) (L:=fun x i=>R7 e x i) (K:=fun x=>some x) (by omega) (fun y hy=>⟨(HS y hy).2.2.2.1,(HS y hy).2.2.2.2.1⟩) (fun i x=>by rw [R7]) _ (by omega) (by omega)
  have d1:dE e=IntKind.wrap .i64 (1+mx dP e.sub (mx dE e.kids 0)):=by unfold dE; rw [e1]; rfl
  have d2:sE e=1+(e.kids.map sE).sum+(e.sub.map sP).sum:=by
    have:sE e=(vP e).getD 0:=rfl
    rw [this,e3]; rfl
  unfold DsE
  rw [← d1] at e1 e2
  rw [← d2] at e3 e4
  exact ⟨e1,e2,e3,e4,by omega,by omega⟩
theorem aSh:∀ n:Nat,(∀ e:aA,aX e<n→aX e≤1048576→DsE e)∧(∀ p:aL,dU p<n→dU p≤1048576→DsP p)
  | 0=>⟨fun _ h=>absurd h (by omega),fun _ h=>absurd h (by omega)⟩
  | n+1=>by
    obtain ⟨i1,i2⟩:=aSh n
    exact ⟨fun e he hz=>bUo e hz (fun k hk=>i1 k (by have:=P8 hk; have:=List.length_pos_of_mem hk; omega) (by have:=P8 hk; omega)) fun p hp=>i2 p (by have:=X9 hp; have:=List.length_pos_of_mem hp; omega) (by have:=X9 hp; omega),
      fun p hp hz=>cIp p hz fun e he=>i1 e (by have:=bAd he; omega) (by have:=bAd he; omega)⟩
theorem bRz (e:aA) (hz:aX e≤1048576):DsE e:=(aSh _).1 e (Nat.lt_succ_self _) hz
theorem bSu (p:aL) (hz:dU p≤1048576):DsP p:=(aSh _).2 p (Nat.lt_succ_self _) hz
theorem fits_eq (c:aP) (hc:lW c) (env:List (List Int)) (hv:jE env) (hl:env.length≤1000) (e:aA) (hz:aX e≤1048576) (ty:Int) (ht:okT ty):∃ b,aBv c env e ty=some b∧aC5 c env e ty=some b:=by
  obtain ⟨r,h1,h2,h3⟩:=bGu c hc e env hz hv hl
  obtain ⟨m,m1,m2⟩:=aTl h3 ht
  unfold aBv aC5
  simp only [h1,h2,aVn,m1,Option.bind_eq_bind,Option.bind_some]
  cases r.2
  · exact ⟨false,by simp,by simp⟩
  · exact ⟨m.2,by simp,by simp⟩
def aCg (p:bC):Bool:=decide (p.cols.length=0)&&decide (p.sets.length=0)&&decide (p.where_.length=0)
theorem cF0 (c : aP) (hc : lW c) (ts : List Int) (hts : ∀ x ∈ ts, okT x) (hl : ts.length ≤ 4) (p : bC) (hr : p.rows.length ≤ 1048576) (h1 : p.cols.length ≤ 1048576) (h2 : p.sets.length ≤ 1048576) (h3 : p.where_.length ≤ 1048576) (hz : ∀ r ∈ p.rows, ∀ e ∈ r, aX e ≤ 1048576) :
    ∃ b,I8 ts p.rows c 0=some b∧yZ ts c p 0=some (b&&aCg p):=by
  have key:∀ i,i≤p.rows.length→∃ b,I8 ts p.rows c (i:Nat)=some b∧yZ ts c p (i:Nat)=some (b&&aCg p):=by
    refine iI ?_ ?_
    · rw [I8,yZ]
      unfold fI aCg
      simp only [fO,Nat.lt_irrefl,decide_false,Bool.false_eq_true,if_false,Option.bind_eq_bind,Option.bind_some]
      rw [dN (n:=(p.cols.length:Int)+(p.sets.length:Int)) (by omega) (by omega),dN (by omega) (by omega)]
      refine ⟨_,rfl,?_⟩
      have e:decide ((p.cols.length:Int)+(p.sets.length:Int)+(p.where_.length:Int)=0)=(decide (p.cols.length=0)&&decide (p.sets.length=0)&&decide (p.where_.length=0)):=by
        rw [Bool.eq_iff_iff]; simp only [Bool.and_eq_true,decide_eq_true_eq]; omega
      rw [e]
      generalize (decide (p.cols.length=0)&&decide (p.sets.length=0)&&decide (p.where_.length=0))=x
      by_cases q1:(1:Int)≤(p.rows.length:Int)
      · by_cases q2:(p.rows.length:Int)≤5 <;> cases x <;> simp [q1,q2]
      · cases x <;> simp [q1]
    · intro i hi ih
      rw [I8,yZ]
      have hm:=List.getElem_mem hi
      simp only [fO,hi,decide_true,if_true,eF hi,Option.bind_eq_bind,Option.bind_some]
      by_cases hq:p.rows[i].length=ts.length
      case neg =>
        have:¬ (p.rows[i].length:Int)=(ts.length:Int):=by omega
        exact ⟨false,by simp [this],by simp [this]⟩
      have hq':(p.rows[i].length:Int)=(ts.length:Int):=by omega
      simp only [hq',decide_true,Bool.not_true,Bool.false_eq_true,if_false]
      have inner:∀ k,k≤ts.length→∃ b,K3 ts p.rows (i:Int) p.rows[i] c (k:Nat)=some b∧K9 ts (i:Int) c p (k:Nat)=some (b&&aCg p):=by
        refine iI ?_ ?_
        · rw [K3,K9]
          simp only [hq',fO,Nat.lt_irrefl,decide_false,Bool.false_eq_true,if_false,gG hi (by omega)]
          exact ih
        · intro k hk ik
          have hk2:k<p.rows[i].length:=by omega
          obtain ⟨b,b1,b2⟩:=fits_eq c hc [] (by intro r hr; simp at hr) (by simp) (p.rows[i][k]) (hz _ hm _ (List.getElem_mem hk2)) ts[k] (hts _ (List.getElem_mem hk))
          rw [K3,K9]
          simp only [hq',fO,hk,decide_true,if_true,eF hi,eF hk,eF hk2,b1,b2,gG hk (by omega),Option.bind_eq_bind,Option.bind_some]
          cases b
          · exact ⟨false,by simp,by simp⟩
          · simpa using ik
      simpa using inner 0 (by omega)
  simpa using key 0 (by omega)
theorem bY8 (l:List Int) (x:Int) (hl:l.length≤1048576):aFj l x=some (l.contains x):=by
  have key:∀ i,i≤l.length→∃ k,H9 l x (i:Nat)=some k∧decide (0≤k)=(l.drop i).contains x:=by
    refine iI ?_ ?_
    · rw [H9]
      exact ⟨-1,by simp,by simp⟩
    · intro i hi ih
      rw [H9,List.drop_eq_getElem_cons hi,List.contains_cons]
      simp only [fO,hi,decide_true,if_true,eF hi,gG hi (by omega),Option.bind_eq_bind,Option.bind_some]
      by_cases h:x=l[i]
      · exact ⟨(i:Int),by simp [h],by simp [h]⟩
      · have hb:(x==l[i])=false:=by simpa using h
        rw [hb,Bool.false_or]
        simpa only [h,decide_false,Bool.false_eq_true,if_false] using ih
  obtain ⟨k,h1,h2⟩:=key 0 (by omega)
  rw [show ((0:Nat):Int)=0 from rfl] at h1
  rw [aFj,aGg,h1]
  simpa using h2
theorem bXb (l:List Int) (x:Int) (hl:l.length≤1048576):aD8 l x=some (l.contains x):=by
  have key:∀ i,i≤l.length→I6 l x (i:Nat)=some ((l.drop i).contains x):=by
    refine iI ?_ ?_
    · rw [I6]; simp
    · intro i hi ih
      rw [I6,List.drop_eq_getElem_cons hi,List.contains_cons]
      simp only [fO,hi,decide_true,if_true,eF hi,gG hi (by omega),Option.bind_eq_bind,Option.bind_some]
      by_cases h:l[i]=x
      · simp [h]
      · have hb:(x==l[i])=false:=by simp; exact fun e=>h e.symm
        rw [hb,Bool.false_or]
        simpa only [h,decide_false,Bool.false_eq_true,if_false] using ih
  simpa [aD8] using key 0 (by omega)
theorem bYw (c : aP) (hc : lW c) (ts : List Int) (hts : ∀ x ∈ ts, okT x) (hl : ts.length ≤ 4) (p : bC) (h1 : p.cols.length ≤ 1048576) (h2 : p.sets.length = p.cols.length) (hz : ∀ e ∈ p.sets, aX e ≤ 1048576) :
    ∃ b,xV ts p c 0=some b∧xQ [ts] ts c p 0=some b∧(b=true→p.cols.length≤4):=by
  have hv:jE [ts]:=by
    intro r hr
    simp only [List.mem_singleton] at hr
    subst hr
    exact ⟨by omega,hts⟩
  have key:∀ i,i≤p.cols.length→∃ b,xV ts p c (i:Nat)=some b∧xQ [ts] ts c p (i:Nat)=some b∧(b=true→∀ k (hk:k<p.cols.length),i≤k→(0≤p.cols[k]∧p.cols[k]<(ts.length:Int))∧(p.cols.take k).contains p.cols[k]=false):=by
    refine iI ?_ ?_
    · rw [xV,xQ]
      exact ⟨true,by simp,by simp,fun _ k hk h=>absurd hk (by omega)⟩
    · intro i hi ih
      have hi2:i<p.sets.length:=by omega
      rw [xV,xQ]
      unfold fI
      have hw:IntKind.wrap .i64 ((ts.length:Int) - 1)=(ts.length:Int) - 1:=dN (by omega) (by omega)
      have ht1:(p.cols.take i).length≤1048576:=by rw [List.length_take]; omega
      have ht2:=bY8 (p.cols.take i) p.cols[i] ht1
      have ht3:=bXb (p.cols.take i) p.cols[i] ht1
      have ht4:=bDu (l:=p.cols) (n:=i) (by omega)
      simp only [fO,hi,decide_true,if_true,eF hi,eF hi2,gG hi (by omega),hw,ht4,Option.bind_eq_bind,Option.bind_some]
      by_cases u0:0≤p.cols[i]
      case neg => exact ⟨false, by have : p.cols[i] < 0 := by omega
                                   simp [this],by simp [u0],by simp⟩
      by_cases u1:p.cols[i]<(ts.length:Int)
      case neg => exact ⟨false, by have a : (ts.length : Int) ≤ p.cols[i] := by omega
                                   have b:¬ p.cols[i]<0:=by omega
                                   simp [a, b], by have : ¬ p.cols[i] ≤ (ts.length : Int) - 1 := by omega
                                                   simp [u0,this],by simp⟩
      have a1:¬ p.cols[i]<0:=by omega
      have a2:¬ (ts.length:Int)≤p.cols[i]:=by omega
      have a3:p.cols[i]≤(ts.length:Int) - 1:=by omega
      have hj:p.cols[i].toNat<ts.length:=by omega
      have hx:idx ts p.cols[i]=some ts[p.cols[i].toNat]:=by
        have:=eF hj
        rwa [show ((p.cols[i].toNat:Nat):Int)=p.cols[i] by omega] at this
      obtain ⟨b,b1,b2⟩:=fits_eq c hc [ts] hv (by simp) p.sets[i] (hz _ (List.getElem_mem hi2)) ts[p.cols[i].toNat] (hts _ (List.getElem_mem hj))
      simp only [a1,a2,a3,u0,hx,ht2,ht3,b1,b2,decide_true,decide_false,if_true,if_false,Bool.false_eq_true,Bool.not_true,beq_self_eq_true,Bool.and_self,Option.bind_some]
      cases ht:(p.cols.take i).contains p.cols[i] with
      | true=>exact ⟨false,rfl,rfl,fun h=>by simp at h⟩
      | false =>
      simp only [beq_self_eq_true,Bool.and_self,if_true,Bool.false_eq_true,if_false,hx,b1,b2,Option.bind_some]
      cases b with
      | false=>exact ⟨false,rfl,rfl,fun h=>by simp at h⟩
      | true =>
      obtain ⟨b,c1,c2,c3⟩:=ih
      refine ⟨b,c1,c2,fun hb k hk hik=>?_⟩
      by_cases hki:k=i
      · subst hki; exact ⟨⟨u0,u1⟩,ht⟩
      · exact c3 hb k hk (by omega)
  obtain ⟨b,h1',h2',h3'⟩:=key 0 (by omega)
  refine ⟨b,h1',h2',fun hb=>?_⟩
  have hg:=h3' hb
  have hnd:p.cols.Nodup:=by
    rw [List.nodup_iff_pairwise_ne,List.pairwise_iff_getElem]
    intro i j hi hj hij h
    have:=(hg j hj (by omega)).2
    rw [List.contains_eq_mem,decide_eq_false_iff_not] at this
    refine this ?_
    rw [List.mem_take_iff_getElem]
    exact ⟨i,by omega,h⟩
  have hsub:p.cols ⊆ (List.range ts.length).map fun n:Nat=>(n:Int):=by
    intro x hx
    obtain ⟨k,hk,rfl⟩:=List.getElem_of_mem hx
    obtain ⟨⟨g1,g2⟩,-⟩:=hg k hk (by omega)
    rw [List.mem_map]
    exact ⟨p.cols[k].toNat,by rw [List.mem_range]; omega,by omega⟩
  have:=hnd.length_le_of_subset hsub
  simp only [List.length_map,List.length_range] at this
  omega
def aD7 (p:aL):Bool:=decide (p.tables=[])&&decide (p.on_.length=0)&&decide (p.where_.length=0)&&decide (p.order.length=0)&&decide (p.items.length=0)&&decide (p.names=[])&&(p.distinct==false)&&decide (p.limit=0)
theorem cHs (p:aL):aCl p=some (aD7 p)∧uH p (aL.mk ([]:List Int) ([]:List (List aA)) ([]:List aA) ([]:List bO) ([]:List aA) ([]:List (List UInt8)) false 0)=some (aD7 p):=by
  have i1:∀ l:List Int,zI l []=some (decide (l=[])):=by
    intro l; unfold zI; rw [G8]; cases l <;> simp <;> omega
  have i2:∀ l:List (List aA),zZ l []=some (decide (l.length=0)):=by
    intro l; rw [zZ,W9]; cases l <;> simp <;> omega
  have i3:∀ l:List aA,oV l []=some (decide (l.length=0)):=by
    intro l; rw [oV,aA3,R9]; cases l <;> simp <;> omega
  have i4:∀ l:List bO,N7 l []=some (decide (l.length=0)):=by
    intro l; rw [N7,Q9]; cases l <;> simp <;> omega
  have i5:∀ l:List (List UInt8),Q4 l []=some (decide (l=[])):=by
    intro l; unfold Q4; rw [zO]; cases l <;> simp <;> omega
  have s1:∀ l:List Int,H6 l []=some (decide (l=[])):=by
    intro l; unfold H6; rw [zW]; cases l <;> simp <;> omega
  have s3:∀ l:List aA,nV l []=some (decide (l.length=0)):=by
    intro l; rw [nV,Y3]; cases l <;> simp <;> omega
  have s5:∀ l:List (List UInt8),O8 l []=some (decide (l=[])):=by
    intro l; unfold O8; rw [zR]; cases l <;> simp <;> omega
  constructor
  · unfold aCl
    rw [vY]
    unfold aD7
    simp only [i1,i2,i3,i4,i5,Option.bind_eq_bind,Option.bind_some]
    generalize decide (p.tables=[])=b1
    generalize decide (p.on_.length=0)=b2
    generalize decide (p.where_.length=0)=b3
    generalize decide (p.order.length=0)=b4
    generalize decide (p.items.length=0)=b5
    generalize decide (p.names=[])=b6
    cases b1 <;> cases b2 <;> cases b3 <;> cases b4 <;> cases b5 <;> cases b6 <;> simp
  · rw [uH,F4,uN]
    unfold aD7
    simp only [s1,s3,s5,Option.bind_eq_bind,Option.bind_some]
    have hon:decide ((p.on_.length:Int)=(([]:List (List aA)).length:Int))=decide (p.on_.length=0):=by simp <;> omega
    have hor:decide ((p.order.length:Int)=(([]:List bO).length:Int))=decide (p.order.length=0):=by simp <;> omega
    rw [hon,hor]
    by_cases c2:p.on_.length=0
    case neg => 
      generalize decide (p.tables=[])=b1
      generalize decide (p.where_.length=0)=b3
      generalize decide (p.order.length=0)=b4
      generalize decide (p.items.length=0)=b5
      generalize decide (p.names=[])=b6
      generalize p.distinct=b7
      by_cases hlm:p.limit=0 <;> simp [c2,hlm] <;> cases b7 <;> cases b1 <;> simp
    by_cases c4:p.order.length=0
    case neg =>
      generalize decide (p.tables=[])=b1
      generalize decide (p.where_.length=0)=b3
      generalize decide (p.items.length=0)=b5
      generalize decide (p.names=[])=b6
      generalize p.distinct=b7
      by_cases hlm:p.limit=0 <;> simp [c2,c4,hlm] <;> cases b7 <;> cases b1 <;> cases b3 <;> simp
    simp only [c2,c4]
    generalize decide (p.tables=[])=b1
    generalize decide (p.where_.length=0)=b3
    generalize decide (p.items.length=0)=b5
    generalize decide (p.names=[])=b6
    generalize p.distinct=b7
    by_cases hlm:p.limit=0 <;> simp [hlm] <;> cases b7 <;> cases b1 <;> cases b3 <;> cases b5 <;> cases b6 <;> simp
theorem cC4 (c:aP) (hs:E9 c) (p:aL) (hz:dU p≤1048576):∃ b,aDq c p=some b∧aDf c p=some b:=by
  obtain ⟨a,a1,a2⟩:=bGi c hs
  obtain ⟨b,b1,b2⟩:=bAu c hs
  have hab:a=b:=by rw [Bool.eq_iff_iff,a2,b2]
  subst hab
  obtain ⟨d1,d2,d3,d4,-⟩:=bSu p hz
  unfold aDq aDf aAl
  simp only [a1,b1,d1,d2,d3,d4,Option.bind_eq_bind,Option.bind_some]
  cases a with
  | false=>exact ⟨false,by simp,by simp⟩
  | true =>
  obtain ⟨r,r1,r2,r3⟩:=cF9 c (bH8 (a2.1 rfl)) p [] hz (by intro r hr; simp at hr) (by simp)
  have q1:decide (24<dP p)=!decide (dP p≤24):=by rw [Bool.eq_iff_iff]; simp only [Bool.not_eq_true',decide_eq_true_eq,decide_eq_false_iff_not]; omega
  have q2:decide (200<sP p)=!decide (sP p≤200):=by rw [Bool.eq_iff_iff]; simp only [Bool.not_eq_true',decide_eq_true_eq,decide_eq_false_iff_not]; omega
  rw [r1,r2]
  simp only [q1,Bool.not_true,beq_self_eq_true,Bool.and_self,if_true,if_false,Bool.false_eq_true,Option.bind_some]
  generalize decide (dP p≤24)=x
  cases x with
  | false=>exact ⟨false,by simp,by simp⟩
  | true =>
  simp only [Bool.not_true,beq_self_eq_true,Bool.and_self,if_true,if_false,Bool.false_eq_true,Option.bind_some,q2]
  generalize decide (sP p≤200)=y
  cases y with
  | false=>exact ⟨false,by simp,by simp⟩
  | true=>exact ⟨r.2,by simp,by simp⟩
def oD (p:bC):List aA:=p.rows.flatMap (fun l=>l)++p.sets++p.where_
theorem nK (p:bC):lH p=dU p.plan+zL (zL aX) p.rows+zL z0 p.cols+zL aX p.sets+zL aX p.where_:=by
  obtain ⟨a0,a1,a2,a3,a4,a5,a6⟩:=p
  simp only [lH]
theorem bEt (p:bC):(oD p).length≤lH p:=by
  have h1:=nK p
  have h2:=aNs (f:=fun l:List aA=>l) (z:=zL aX) p.rows fun y _=>by have:=gM (z:=aX) y; omega
  have h3:=gM (z:=aX) p.where_
  have h4:=gM (z:=aX) p.sets
  unfold oD
  simp only [List.length_append]
  omega
theorem cG1 {p:bC} {e:aA} (h:e ∈ oD p):aX e≤lH p:=by
  have hz:=nK p
  unfold oD at h
  simp only [List.mem_append,List.mem_flatMap] at h
  rcases h with (⟨l,h1,h2⟩ | h) | h
  · have:=jD (z:=zL aX) h1; have:=jD (z:=aX) h2; omega
  · have:=jD (z:=aX) h; omega
  · have:=jD (z:=aX) h; omega
theorem cLp {s:aA→Int} (p:bC) (h:∀ y ∈ oD p,s y≤(aX y:Int)+1):((oD p).map s).sum≤(lH p:Int):=by
  have h1:=nK p
  unfold oD at *
  have a1:=aNu (s:=s) p.rows fun r hr y hy=>h y (by simp only [List.mem_append,List.mem_flatMap]; exact .inl (.inl ⟨r,hr,hy⟩))
  have a2:=wB (s:=s) (z:=aX) p.sets fun y hy=>h y (by simp only [List.mem_append]; exact .inl (.inr hy))
  have a3:=wB (s:=s) (z:=aX) p.where_ fun y hy=>h y (by simp only [List.mem_append]; exact .inr hy)
  simp only [List.map_append,List.sum_append]
  omega
theorem bG5 (p:bC) (hz:lH p≤1048576):aC3 p=some (oD p)∧aDa p=some (oD p):=by
  have hp:=bEt p
  unfold oD at hp
  simp only [List.length_append] at hp
  have hr:=nK p
  have hr2:=gM (z:=zL aX) p.rows
  constructor
  · rw [aC3,gather (p:=p.rows) (f:=fun l=>l) (c:=4194304) (G:=fun y acc=>appG 120 acc y) (L:=fun acc i=>X3 p acc i) (K:=fun x=>(appG 120 x p.sets)>>=fun (y3:List aA)=>(appG 120 y3 p.where_)>>=fun (y4:List aA)=>some y4) (by omega) (fun y _ acc h=>oI h) (fun i acc=>by rw [X3]) [] (by simp only [List.length_nil]; omega)]
    rw [oI (by simp only [List.nil_append]; omega)]
    simp only [Option.bind_eq_bind,Option.bind_some,List.nil_append]
    rw [oI (by simp only [List.length_append]; omega)]; rfl
  · rw [aDa,gather (p:=p.rows) (f:=fun l=>l) (c:=4194304) (G:=fun y acc=>appG 120 acc y) (L:=fun acc i=>O7 p acc i) (K:=fun x=>(appG 120 x p.sets)>>=fun (y3:List aA)=>(appG 120 y3 p.where_)>>=fun (y4:List aA)=>some y4) (by omega) (fun y _ acc h=>oI h) (fun i acc=>by rw [O7]) [] (by simp only [List.length_nil]; omega)]
    rw [oI (by simp only [List.nil_append]; omega)]
    simp only [Option.bind_eq_bind,Option.bind_some,List.nil_append]
    rw [oI (by simp only [List.length_append]; omega)]; rfl
theorem bJa (p:bC) (hz:lH p≤1048576):∃ (d s:Int) (b:Bool),wN (oD p)=some d∧D9 (oD p)=some s∧aAl d s=some b∧aDh p=some b:=by
  have hl:=bEt p
  have H:∀ e ∈ oD p,DsE e:=fun e he=>bRz e (by have:=cG1 he; omega)
  have hs:=cLp (s:=sE) p fun y hy=>(H y hy).2.2.2.2.2
  obtain ⟨a1,-⟩:=aSk _ (by omega) H 0
  obtain ⟨b1,-⟩:=aPt _ (by omega) (by omega) H
  refine ⟨_,_,_,(by rw [wN,a1]),b1,rfl,?_⟩
  rw [aDh,(bG5 p hz).2]
  simp only [Option.bind_eq_bind,Option.bind_some]
  generalize oD p=l at *
  have nn:∀ i,0≤((l.drop i).map sE).sum:=fun i=>aE1 _ fun y hy=>(H y (List.mem_of_mem_drop hy)).2.2.2.2.1
  have key:∀ i,i≤l.length→∀ x:Int,0≤x→x+((l.drop i).map sE).sum≤4194304→xB l x (i:Nat)=some (decide (mx dE (l.drop i) 0≤24)&&decide (x+((l.drop i).map sE).sum≤200)):=by
    refine iI ?_ ?_
    · intro x _ _
      rw [xB]; simp [mx]
    · intro i hi ih x h0 hx
      have hn:=nn (i+1)
      obtain ⟨e1,e2,e3,e4,e5,e6⟩:=H _ (List.getElem_mem hi)
      rw [List.drop_eq_getElem_cons hi] at hx ⊢
      simp only [List.map_cons,List.sum_cons] at hx ⊢
      rw [xB]
      simp only [fO,hi,decide_true,if_true,eF hi,gG hi (by omega),e2,e4,Option.bind_eq_bind,Option.bind_some]
      rw [dN (n:=x+sE l[i]) (by omega) (by omega),ih _ (by omega) (by omega)]
      have hm:decide (mx dE (l[i]::l.drop (i+1)) 0≤24)=(decide (dE l[i]≤24)&&decide (mx dE (l.drop (i+1)) 0≤24)):=by
        rw [Bool.eq_iff_iff]
        simp only [Bool.and_eq_true,decide_eq_true_eq,bC1,List.mem_cons,forall_eq_or_imp]
        constructor
        · rintro ⟨a,b,c⟩; exact ⟨b,a,c⟩
        · rintro ⟨a,b,c⟩; exact ⟨b,a,c⟩
      rw [hm,Int.add_assoc]
      by_cases hd:dE l[i]≤24
      · have:¬ 24<dE l[i]:=by omega
        simp [hd,this]
      · have:24<dE l[i]:=by omega
        simp [hd,this]
  have:=key 0 (by omega) 0 (by omega) (by simp only [List.drop_zero]; omega)
  simp only [List.drop_zero,Int.zero_add] at this
  rw [show xB l 0 0=_ from this]
  by_cases q:mx dE l 0≤24 <;> simp [q]
theorem aR9 (c:aP) (hs:E9 c) (p:bC) (hz:lH p≤1048576):∃ b,aE4 c p=some b∧R5 c p=some b:=by
  have hsz:=nK p
  have l1:=gM (z:=zL aX) p.rows
  have l2:=gM (z:=z0) p.cols
  have l3:=gM (z:=aX) p.sets
  have l4:=gM (z:=aX) p.where_
  unfold aE4 R5
  by_cases k1:p.kind=1
  · obtain ⟨w,w1,w2⟩:=cC4 c hs p.plan (by omega)
    have k1d:decide (p.kind=1)=true:=by simpa using k1
    rw [k1d,w1,w2,if_pos rfl,if_pos rfl]
    rw [dN (n:=(p.rows.length:Int)+(p.cols.length:Int)) (by omega) (by omega),dN (n:=(p.rows.length:Int)+(p.cols.length:Int)+(p.sets.length:Int)) (by omega) (by omega),dN (by omega) (by omega)]
    have e:decide ((p.rows.length:Int)+(p.cols.length:Int)+(p.sets.length:Int)+(p.where_.length:Int)=0)=(decide ((p.rows.length:Int)=0)&&decide ((p.cols.length:Int)=0)&&decide ((p.sets.length:Int)=0)&&decide ((p.where_.length:Int)=0)):=by
      rw [Bool.eq_iff_iff]; simp only [Bool.and_eq_true,decide_eq_true_eq]; omega
    rw [e]
    simp only [Option.bind_eq_bind,Option.bind_some]
    generalize decide (p.table=0)=x0
    generalize decide ((p.rows.length:Int)=0)=x1
    generalize decide ((p.cols.length:Int)=0)=x2
    generalize decide ((p.sets.length:Int)=0)=x3
    generalize decide ((p.where_.length:Int)=0)=x4
    refine ⟨w&&(x0&&(x1&&x2&&x3&&x4)),?_,?_⟩
    · cases w <;> cases x0 <;> cases x1 <;> cases x2 <;> cases x3 <;> cases x4 <;> rfl
    · cases w <;> cases x0 <;> cases x1 <;> cases x2 <;> cases x3 <;> cases x4 <;> rfl
  have k1d:decide (p.kind=1)=false:=by simpa using k1
  rw [k1d,if_neg Bool.false_ne_true,if_neg Bool.false_ne_true]
  obtain ⟨a,a1,a2⟩:=bGi c hs
  obtain ⟨b,b1,b2⟩:=bAu c hs
  have hab:a=b:=by rw [Bool.eq_iff_iff,a2,b2]
  subst hab
  simp only [a1,b1,Option.bind_eq_bind,Option.bind_some]
  cases a with
  | false=>exact ⟨false,by simp,by simp⟩
  | true =>
  have hc:=bH8 (a2.1 rfl)
  obtain ⟨kb,hkb,hkk⟩:∃ kb,fI p.kind 2 4=some kb∧(kb=true↔2≤p.kind∧p.kind≤4):=by
    unfold fI
    refine ⟨_,rfl,?_⟩
    by_cases h:2≤p.kind <;> simp [h]
  have hw:IntKind.wrap .i64 ((c.tables.length:Int) - 1)=(c.tables.length:Int) - 1:=by have:=hs.1; exact dN (by omega) (by omega)
  have hT:∃ tb,fI p.table 0 ((c.tables.length:Int) - 1)=some tb∧(if (decide (p.table<0))=true then true else (decide ((c.tables.length:Int)≤p.table)))=!tb∧(tb=true↔0≤p.table∧p.table<(c.tables.length:Int)):=by
    unfold fI
    refine ⟨_,rfl,?_,?_⟩
    · by_cases h:0≤p.table
      · have:¬ p.table<0:=by omega
        by_cases h2:p.table<(c.tables.length:Int)
        · have e1:p.table≤(c.tables.length:Int) - 1:=by omega
          have e2:¬ (c.tables.length:Int)≤p.table:=by omega
          simp [h,this,e1,e2]
        · have e1:¬ p.table≤(c.tables.length:Int) - 1:=by omega
          have e2:(c.tables.length:Int)≤p.table:=by omega
          simp [h,this,e1,e2]
      · have:p.table<0:=by omega
        simp [h,this]
    · by_cases h:0≤p.table
      · simp [h]; omega
      · simp [h]
  obtain ⟨tb,t1,t2,t3⟩:=hT
  obtain ⟨z1,z2⟩:=cHs p.plan
  obtain ⟨x1,x2⟩:=bG5 p hz
  obtain ⟨d,s,sb,d1,d2,d3,d4⟩:=bJa p hz
  simp only [hw,hkb,t1,t2,z1,z2,x1,d1,d2,d3,d4,Bool.not_true,Bool.false_eq_true,if_false,beq_self_eq_true,Bool.and_self,if_true,Option.bind_some,Bool.not_false]
  cases tb with
  | false=>exact ⟨false,by simp,by cases kb <;> simp⟩
  | true =>
  generalize aD7 p.plan=zb
  cases zb with
  | false=>exact ⟨false,by simp,by cases kb <;> simp⟩
  | true =>
  simp only [Bool.not_true,Bool.false_eq_true,if_false,beq_self_eq_true,Bool.and_self,if_true,Option.bind_some,d1,d2,d3]
  cases sb with
  | false=>exact ⟨false,by simp,by cases kb <;> simp⟩
  | true =>
  obtain ⟨u0,u1⟩:=t3.1 rfl
  have hj:p.table.toNat<c.tables.length:=by omega
  have hx:idx c.tables p.table=some c.tables[p.table.toNat]:=by
    have:=eF hj
    rwa [show ((p.table.toNat:Nat):Int)=p.table by omega] at this
  obtain ⟨c1,c2⟩:=hc.2 _ (List.getElem_mem hj)
  obtain ⟨y1,y2⟩:=aPl c.tables[p.table.toNat] (by omega)
  have tl:(jS c.tables[p.table.toNat]).length≤4:=by unfold jS; simpa using c1
  simp only [Bool.not_true,Bool.false_eq_true,if_false,hx,y1,y2,Option.bind_some]
  generalize jS c.tables[p.table.toNat]=ts at *
  have hv:jE [ts]:=by
    intro r hr
    simp only [List.mem_singleton] at hr
    subst hr
    exact ⟨by omega,c2⟩
  have hTy:∀ e ∈ p.where_,TyE c [ts] e:=fun e he=>bGu c hc e [ts] (by have:=jD (z:=aX) he; omega) hv (by simp)
  by_cases k2:p.kind=2
  · have hk:kb=true:=hkk.2 (by omega)
    subst hk
    obtain ⟨r,r1,r2⟩:=cF0 c hc ts c2 tl p (by omega) (by omega) (by omega) (by omega) fun row hr e he=>by have:=jD (z:=zL aX) hr; have:=jD (z:=aX) he; omega
    have e2:aF7 c p=some (r&&aCg p):=by
      unfold aF7
      rw [hx]
      simp only [Option.bind_eq_bind,Option.bind_some,y2]
      exact r2
    have e1:aJo c ts p.rows=some r:=r1
    simp only [k2,decide_true,if_true,e1,e2,Bool.not_true,Bool.false_eq_true,if_false,Option.bind_some,beq_self_eq_true,Bool.and_self]
    have f1:decide ((p.cols.length:Int)=0)=decide (p.cols.length=0):=by rw [Bool.eq_iff_iff]; simp
    have f2:decide ((p.sets.length:Int)=0)=decide (p.sets.length=0):=by rw [Bool.eq_iff_iff]; simp
    have f3:decide ((p.where_.length:Int)=0)=decide (p.where_.length=0):=by rw [Bool.eq_iff_iff]; simp
    rw [f1,f2,f3]
    unfold aCg
    generalize decide (p.cols.length=0)=v1
    generalize decide (p.sets.length=0)=v2
    generalize decide (p.where_.length=0)=v3
    exact ⟨r&&(v1&&v2&&v3),by cases r <;> cases v1 <;> cases v2 <;> cases v3 <;> rfl,rfl⟩
  have k2d:decide (p.kind=2)=false:=by simpa using k2
  simp only [k2d,Bool.false_eq_true,if_false]
  have w0:(if (decide (0<(p.rows.length:Int)))=true then true else (decide (1<(p.where_.length:Int))))=true∨p.where_.length≤1:=by
    by_cases h:p.where_.length≤1
    · exact .inr h
    · left
      have:(1:Int)<(p.where_.length:Int):=by omega
      simp [this]
  obtain ⟨tr,tr1,tr2⟩:=aTn c [ts] p.where_ (by omega) hTy
  simp only [tr1,tr2]
  generalize (if (decide (0<(p.rows.length:Int)))=true then true else (decide (1<(p.where_.length:Int))))=g
  cases g with
  | true=>exact ⟨false,by simp,by cases kb <;> simp⟩
  | false =>
  simp only [beq_self_eq_true,Bool.and_self,if_true,Option.bind_some,Bool.false_eq_true,if_false]
  cases tr with
  | false=>exact ⟨false,by simp,by cases kb <;> simp⟩
  | true =>
  simp only [Bool.not_true,Bool.false_eq_true,if_false]
  by_cases k4:p.kind=4
  · have hk:kb=true:=hkk.2 (by omega)
    subst hk
    rw [dN (by omega) (by omega)]
    have e:decide ((p.cols.length:Int)+(p.sets.length:Int)=0)=(decide ((p.cols.length:Int)=0)&&decide ((p.sets.length:Int)=0)):=by
      rw [Bool.eq_iff_iff]; simp only [Bool.and_eq_true,decide_eq_true_eq]; omega
    rw [e]
    generalize decide ((p.cols.length:Int)=0)=v1
    generalize decide ((p.sets.length:Int)=0)=v2
    refine ⟨v1&&v2,?_,by simp [k4]⟩
    simp only [k4,Int.reduceEq,decide_false,decide_true,Bool.false_eq_true,if_false,if_true,Option.bind_some]
    cases v1 <;> rfl
  by_cases k3:p.kind=3
  · have hk:kb=true:=hkk.2 (by omega)
    subst hk
    unfold aGy aM5
    rw [hx]
    simp only [k3,Int.reduceEq,decide_false,decide_true,Bool.not_true,Bool.false_eq_true,if_false,if_true,Option.bind_eq_bind,Option.bind_some,y2,beq_self_eq_true,Bool.true_and]
    by_cases q0:0<p.cols.length
    case neg =>
      have a1:(p.cols.length:Int)<1:=by omega
      have a2:¬ (0:Int)<(p.cols.length:Int):=by omega
      exact ⟨false,by simp [a1],by simp [q0]⟩
    have a1:¬ (p.cols.length:Int)<1:=by omega
    have a2:(0:Int)<(p.cols.length:Int):=by omega
    by_cases q1:p.sets.length=p.cols.length
    case neg =>
      have a3:¬ (p.sets.length:Int)=(p.cols.length:Int):=by omega
      have a4:¬ (p.cols.length:Int)=(p.sets.length:Int):=by omega
      refine ⟨false,?_,by simp [q0,a4]⟩
      by_cases h:(12:Int)<(p.cols.length:Int) <;> simp [a1,a3,h]
    have a3:(p.sets.length:Int)=(p.cols.length:Int):=by omega
    obtain ⟨r,r1,r2,r3⟩:=bYw c hc ts c2 tl p (by omega) q1 fun e he=>by have:=jD (z:=aX) he; omega
    by_cases h:(12:Int)<(p.cols.length:Int)
    · have : r = false := by
        cases r with
        | false=>rfl
        | true=>have:=r3 rfl; omega
      subst this
      exact ⟨false,by simp [a1,h],by simp [q0,a3,r2]⟩
    · exact ⟨r,by simp [a1,a3,h,r1],by simp [q0,a3,r2]⟩
  have hk:kb=false:=by
    cases kb with
    | false=>rfl
    | true=>have:=hkk.1 rfl; omega
  subst hk
  exact ⟨false,by simp [k3,k4],by simp⟩
def Dq (m:Option Bool) (P:Prop):Prop:=∃ b,m=some b∧(b=true↔P)
theorem Dq.congr {m:Option Bool} {P Q:Prop} (h:Dq m P) (e:P↔Q):Dq m Q:=by obtain ⟨b,h1,h2⟩:=h; exact ⟨b,h1,h2.trans e⟩
theorem aEg {α : Type} {p q : List α} {f : α → α → Option Bool} {L : Int → Option Bool} {K : Option Bool} {C : Prop} (hp : p.length ≤ 1048576) (hlen : p.length = q.length)
    (hL:∀ i:Nat,L (i:Int)=if (decide ((i:Int)<(p.length:Int)))=true then ((idx p (i:Int))>>=fun y1=>(idx q (i:Int))>>=fun y2=>(f y1 y2)>>=fun y3=>if (!y3)=true then (some false) else (L (IntKind.wrap .i64 ((i:Int)+1)))) else K)
    (H:∀ x ∈ p,∀ y ∈ q,Dq (f x y) (x=y)) (hK:Dq K C):Dq (L 0) (p=q∧C):=by
  have key:∀ i,i≤p.length→Dq (L (i:Nat)) (p.drop i=q.drop i∧C):=by
    refine iI ?_ ?_
    · rw [hL]
      obtain ⟨b,h1,h2⟩:=hK
      refine ⟨b,by simp [h1],?_⟩
      rw [List.drop_length,hlen,List.drop_length]; simpa using h2
    · intro i hi ih
      have hi2:i<q.length:=by omega
      obtain ⟨b,h1,h2⟩:=H _ (List.getElem_mem hi) _ (List.getElem_mem hi2)
      obtain ⟨c,c1,c2⟩:=ih
      rw [hL,List.drop_eq_getElem_cons hi,List.drop_eq_getElem_cons hi2]
      simp only [fO,hi,decide_true,if_true,eF hi,eF hi2,gG hi (by omega),h1,Option.bind_eq_bind,Option.bind_some]
      cases b with
      | true=>exact ⟨c,by simpa using c1,by rw [c2,List.cons.injEq]; simp only [h2.1 rfl,true_and]⟩
      | false =>
        refine ⟨false,by simp,?_⟩
        have:¬ p[i]=q[i]:=fun h=>by simpa using h2.2 h
        rw [List.cons.injEq]; simp [this]
  have:=key 0 (by omega)
  simpa using this
theorem aMp:Dq (some true) True:=⟨true,rfl,by simp⟩
theorem eqS {α : Type} {p q : List α} {f : α → α → Option Bool} {L : Int → Option Bool} {S : Option Bool} (hp : p.length ≤ 1048576)
    (hS:S=if (!decide ((p.length:Int)=(q.length:Int)))=true then (some false) else L 0)
    (hL:∀ i:Nat,L (i:Int)=if (decide ((i:Int)<(p.length:Int)))=true then ((idx p (i:Int))>>=fun y1=>(idx q (i:Int))>>=fun y2=>(f y1 y2)>>=fun y3=>if (!y3)=true then (some false) else (L (IntKind.wrap .i64 ((i:Int)+1)))) else some true)
    (H:∀ x ∈ p,∀ y ∈ q,Dq (f x y) (x=y)):Dq S (p=q):=by
  rw [hS]
  by_cases h:p.length=q.length
  · rw [if_neg (by simp; omega)]
    exact (aEg hp h hL H aMp).congr (by simp)
  · rw [if_pos (by simp; omega)]
    exact ⟨false,rfl,by simp only [Bool.false_eq_true,false_iff]; intro e; exact h (by rw [e])⟩
theorem aK7 {α:Type} [DecidableEq α] (x y:α):Dq (some (decide (x=y))) (x=y):=⟨_,rfl,by simp⟩
theorem bFm (p q:List Int) (hp:p.length≤1048576):Dq (zI p q) (p=q) :=
  eqS (f:=fun x y=>some (decide (x=y))) (L:=fun i=>G8 p q i) hp (by rw [zI]) (fun i=>by rw [G8]; rfl) fun x _ y _=>aK7 x y
theorem bYa (p q:List (List UInt8)) (hp:p.length≤1048576):Dq (Q4 p q) (p=q) :=
  eqS (f:=fun x y=>some (decide (x=y))) (L:=fun i=>zO p q i) hp (by rw [Q4]) (fun i=>by rw [zO]; rfl) fun x _ y _=>aK7 x y
theorem bCy (p q:List Int) (hp:p.length≤1048576):Dq (H6 p q) (p=q) :=
  eqS (f:=fun x y=>some (decide (x=y))) (L:=fun i=>zW p q i) hp (by rw [H6]) (fun i=>by rw [zW]; rfl) fun x _ y _=>aK7 x y
theorem cEj (p q:List (List UInt8)) (hp:p.length≤1048576):Dq (O8 p q) (p=q) :=
  eqS (f:=fun x y=>some (decide (x=y))) (L:=fun i=>zR p q i) hp (by rw [O8]) (fun i=>by rw [zR]; rfl) fun x _ y _=>aK7 x y
def SqE (x y:aA):Prop:=Dq (Z5 x y) (x=y)∧Dq (xU x y) (x=y)
def SqP (x y:aL):Prop:=Dq (vY x y) (x=y)∧Dq (uH x y) (x=y)
theorem aAu (p q:List aA) (hp:p.length≤1048576) (H:∀ x ∈ p,∀ y,SqE x y):Dq (oV p q) (p=q):=by
  have:=eqS (p:=p) (q:=q) (f:=fun x y=>Z5 x y) (L:=fun i=>R9 q p i) (S:=aA3 p q) hp (by rw [aA3]) (fun i=>by rw [R9]) fun x hx y _=>(H x hx y).1
  obtain ⟨b,h1,h2⟩:=this
  exact ⟨b,by rw [oV,h1]; rfl,h2⟩
theorem O9 (p q:List aA) (hp:p.length≤1048576) (H:∀ x ∈ p,∀ y,SqE x y):Dq (nV p q) (p=q) :=
  eqS (f:=fun x y=>xU x y) (L:=fun i=>Y3 p q i) hp (by rw [nV]) (fun i=>by rw [Y3]) fun x hx y _=>(H x hx y).2
theorem cHc (p q:List aL) (hp:p.length≤1048576) (H:∀ x ∈ p,∀ y,SqP x y):Dq (aDt p q) (p=q) :=
  eqS (f:=fun x y=>vY x y) (L:=fun i=>aCj q p i) hp (by rw [aDt]) (fun i=>by rw [aCj]) fun x hx y _=>(H x hx y).1
theorem bGc (p q:List (List aA)) (hp:p.length≤1048576) (H:∀ l ∈ p,l.length≤1048576∧∀ x ∈ l,∀ y,SqE x y):Dq (zZ p q) (p=q) :=
  eqS (f:=fun x y=>oV x y) (L:=fun i=>W9 q p i) hp (by rw [zZ]) (fun i=>by rw [W9]) fun x hx y _=>aAu x y (H x hx).1 (H x hx).2
theorem bDh (x y:bO):x=y↔x.expr=y.expr∧x.desc=y.desc:=by cases x; cases y; simp
theorem cHq (x y:bH):x=y↔x.kind=y.kind∧x.num=y.num∧x.text=y.text:=by cases x; cases y; simp
theorem bA7 (x y:aA):x=y↔x.kind=y.kind∧x.op=y.op∧x.not_=y.not_∧x.value=y.value∧x.up=y.up∧x.at_=y.at_∧x.kids=y.kids∧x.sub=y.sub:=by cases x; cases y; simp
theorem bHt (x y:aL):x=y↔x.tables=y.tables∧x.on_=y.on_∧x.where_=y.where_∧x.order=y.order∧x.items=y.items∧x.names=y.names∧x.distinct=y.distinct∧x.limit=y.limit:=by cases x; cases y; simp
theorem bW5 (p q:List bO) (hp:p.length≤1048576) (H:∀ x ∈ p,∀ y,SqE x.expr y):Dq (N7 p q) (p=q) :=
  eqS (f:=fun x y=>aBs x y) (L:=fun i=>Q9 q p i) hp (by rw [N7]) (fun i=>by rw [Q9]) fun x hx y _=>by
    obtain ⟨b,h1,h2⟩:=(H x hx y.expr).1
    rw [aBs,h1]
    refine ⟨(x.desc==y.desc)&&b,?_,?_⟩
    · cases (x.desc==y.desc) <;> rfl
    · rw [bDh,Bool.and_eq_true,beq_iff_eq,h2,and_comm]
theorem cGj (x y:aA) (hk:x.kids.length≤1048576) (hs:x.sub.length≤1048576) (HK:∀ k ∈ x.kids,∀ y,SqE k y) (HP:∀ p ∈ x.sub,∀ y,SqP p y):SqE x y:=by
  have hv:((decide (x.value.kind=y.value.kind))&&((decide (x.value.num=y.value.num))&&((decide (x.value.text=y.value.text))&&true)))=true↔x.value=y.value:=by
    rw [cHq]; simp
  constructor
  · obtain ⟨b1,h1,k1⟩:=aAu x.kids y.kids hk HK
    obtain ⟨b2,h2,k2⟩:=cHc x.sub y.sub hs HP
    rw [Z5,h1,h2]
    have hE:x=y↔(decide (x.kind=y.kind)=true∧decide (x.op=y.op)=true∧(x.not_==y.not_)=true∧((decide (x.value.kind=y.value.kind))&&((decide (x.value.num=y.value.num))&&((decide (x.value.text=y.value.text))&&true)))=true∧decide (x.up=y.up)=true∧decide (x.at_=y.at_)=true∧b1=true∧b2=true):=by
      rw [bA7,hv,k1,k2]; simp only [decide_eq_true_eq,beq_iff_eq]
    unfold Dq
    rw [hE]
    clear hE hv
    generalize ((decide (x.value.kind=y.value.kind))&&((decide (x.value.num=y.value.num))&&((decide (x.value.text=y.value.text))&&true)))=v
    generalize decide (x.kind=y.kind)=c1
    generalize decide (x.op=y.op)=c2
    generalize (x.not_==y.not_)=c3
    generalize decide (x.up=y.up)=c4
    generalize decide (x.at_=y.at_)=c5
    refine ⟨c1&&c2&&c3&&v&&c4&&c5&&b1&&b2,?_,by simp only [Bool.and_eq_true,and_assoc]⟩
    cases c1 <;> cases c2 <;> cases c3 <;> cases v <;> cases c4 <;> cases c5 <;> cases b1 <;> cases b2 <;> rfl
  · obtain ⟨b1,h1,k1⟩:=O9 x.kids y.kids hk HK
    rw [xU,h1]
    by_cases hlen:x.sub.length=y.sub.length
    · have h2:=aEg (p:=x.sub) (q:=y.sub) (f:=fun x y=>uH x y) (L:=fun i=>Z6 x y i) (K:=some true) (C:=True) hs hlen (fun i=>by rw [Z6]) (fun z hz w _=>(HP z hz w).2) aMp
      obtain ⟨b2,h2,k2⟩:=h2
      rw [and_true] at k2
      rw [show Z6 x y 0=_ from h2]
      have hd:decide ((x.sub.length:Int)=(y.sub.length:Int))=true:=by simp; omega
      rw [hd]
      have hE:x=y↔(decide (x.kind=y.kind)=true∧decide (x.op=y.op)=true∧(x.not_==y.not_)=true∧((decide (x.value.kind=y.value.kind))&&((decide (x.value.num=y.value.num))&&((decide (x.value.text=y.value.text))&&true)))=true∧decide (x.up=y.up)=true∧decide (x.at_=y.at_)=true∧b1=true∧b2=true):=by
        rw [bA7,hv,k1,k2]; simp only [decide_eq_true_eq,beq_iff_eq]
      unfold Dq
      rw [hE]
      clear hE hv
      generalize ((decide (x.value.kind=y.value.kind))&&((decide (x.value.num=y.value.num))&&((decide (x.value.text=y.value.text))&&true)))=v
      generalize decide (x.kind=y.kind)=c1
      generalize decide (x.op=y.op)=c2
      generalize (x.not_==y.not_)=c3
      generalize decide (x.up=y.up)=c4
      generalize decide (x.at_=y.at_)=c5
      refine ⟨c1&&c2&&c3&&v&&c4&&c5&&b1&&b2,?_,by simp only [Bool.and_eq_true,and_assoc]⟩
      cases c1 <;> cases c2 <;> cases c3 <;> cases v <;> cases c4 <;> cases c5 <;> cases b1 <;> cases b2 <;> rfl
    · have hd:decide ((x.sub.length:Int)=(y.sub.length:Int))=false:=by simp; omega
      rw [hd]
      have hne:¬ x=y:=fun e=>hlen (by rw [e])
      generalize ((decide (x.value.kind=y.value.kind))&&((decide (x.value.num=y.value.num))&&((decide (x.value.text=y.value.text))&&true)))=v
      generalize decide (x.kind=y.kind)=c1
      generalize decide (x.op=y.op)=c2
      generalize (x.not_==y.not_)=c3
      generalize decide (x.up=y.up)=c4
      generalize decide (x.at_=y.at_)=c5
      refine ⟨false,?_,by simp [hne]⟩
      cases c1 <;> cases c2 <;> cases c3 <;> cases v <;> cases c4 <;> cases c5 <;> rfl
theorem bZ8 (x y:aL) (hz:dU x≤1048576) (H:∀ e,aX e<dU x→∀ y,SqE e y):SqP x y:=by
  have hl:=aJl x
  have H1:∀ l ∈ x.on_,l.length≤1048576∧∀ e ∈ l,∀ y,SqE e y:=fun l hm=>⟨by have:=mI x; have:=jD (z:=zL aX) hm; have:=gM (z:=aX) l; omega,fun e he=>H e (by have:=onZ hm he; have:=List.length_pos_of_mem he; omega)⟩
  have H2:∀ e ∈ x.where_,∀ y,SqE e y:=fun e he=>H e (by have:=aNb he; have:=List.length_pos_of_mem he; omega)
  have H3:∀ k ∈ x.order,∀ y,SqE k.expr y:=fun k hk=>H _ (by have:=aK3 hk; have:=List.length_pos_of_mem hk; omega)
  have H4:∀ e ∈ x.items,∀ y,SqE e y:=fun e he=>H e (by have:=aKd he; have:=List.length_pos_of_mem he; omega)
  constructor
  · obtain ⟨b1,h1,k1⟩:=bFm x.tables y.tables (by omega)
    obtain ⟨b2,h2,k2⟩:=bGc x.on_ y.on_ (by omega) H1
    obtain ⟨b3,h3,k3⟩:=aAu x.where_ y.where_ (by omega) H2
    obtain ⟨b4,h4,k4⟩:=bW5 x.order y.order (by omega) H3
    obtain ⟨b5,h5,k5⟩:=aAu x.items y.items (by omega) H4
    obtain ⟨b6,h6,k6⟩:=bYa x.names y.names (by omega)
    rw [vY,h1,h2,h3,h4,h5,h6]
    have hE:x=y↔(b1=true∧b2=true∧b3=true∧b4=true∧b5=true∧b6=true∧(x.distinct==y.distinct)=true∧decide (x.limit=y.limit)=true):=by
      rw [bHt,k1,k2,k3,k4,k5,k6]; simp only [decide_eq_true_eq,beq_iff_eq]
    unfold Dq
    rw [hE]
    clear hE
    generalize (x.distinct==y.distinct)=c1
    generalize decide (x.limit=y.limit)=c2
    refine ⟨b1&&b2&&b3&&b4&&b5&&b6&&c1&&c2,?_,by simp only [Bool.and_eq_true,and_assoc]⟩
    cases b1 <;> cases b2 <;> cases b3 <;> cases b4 <;> cases b5 <;> cases b6 <;> cases c1 <;> cases c2 <;> rfl
  · obtain ⟨b1,h1,k1⟩:=bCy x.tables y.tables (by omega)
    obtain ⟨b3,h3,k3⟩:=O9 x.where_ y.where_ (by omega) H2
    obtain ⟨b5,h5,k5⟩:=O9 x.items y.items (by omega) H4
    obtain ⟨b6,h6,k6⟩:=cEj x.names y.names (by omega)
    rw [uH,h1,h3,h5,h6]
    by_cases ho:x.on_.length=y.on_.length
    case neg =>
      have hd:decide ((x.on_.length:Int)=(y.on_.length:Int))=false:=by simp; omega
      have hne:¬ x=y:=fun e=>ho (by rw [e])
      rw [hd]
      generalize (x.distinct==y.distinct)=c1
      generalize decide (x.limit=y.limit)=c2
      generalize decide ((x.order.length:Int)=(y.order.length:Int))=c3
      refine ⟨false,?_,by simp [hne]⟩
      cases b1 <;> cases b3 <;> cases b5 <;> cases b6 <;> cases c1 <;> cases c2 <;> cases c3 <;> rfl
    by_cases hr:x.order.length=y.order.length
    case neg =>
      have hd:decide ((x.order.length:Int)=(y.order.length:Int))=false:=by simp; omega
      have hne:¬ x=y:=fun e=>hr (by rw [e])
      rw [hd]
      generalize (x.distinct==y.distinct)=c1
      generalize decide (x.limit=y.limit)=c2
      generalize decide ((x.on_.length:Int)=(y.on_.length:Int))=c3
      refine ⟨false,?_,by simp [hne]⟩
      cases b1 <;> cases b3 <;> cases b5 <;> cases b6 <;> cases c1 <;> cases c2 <;> cases c3 <;> rfl
    have hd1:decide ((x.on_.length:Int)=(y.on_.length:Int))=true:=by simp; omega
    have hd2:decide ((x.order.length:Int)=(y.order.length:Int))=true:=by simp; omega
    have l1 : Dq (uN x y 0) (x.order = y.order ∧ True) := aEg (p := x.order) (q := y.order) (f := fun a b => some (if (!(a.desc == b.desc)) = true then true else default) >>= fun y0 => (if (true && ((!(a.desc == b.desc)) == false)) = true then xU a.expr b.expr else some default) >>= fun y19 => some (!(if (!(a.desc == b.desc)) = true then true else (!y19)))) (L := fun i => uN x y i) (K := some true) (C := True) (by omega) hr (fun i => by
        rw [uN]
        by_cases hi:(i:Int)<(x.order.length:Int)
        · have hi':i<x.order.length:=by omega
          have hi2:i<y.order.length:=by omega
          simp only [hi,decide_true,if_true,eF hi',eF hi2,Option.bind_eq_bind,Option.bind_some]
          cases (x.order[i].desc==y.order[i].desc)
          · rfl
          · simp only [Bool.not_true,beq_self_eq_true,Bool.and_self,if_true,Bool.false_eq_true,if_false,Option.bind_some]
            cases xU x.order[i].expr y.order[i].expr with
            | none=>rfl
            | some v=>cases v <;> rfl
        · simp only [hi,decide_false,Bool.false_eq_true,if_false])
      (fun z hz w _=>by
        obtain ⟨b,q1,q2⟩:=(H3 z hz w.expr).2
        refine ⟨(z.desc==w.desc)&&b,?_,?_⟩
        · rw [q1]; cases (z.desc==w.desc) <;> cases b <;> rfl
        · rw [bDh,Bool.and_eq_true,beq_iff_eq,q2,and_comm]) aMp
    have l0:Dq (F4 x y 0) (x.on_=y.on_∧(x.order=y.order∧True)):=aEg (p:=x.on_) (q:=y.on_) (f:=fun a b=>nV a b) (L:=fun i=>F4 x y i) (K:=uN x y 0) (by omega) ho (fun i=>by rw [F4]) (fun z hz w _=>O9 z w (H1 z hz).1 (H1 z hz).2) l1
    obtain ⟨b7,h7,k7⟩:=l0
    rw [h7,hd1,hd2]
    have hE:x=y↔((x.distinct==y.distinct)=true∧decide (x.limit=y.limit)=true∧b1=true∧b3=true∧b5=true∧b6=true∧b7=true):=by
      rw [bHt,k1,k3,k5,k6,k7]; simp only [decide_eq_true_eq,beq_iff_eq]
      constructor
      · rintro ⟨a,b,c,d,e,f,g,h⟩; exact ⟨g,h,a,c,e,f,b,d,trivial⟩
      · rintro ⟨g,h,a,c,e,f,b,d,_⟩; exact ⟨a,b,c,d,e,f,g,h⟩
    unfold Dq
    rw [hE]
    clear hE
    generalize (x.distinct==y.distinct)=c1
    generalize decide (x.limit=y.limit)=c2
    refine ⟨c1&&c2&&b1&&b3&&b5&&b6&&b7,?_,by simp only [Bool.and_eq_true,and_assoc]⟩
    cases b1 <;> cases b3 <;> cases b5 <;> cases b6 <;> cases b7 <;> cases c1 <;> cases c2 <;> rfl
theorem aTg:∀ n:Nat,(∀ x:aA,aX x<n→aX x≤1048576→∀ y,SqE x y)∧(∀ p:aL,dU p<n→dU p≤1048576→∀ y,SqP p y)
  | 0=>⟨fun _ h=>absurd h (by omega),fun _ h=>absurd h (by omega)⟩
  | n+1=>by
    obtain ⟨i1,i2⟩:=aTg n
    refine ⟨fun x hx hz y=>?_,fun p hp hz y=>bZ8 p y hz fun e he=>i1 e (by omega) (by omega)⟩
    have hl:=aKh x
    exact cGj x y (by omega) (by omega) (fun k hk=>i1 k (by have:=P8 hk; have:=List.length_pos_of_mem hk; omega) (by have:=P8 hk; omega)) fun p hp=>i2 p (by have:=X9 hp; have:=List.length_pos_of_mem hp; omega) (by have:=X9 hp; omega)
theorem aU6 (x y:aA) (hz:aX x≤1048576):SqE x y:=(aTg _).1 x (Nat.lt_succ_self _) hz y
theorem bUm (x y:aL) (hz:dU x≤1048576):SqP x y:=(aTg _).2 x (Nat.lt_succ_self _) hz y
theorem aIt (a:Int):0≤IntKind.wrap .i64 ((BitVec.ofInt (IntKind.bits .i64) a &&& BitVec.ofInt (IntKind.bits .i64) 255).toNat:Int)∧IntKind.wrap .i64 ((BitVec.ofInt (IntKind.bits .i64) a &&& BitVec.ofInt (IntKind.bits .i64) 255).toNat:Int)≤255:=by
  have h:(BitVec.ofInt (IntKind.bits .i64) a &&& BitVec.ofInt (IntKind.bits .i64) 255).toNat≤255:=by
    rw [BitVec.toNat_and]
    exact Nat.le_trans Nat.and_le_right (by decide)
  rw [dN (by omega) (by omega)]
  omega
def okCur (c:aB):Prop:=0≤c.i∧c.i≤(c.b.length:Int)∧c.b.length≤1048576
theorem aAe (c:aB) (h:okCur c):∃ x c',uR c=some (x,c')∧0≤x∧x≤255∧okCur c':=by
  obtain ⟨h1,h2,h3⟩:=h
  unfold uR aD3
  by_cases hi:c.i<(c.b.length:Int)
  · have e : ∃ v, idx c.b c.i = some v := by
      unfold idx
      rw [if_pos h1]
      exact ⟨_,List.getElem?_eq_getElem (by omega)⟩
    obtain ⟨v,hv⟩:=e
    rw [if_pos (by simpa using hi),hv]
    simp only [Option.bind_eq_bind,Option.bind_some]
    refine ⟨_,_,rfl,(aIt _).1,(aIt _).2,?_⟩
    refine ⟨?_,?_,h3⟩
    · show 0≤IntKind.wrap .i64 (c.i+1); rw [dN (by omega) (by omega)]; omega
    · show IntKind.wrap .i64 (c.i+1)≤(c.b.length:Int); rw [dN (by omega) (by omega)]; omega
  · rw [if_neg (by simpa using hi)]
    exact ⟨_,_,rfl,(aIt _).1,(aIt _).2,h1,h2,h3⟩
theorem aZo {a b:Int} (h0:0≤a) (hb:0<b):∃ r,aCb a b=some r∧0≤r∧r<b:=by
  unfold aCb
  rw [if_neg (by omega)]
  exact ⟨_,rfl,Int.tmod_nonneg _ h0,Int.tmod_lt_of_pos _ hb⟩
theorem V7 (c:aB) (n:Int) (h:okCur c):∃ x c',eD c n=some (x,c')∧0≤x∧(0<n→x<n)∧okCur c':=by
  unfold eD
  by_cases h0:n≤0
  · rw [if_pos (by simpa using h0)]; exact ⟨0,c,rfl,by omega,by omega,h⟩
  rw [if_neg (by simpa using h0)]
  by_cases h1:n≤256
  · rw [if_pos (by simpa using h1)]
    obtain ⟨x,c1,e1,a1,b1,o1⟩:=aAe c h
    obtain ⟨r,er,r0,r1⟩:=aZo a1 (b:=n) (by omega)
    simp only [e1,Option.bind_eq_bind,Option.bind_some,er]
    exact ⟨r,c1,rfl,r0,fun _=>r1,o1⟩
  · rw [if_neg (by simpa using h1)]
    obtain ⟨x1,c1,e1,a1,b1,o1⟩:=aAe c h
    obtain ⟨x2,c2,e2,a2,b2,o2⟩:=aAe c1 o1
    obtain ⟨x3,c3,e3,a3,b3,o3⟩:=aAe c2 o2
    obtain ⟨x4,c4,e4,a4,b4,o4⟩:=aAe c3 o3
    simp only [e1,e2,e3,e4,Option.bind_eq_bind,Option.bind_some]
    rw [dN (n:=x1 * 16777216) (by omega) (by omega),dN (n:=x2 * 65536) (by omega) (by omega),dN (n:=x3 * 256) (by omega) (by omega),dN (n:=x1 * 16777216+x2 * 65536) (by omega) (by omega),dN (n:=x1 * 16777216+x2 * 65536+x3 * 256) (by omega) (by omega),dN (n:=x1 * 16777216+x2 * 65536+x3 * 256+x4) (by omega) (by omega)]
    obtain ⟨r,er,r0,r1⟩:=aZo (a:=x1 * 16777216+x2 * 65536+x3 * 256+x4) (by omega) (b:=n) (by omega)
    rw [er]
    exact ⟨r,c4,rfl,r0,fun _=>r1,o4⟩
theorem cJ5 (c:aB) (n:Int) (h:okCur c):∃ x c',fC c n=some (x,c')∧okCur c':=by
  obtain ⟨x,c1,e1,_,_,o1⟩:=V7 c n h
  unfold fC
  simp only [e1,Option.bind_eq_bind,Option.bind_some]
  exact ⟨_,_,rfl,o1⟩
theorem aUd {α:Type} {l:List α} {x:Int} (h0:0≤x) (h1:x<(l.length:Int)):∃ v,v ∈ l∧idx l x=some v:=by
  unfold idx
  rw [if_pos h0]
  exact ⟨_,List.getElem_mem (by omega),List.getElem?_eq_getElem (by omega)⟩
theorem aXp (c:aB) (l:List (List UInt8)) (hl:0<l.length) (h:okCur c):∃ x c',oP c l=some (x,c')∧x ∈ l∧okCur c':=by
  obtain ⟨x,c1,e1,h0,h1,o1⟩:=V7 c l.length h
  obtain ⟨v,hv,ev⟩:=aUd h0 (h1 (by omega))
  unfold oP
  simp only [e1,ev,Option.bind_eq_bind,Option.bind_some]
  exact ⟨_,_,rfl,hv,o1⟩
theorem aO7 (c:aB) (l:List Int) (hl:0<l.length) (h:okCur c):∃ x c',xA c l=some (x,c')∧x ∈ l∧okCur c':=by
  obtain ⟨x,c1,e1,h0,h1,o1⟩:=V7 c l.length h
  obtain ⟨v,hv,ev⟩:=aUd h0 (h1 (by omega))
  unfold xA
  simp only [e1,ev,Option.bind_eq_bind,Option.bind_some]
  exact ⟨_,_,rfl,hv,o1⟩
theorem aYt (p:List Int) (hp:p.length≤1048576):∃ c,aCa p=some c∧okCur c:=by
  unfold aCa
  have key:∀ i,i≤p.length→∀ h,∃ c,zH p h (i:Nat)=some c∧okCur c:=by
    refine iI ?_ ?_
    · intro h
      rw [zH]
      refine ⟨⟨p,0,h⟩,by simp,?_⟩
      exact ⟨by show (0:Int)≤0; omega,by show (0:Int)≤(p.length:Int); omega,hp⟩
    · intro i hi ih h
      rw [zH]
      by_cases h4:(i:Int)<4000
      · simp only [fO,hi,h4,decide_true,if_true,eF hi,gG hi (by omega),Option.bind_eq_bind,Option.bind_some]
        exact ih _
      · simp only [fO,hi,h4,decide_true,decide_false,if_true,Bool.false_eq_true,if_false]
        exact ⟨⟨p,0,h⟩,rfl,by show (0:Int)≤0; omega,by show (0:Int)≤(p.length:Int); omega,hp⟩
  exact key 0 (by omega) _
theorem bP7 (l:List Int) (h:∀ v ∈ l,0≤v∧v<256):∃ s,ofBytes l=some s:=by
  unfold ofBytes
  rw [if_pos (by simpa using h)]
  exact ⟨_,rfl⟩
def Yes {α:Type} (m:Option α) (Q:α→Prop):Prop:=∃ r,m=some r∧Q r
theorem Yes.bind {α β:Type} {m:Option α} {k:α→Option β} {Q:α→Prop} {R:β→Prop} (h:Yes m Q) (hk:∀ x,Q x→Yes (k x) R):Yes (m>>=k) R:=by
  obtain ⟨x,e,hx⟩:=h
  obtain ⟨r,e2,hr⟩:=hk x hx
  exact ⟨r,by rw [e]; exact e2,hr⟩
theorem Yes.some {α:Type} {x:α} {Q:α→Prop} (h:Q x):Yes (some x) Q:=⟨x,rfl,h⟩
theorem Yes.mono {α:Type} {m:Option α} {Q R:α→Prop} (h:Yes m Q) (hk:∀ x,Q x→R x):Yes m R:=by
  obtain ⟨x,e,hx⟩:=h; exact ⟨x,e,hk x hx⟩
theorem Yes.ite {α:Type} {c:Prop} [Decidable c] {m m':Option α} {Q:α→Prop} (h:c→Yes m Q) (h':¬ c→Yes m' Q):Yes (if c then m else m') Q:=by
  split
  · exact h (by assumption)
  · exact h' (by assumption)
theorem fD (c:aB) (n:Int) (h:okCur c):Yes (eD c n) fun r=>0≤r.1∧(0<n→r.1<n)∧okCur r.2:=by
  obtain ⟨x,c',e,h1,h2,h3⟩:=V7 c n h; exact ⟨_,e,h1,h2,h3⟩
theorem iP (c:aB) (n:Int) (h:okCur c):Yes (fC c n) fun r=>okCur r.2:=by
  obtain ⟨x,c',e,h1⟩:=cJ5 c n h; exact ⟨_,e,h1⟩
theorem aAd (p:Bool) (b:Bool) (c:aB) (n:Int) (h:okCur c):Yes (if (true&&(p==b))=true then fC c n else some ((default:Bool),c)) fun r=>okCur r.2:=Yes.ite (fun _=>iP c n h) fun _=>Yes.some h
theorem aVg (c:aB) (l:List (List UInt8)) (hl:0<l.length) (h:okCur c):Yes (oP c l) fun r=>okCur r.2:=by
  obtain ⟨x,c',e,_,h1⟩:=aXp c l hl h; exact ⟨_,e,h1⟩
theorem aXn (c:aB) (l:List Int) (hl:0<l.length) (h:okCur c):Yes (xA c l) fun r=>okCur r.2:=by
  obtain ⟨x,c',e,_,h1⟩:=aO7 c l hl h; exact ⟨_,e,h1⟩
theorem iU {α:Type} {b:Nat} {l m:List α} (h:(l.length+m.length) * b≤140737488355328):Yes (appG b l m) fun r=>r=l++m:=⟨_,oH h,rfl⟩
theorem aFp (c:aB) (l:List (List UInt8)) (hl:0<l.length) (h:okCur c):Yes (oP c l) fun r=>r.1 ∈ l∧okCur r.2:=by
  obtain ⟨x,c',e,h0,h1⟩:=aXp c l hl h; exact ⟨_,e,h0,h1⟩
theorem aMw (c:aB) (h:okCur c):Yes (vG c) fun r=>r.1.length≤8∧okCur r.2:=by
  unfold vG
  refine Yes.bind (iP _ _ h) fun r k=>Yes.ite (fun _=>?_) fun _=>?_
  · refine Yes.bind (aFp _ _ (by decide) k) fun r ⟨hm,k⟩=>Yes.some ⟨?_,k⟩
    have:∀ v ∈ ([[97,32,98],[102,114,111,109],[83,101,108,101,99,116],[49,120],[113,34,113],[0],[34],[105,116,39,115],[120,46,121],[45]]:List (List UInt8)),v.length≤8:=by decide
    exact this _ hm
  · refine Yes.bind (aFp _ _ (by decide) k) fun r ⟨hm,k⟩=>Yes.some ⟨?_,k⟩
    have:∀ v ∈ ([[97],[98],[99],[116],[117],[118],[105,100],[110,97,109,101],[65],[95,120,49]]:List (List UInt8)),v.length≤8:=by decide
    exact this _ hm
theorem aLg (c:aB) (h:okCur c):Yes (zU c) fun r=>okI r.1∧okCur r.2:=by
  obtain ⟨x,c1,e1,_,_,o1⟩:=V7 c 3 h
  obtain ⟨y,c2,e2,hy,o2⟩:=aO7 c1 [0,1,(-1),63,64,(-64),(-65),127,128,16383,16384,9223372036854775807,(-9223372036854775808),4611686018427387904] (by decide) o1
  obtain ⟨z,c3,e3,z0,z1,o3⟩:=V7 c1 1000000 o1
  obtain ⟨w,c4,e4,w0,w1,o4⟩:=V7 c1 20 o1
  have hyI:okI y:=by
    have:∀ v ∈ ([0,1,(-1),63,64,(-64),(-65),127,128,16383,16384,9223372036854775807,(-9223372036854775808),4611686018427387904]:List Int),-9223372036854775808≤v∧v≤9223372036854775807:=by decide
    exact this y hy
  have hz:=z1 (by decide)
  have hw:=w1 (by decide)
  unfold zU
  simp only [e1,e2,e3,e4,Option.bind_eq_bind,Option.bind_some]
  split
  · exact ⟨_,rfl,hyI,o2⟩
  split
  · refine ⟨_,rfl,?_,o3⟩
    unfold okI; dsimp only; rw [dN (by omega) (by omega)]; omega
  · refine ⟨_,rfl,?_,o4⟩
    unfold okI; dsimp only; omega
def okV (B:Nat) (r:bH×aB):Prop:=okGValue r.1∧r.1.text.length≤B∧okCur r.2
theorem okV_mk {B:Nat} {k n:Int} {t:List UInt8} {c:aB} (h1:okI k) (h2:okI n) (h3:t.length≤B) (hB:B≤1000) (h:okCur c):okV B (⟨k,n,t⟩,c):=⟨⟨h1,h2,by unfold okS; dsimp only; omega⟩,h3,h⟩
theorem okI_small {n:Int} (h0 : -1000≤n) (h1:n≤1000):okI n:=by unfold okI; omega
theorem bXo (c:aB) (h:okCur c):Yes (aE2 c) (okV 4):=by
  unfold aE2
  refine Yes.bind (fD _ _ h) fun r ⟨_,_,k⟩=>Yes.ite (fun _=>?_) fun _=>Yes.ite (fun _=>?_) fun _=>Yes.ite (fun _=>?_) fun _=>Yes.ite (fun _=>?_) fun _=>?_
  · exact Yes.some (okV_mk (okI_small (by omega) (by omega)) (okI_small (by omega) (by omega)) (by simp) (by omega) k)
  · refine Yes.bind (aFp _ _ (by decide) k) fun r ⟨hm,k⟩=>?_
    have:∀ v ∈ ([[],[97],[98],[105,116,39,115],[97,98],[255]]:List (List UInt8)),v.length≤4:=by decide
    exact Yes.bind (Q:=fun v=>v=⟨2,0,r.1⟩) ⟨_,rfl,rfl⟩ fun v hv=>Yes.some (by subst hv; exact okV_mk (okI_small (by omega) (by omega)) (okI_small (by omega) (by omega)) (this _ hm) (by omega) k)
  · refine Yes.bind (iP _ _ k) fun r k=>?_
    have:Yes (aC4 r.1) fun v=>okI v.kind∧okI v.num∧v.text=[]:=by
      cases r.1
      · exact ⟨_,rfl,okI_small (by decide) (by decide),okI_small (by decide) (by decide),rfl⟩
      · exact ⟨_,rfl,okI_small (by decide) (by decide),okI_small (by decide) (by decide),rfl⟩
    refine Yes.bind this fun v ⟨h1,h2,h3⟩=>Yes.some ?_
    obtain ⟨a,b,t⟩:=v
    dsimp only at h1 h2 h3
    subst h3
    exact okV_mk h1 h2 (by simp) (by omega) k
  · refine Yes.bind (aLg _ k) fun r ⟨h1,k⟩=>?_
    exact Yes.bind (Q:=fun v=>v=⟨1,r.1,[]⟩) ⟨_,rfl,rfl⟩ fun v hv=>Yes.some (by subst hv; exact okV_mk (okI_small (by omega) (by omega)) h1 (by simp) (by omega) k)
  · refine Yes.bind (fD _ _ k) fun r ⟨h0,h1,k⟩=>?_
    have:=h1 (by decide)
    exact Yes.bind (Q:=fun v=>v=⟨1,IntKind.wrap .i64 (r.1 - 2),[]⟩) ⟨_,rfl,rfl⟩ fun v hv=>Yes.some (by subst hv; exact okV_mk (okI_small (by omega) (by omega)) (by rw [dN (by omega) (by omega)]; exact okI_small (by omega) (by omega)) (by simp) (by omega) k)
theorem bR8 (c:aB) (h:okCur c):Yes (aAr c) (okV 4):=by
  unfold aAr aDw
  refine Yes.bind (bXo _ h) fun r ⟨⟨h1,h2,h3⟩,h4,k⟩=>Yes.bind (Q:=fun _=>True) ⟨_,rfl,trivial⟩ fun b _=>Yes.ite (fun _=>Yes.some ?_) fun _=>Yes.some ?_
  · exact okV_mk h1 (by unfold okI; omega) h4 (by omega) k
  · exact okV_mk h1 h2 h4 (by omega) k
theorem okLX_of {l:List aA} (h:∀ y ∈ l,okGPExpr y):okLGPExpr l:=by
  induction l with
  | nil=>unfold okLGPExpr; trivial
  | cons x l ih=>unfold okLGPExpr; exact ⟨h x (by simp),ih fun y hy=>h y (List.mem_cons_of_mem _ hy)⟩
theorem okLP_of {l:List aL} (h:∀ y ∈ l,okGPlan y):okLGPlan l:=by
  induction l with
  | nil=>unfold okLGPlan; trivial
  | cons x l ih=>unfold okLGPlan; exact ⟨h x (by simp),ih fun y hy=>h y (List.mem_cons_of_mem _ hy)⟩
theorem okLK_of {l:List bO} (h:∀ y ∈ l,okGPExpr y.expr):okLGPSort l:=by
  induction l with
  | nil=>unfold okLGPSort; trivial
  | cons x l ih =>
    unfold okLGPSort
    refine ⟨?_,ih fun y hy=>h y (List.mem_cons_of_mem _ hy)⟩
    have:=h x (by simp)
    obtain ⟨a,b⟩:=x
    unfold okGPSort; exact ⟨this,trivial⟩
theorem okLLX_of {l:List (List aA)} (h:∀ y ∈ l,y.length≤1048576∧∀ x ∈ y,okGPExpr x):okLLGPExpr l:=by
  induction l with
  | nil=>unfold okLLGPExpr; trivial
  | cons x l ih =>
    unfold okLLGPExpr
    have:=h x (by simp)
    exact ⟨⟨by omega,okLX_of this.2⟩,ih fun y hy=>h y (List.mem_cons_of_mem _ hy)⟩
theorem mkE {a b:Int} {q:Bool} {v:bH} {u t:Int} {ks:List aA} {ss:List aL} (h1:okI a) (h2:okI b) (h3:okGValue v) (h4:okI u) (h5:okI t) (k1:ks.length≤1048576) (k2:∀ y ∈ ks,okGPExpr y) (s1:ss.length≤1048576) (s2:∀ y ∈ ss,okGPlan y):okGPExpr (aA.mk a b q v u t ks ss):=by
  unfold okGPExpr
  exact ⟨h1,h2,trivial,h3,h4,h5,⟨by omega,okLX_of k2⟩,by omega,okLP_of s2⟩
theorem yS (a b:Int) (q:Bool) (v:bH) (u t:Int) (ks:List aA) (ss:List aL):aX (aA.mk a b q v u t ks ss)=v.text.length+zL aX ks+zL dU ss:=by
  obtain ⟨v0,v1,v2⟩:=v
  simp only [aX,aR6,Z9,aOk,zL]
theorem jR {α:Type} {z:α→Nat} {B n:Nat}:∀ {l:List α},l.length≤n→(∀ y ∈ l,z y≤B)→zL z l≤n * (1+B):=by
  have key:∀ l:List α,(∀ y ∈ l,z y≤B)→zL z l≤l.length * (1+B):=fun l=>by
    induction l with
    | nil=>simp [zL]
    | cons x l ih =>
      intro h
      have h1:=ih fun y hy=>h y (List.mem_cons_of_mem _ hy)
      have h2:=h x (by simp)
      simp only [zL,List.length_cons,List.map_cons,List.sum_cons,Nat.add_mul,Nat.one_mul] at h1 ⊢
      omega
  intro l hl h
  exact Nat.le_trans (key l h) (Nat.mul_le_mul_right _ hl)
def FE (B:Nat) (x:aA):Prop:=okGPExpr x∧aX x≤B
def okE (B:Nat) (r:aA×aB):Prop:=FE B r.1∧okCur r.2
def okKs (B:Nat) (r:List aA×aB):Prop:=(r.1.length≤3∧∀ y ∈ r.1,FE B y)∧okCur r.2
theorem cIr (B : Nat) (d : Int) (m : Int) (hm : m ≤ 3) (H : ∀ c, okCur c → Yes (mM c (IntKind.wrap .i64 (d - 1))) (okE B)) :
    ∀ (k:Nat) (i:Int) b j h (l:List aA),m≤k+i→0≤i→i≤3→(l.length:Int)≤i→(∀ y ∈ l,FE B y)→okCur ⟨b,j,h⟩→Yes (R8 d m i b j h l) (okKs B):=by
  intro k
  induction k with
  | zero =>
    intro i b j h l h1 h2 h3 h4 h5 h6
    rw [R8,if_neg (by simp; omega)]
    exact Yes.some ⟨⟨by show l.length≤3; omega,h5⟩,h6⟩
  | succ k ih =>
    intro i b j h l h1 h2 h3 h4 h5 h6
    rw [R8]
    refine Yes.ite (fun hi=>?_) fun _=>Yes.some ⟨⟨by show l.length≤3; omega,h5⟩,h6⟩
    have hi':i<m:=by simpa using hi
    refine Yes.bind (H _ h6) fun r ⟨hz,hr⟩=>Yes.bind (iU (by simp; omega)) fun y hy=>?_
    subst hy
    rw [dN (by omega) (by omega)]
    refine ih _ _ _ _ _ (by omega) (by omega) (by omega) (by simp; omega) (fun y hy=>?_) hr
    rcases List.mem_append.1 hy with hy | hy
    · exact h5 y hy
    · have:y=r.1:=by simpa using hy
      rw [this]; exact hz
theorem bHo (B:Nat) (d:Int) (m:Int) (hm:m≤3) (H:∀ c,okCur c→Yes (mM c (IntKind.wrap .i64 (d - 1))) (okE B)) (c:aB) (h:okCur c):Yes (qA c d m) (okKs B):=by
  rw [qA]
  exact cIr B d m hm H m.toNat 0 c.b c.i c.h [] (by omega) (by omega) (by omega) (by simp) (by simp) h
def okP (B:Nat) (r:aL×aB):Prop:=(okGPlan r.1∧dU r.1≤40+8 * B∧0<r.1.items.length)∧okCur r.2
def pT (n:Int) (t:List Int):Prop:=(t.length:Int)≤n∧∀ x ∈ t,okI x
def pO (n:Int) (B:Nat) (o:List (List aA)):Prop:=(o.length:Int)≤n∧∀ l ∈ o,l.length≤1∧∀ y ∈ l,FE B y
def pL (n:Int) (B:Nat) (l:List aA):Prop:=(l.length:Int)≤n∧∀ y ∈ l,FE B y
def pN (n:Int) (l:List (List UInt8)):Prop:=(l.length:Int)≤n∧∀ s ∈ l,s.length≤8
def pK (B:Nat) (l:List bO):Prop:=l.length≤1∧∀ k ∈ l,FE B k.expr
theorem mem1 {α:Type} {x:α} {p:α→Prop} (hx:p x):∀ y ∈ [x],p y:=fun y hy=>by
  have:y=x:=by simpa using hy
  rw [this]; exact hx
theorem nW {α:Type} {l:List α} {x:α} {p:α→Prop} (h:∀ y ∈ l,p y) (hx:p x):∀ y ∈ l++[x],p y:=fun y hy=>by
  rcases List.mem_append.1 hy with hy | hy
  · exact h y hy
  · have:y=x:=by simpa using hy
    rw [this]; exact hx
theorem mkP {B : Nat} {t : List Int} {o : List (List aA)} {w i : List aA} {r : List bO} {n : List (List UInt8)} {d : Bool} {l : Int} (ht : pT 2 t) (ho : pO 2 B o) (hw : pL 3 B w) (hr : pK B r) (hi : pL 2 B i) (hn : pN 2 n) (hl : okI l) (hi0 : 0 < i.length) :
    okGPlan (aL.mk t o w r i n d l)∧dU (aL.mk t o w r i n d l)≤40+8 * B∧0<(aL.mk t o w r i n d l).items.length:=by
  obtain ⟨t1,t2⟩:=ht
  obtain ⟨o1,o2⟩:=ho
  obtain ⟨w1,w2⟩:=hw
  obtain ⟨r1,r2⟩:=hr
  obtain ⟨i1,i2⟩:=hi
  obtain ⟨n1,n2⟩:=hn
  refine ⟨?_,?_,hi0⟩
  · unfold okGPlan
    exact ⟨⟨by omega,t2⟩,⟨by omega,okLLX_of fun y hy=>⟨by have:=(o2 y hy).1; omega,fun x hx=>((o2 y hy).2 x hx).1⟩⟩,⟨by omega,okLX_of fun y hy=>(w2 y hy).1⟩,⟨by omega,okLK_of fun y hy=>(r2 y hy).1⟩,⟨by omega,okLX_of fun y hy=>(i2 y hy).1⟩,⟨by omega,fun s hs=>by have:=n2 s hs; unfold okS; omega⟩,trivial,hl⟩
  · have e1:dU (aL.mk t o w r i n d l)=zL z0 t+zL (zL aX) o+zL aX w+zL uM r+zL aX i+zL List.length n:=by simp only [dU,Z9,aKf,aM9,zL]
    have a1:=jR (z:=z0) (B:=0) (n:=2) (l:=t) (by omega) (fun _ _=>by simp [z0])
    have a2:=jR (z:=zL aX) (B:=1 * (1+B)) (n:=2) (l:=o) (by omega) (fun y hy=>jR (o2 y hy).1 fun x hx=>((o2 y hy).2 x hx).2)
    have a3:=jR (z:=aX) (B:=B) (n:=3) (l:=w) (by omega) (fun y hy=>(w2 y hy).2)
    have a4:=jR (z:=uM) (B:=B) (n:=1) (l:=r) (by omega) (fun y hy=>by have:=(r2 y hy).2; obtain ⟨p,q⟩:=y; simpa only [uM] using this)
    have a5:=jR (z:=aX) (B:=B) (n:=2) (l:=i) (by omega) (fun y hy=>(i2 y hy).2)
    have a6:=jR (z:=List.length) (B:=8) (n:=2) (l:=n) (by omega) n2
    rw [e1]; omega
theorem cKn {B:Nat} {d:Int} (H:∀ c,okCur c→Yes (mM c d) (okE B)) (HK:∀ c,okCur c→Yes (qA c (IntKind.wrap .i64 (d+1)) 1) (okKs B)) (c:aB) (h:okCur c):Yes (V8 c d) (okP B):=by
  have J4:∀ y1 (w:List aA) n i o t b j g r,pL 3 B w→pN 2 n→pL 2 B i→0<i.length→pO 2 B o→pT 2 t→pK B r→okCur ⟨b,j,g⟩→Yes (aAb y1 w n i o t b j g r) (okP B):=fun y1 w n i o t b j g r hw hn hi hi0 ho ht hr k=>by
    unfold aAb aEn
    refine Yes.bind (iP _ _ k) fun q k=>Yes.ite (fun _=>?_) fun _=>?_
    · exact Yes.bind (aLg _ k) fun q ⟨hq,k⟩=>Yes.some ⟨mkP ht ho hw hr hi hn hq hi0,k⟩
    · exact Yes.some ⟨mkP ht ho hw hr hi hn (okI_small (by omega) (by omega)) hi0,k⟩
  have J3:∀ y1 n i o t b j g (w:List aA),pL 3 B w→pN 2 n→pL 2 B i→0<i.length→pO 2 B o→pT 2 t→okCur ⟨b,j,g⟩→Yes (M9 d y1 n i o t (b,j,g,w)) (okP B):=fun y1 n i o t b j g w hw hn hi hi0 ho ht k=>by
    rw [M9]
    refine Yes.bind (iP _ _ k) fun q k=>Yes.ite (fun _=>?_) fun _=>?_
    · refine Yes.bind (H _ k) fun q ⟨hq,k⟩=>Yes.bind (iP _ _ k) fun q2 k=>Yes.bind (iU (by simp)) fun z hz=>?_
      subst hz
      exact J4 _ _ _ _ _ _ _ _ _ _ hw hn hi hi0 ho ht ⟨by simp,mem1 (p:=fun (k:bO)=>FE B k.expr) hq⟩ k
    · exact J4 _ _ _ _ _ _ _ _ _ _ hw hn hi hi0 ho ht ⟨by simp,by simp⟩ k
  have L2:∀ (y12:Int×aB) y1 o t,0≤y12.1→y12.1<2→pO 2 B o→pT 2 t→∀ (m:Nat) (x:Int) b j g n i,2≤m+x→0≤x→x≤2→pN x n→pL x B i→x≤i.length→okCur ⟨b,j,g⟩→Yes (zN d y12 y1 o t x (b,j,g,n,i)) (okP B):=by
    intro y12 y1 o t y0 y2 ho ht m
    have e0:IntKind.wrap .i64 (1+y12.1)=1+y12.1:=dN (by omega) (by omega)
    have fin:∀ (x:Int) b j g n i,¬ x<1+y12.1→x≤2→pN x n→pL x B i→x≤i.length→okCur ⟨b,j,g⟩→Yes (zN d y12 y1 o t x (b,j,g,n,i)) (okP B):=by
      intro x b j g n i hx h2 hn hi hi0 k
      have hi0':0<i.length:=by omega
      rw [zN,e0,if_neg (by simpa using hx)]
      have hn2:pN 2 n:=⟨by have:=hn.1; omega,hn.2⟩
      have hi2:pL 2 B i:=⟨by have:=hi.1; omega,hi.2⟩
      refine Yes.bind (iP _ _ k) fun q k=>Yes.ite (fun _=>?_) fun _=>?_
      · exact Yes.bind (HK _ k) fun q ⟨⟨q1,q2⟩,k⟩=>J3 _ _ _ _ _ _ _ _ _ ⟨by omega,q2⟩ hn2 hi2 hi0' ho ht k
      · exact J3 _ _ _ _ _ _ _ _ _ ⟨by simp,by simp⟩ hn2 hi2 hi0' ho ht k
    induction m with
    | zero=>intro x b j g n i h1 h2 h3 hn hi hi0 k; exact fin x b j g n i (by omega) h3 hn hi hi0 k
    | succ m ih =>
      intro x b j g n i h1 h2 h3 hn hi hi0 k
      by_cases hx:x<1+y12.1
      · rw [zN,e0,if_pos (by simpa using hx)]
        have l1:=hn.1
        have l2:=hi.1
        refine Yes.bind (H _ k) fun q ⟨hq,k⟩=>Yes.bind (iU (by simp; omega)) fun z hz=>Yes.bind (aMw _ k) fun s ⟨hs,k⟩=>Yes.bind (iU (by simp; omega)) fun z2 hz2=>?_
        subst hz hz2
        rw [dN (by omega) (by omega)]
        exact ih _ _ _ _ _ _ (by omega) (by omega) (by omega) ⟨by simp; omega,nW hn.2 hs⟩ ⟨by simp; omega,nW hi.2 hq⟩ (by simp; omega) k
      · exact fin x b j g n i hx h3 hn hi hi0 k
  have L0:∀ (y2:Int×aB) y1,0≤y2.1→y2.1<2→∀ (m:Nat) (x:Int) b j g o t,2≤m+x→0≤x→x≤2→pO x B o→pT x t→okCur ⟨b,j,g⟩→Yes (J7 d y2 y1 x b j (g,o,t)) (okP B):=by
    intro y2 y1 y0 yl m
    have e0:IntKind.wrap .i64 (1+y2.1)=1+y2.1:=dN (by omega) (by omega)
    have fin:∀ (x:Int) b j g o t,¬ x<1+y2.1→x≤2→pO x B o→pT x t→okCur ⟨b,j,g⟩→Yes (J7 d y2 y1 x b j (g,o,t)) (okP B):=by
      intro x b j g o t hx h2 ho ht k
      rw [J7,e0,if_neg (by simpa using hx)]
      refine Yes.bind (fD _ _ k) fun q ⟨q0,q1,k⟩=>?_
      exact L2 q y1 o t q0 (q1 (by decide)) ⟨by have:=ho.1; omega,ho.2⟩ ⟨by have:=ht.1; omega,ht.2⟩ 2 0 _ _ _ _ _ (by omega) (by omega) (by omega) ⟨by simp,by simp⟩ ⟨by simp,by simp⟩ (by simp) k
    induction m with
    | zero=>intro x b j g o t h1 h2 h3 ho ht k; exact fin x b j g o t (by omega) h3 ho ht k
    | succ m ih =>
      intro x b j g o t h1 h2 h3 ho ht k
      by_cases hx:x<1+y2.1
      · rw [J7,e0,if_pos (by simpa using hx)]
        have l1:=ho.1
        have l2:=ht.1
        have J1:∀ (q:Int) (w:List aA) b j g,okI q→w.length≤1→(∀ y ∈ w,FE B y)→okCur ⟨b,j,g⟩→Yes (aA6 d y2 x y1 (t++[q]) o (b,j,g,w)) (okP B):=fun q w b j g hq hw1 hw2 k=>by
          rw [aA6]
          refine Yes.bind (iU (by simp; omega)) fun z hz=>?_
          subst hz
          rw [dN (by omega) (by omega)]
          exact ih _ _ _ _ _ _ (by omega) (by omega) (by omega) ⟨by simp; omega,nW ho.2 ⟨hw1,hw2⟩⟩ ⟨by simp; omega,nW ht.2 hq⟩ k
        refine Yes.bind (fD _ _ k) fun q ⟨q0,q1,k⟩=>Yes.bind (iU (by simp; omega)) fun z hz=>Yes.bind (aAd _ _ _ _ k) fun q2 k=>Yes.bind (Q:=fun _=>True) ⟨_,rfl,trivial⟩ fun _ _=>?_
        have hq:=q1 (by decide)
        subst hz
        refine Yes.ite (fun _=>?_) fun _=>?_
        · refine Yes.bind (H _ k) fun e ⟨he,k⟩=>Yes.bind (iU (by simp)) fun z hz=>?_
          subst hz
          exact J1 _ _ _ _ _ (okI_small (by omega) (by omega)) (by simp) (mem1 he) k
        · exact J1 _ _ _ _ _ (okI_small (by omega) (by omega)) (by simp) (by simp) k
      · exact fin x b j g o t hx h3 ho ht k
  rw [V8]
  refine Yes.bind (iP _ _ h) fun y1 k=>Yes.bind (fD _ _ k) fun y2 ⟨q0,q1,k⟩=>?_
  exact L0 y2 y1 q0 (q1 (by decide)) 2 0 _ _ _ _ _ (by omega) (by omega) (by omega) ⟨by simp,by simp⟩ ⟨by simp,by simp⟩ k
def Zb:Nat→Nat
  | 0=>10
  | n+1=>60+11 * Zb n
theorem okV_E {B:Nat} {r:bH×aB} {a b u t:Int} {q:Bool} (h:okV B r) (h1:okI a) (h2:okI b) (h4:okI u) (h5:okI t):FE B (aA.mk a b q r.1 u t [] []) :=
  ⟨mkE h1 h2 h.1 h4 h5 (by simp) (by simp) (by simp) (by simp),by rw [yS]; have:=h.2.1; simp [zL]; omega⟩
theorem aQ8:okGValue ⟨0,0,[]⟩:=⟨okI_small (by decide) (by decide),okI_small (by decide) (by decide),by unfold okS; simp⟩
theorem aYv (n:Int) (h0 : -1000≤n) (h1:n≤1000):okI (IntKind.wrap .i64 n):=by rw [dN (by omega) (by omega)]; exact okI_small h0 h1
theorem aEr {B:Nat} {a b u t:Int} {q:Bool} {ks:List aA} (h1:okI a) (h2:okI b) (h4:okI u) (h5:okI t) (hk:ks.length≤3∧∀ y ∈ ks,FE B y):FE (60+11 * B) (aA.mk a b q ⟨0,0,[]⟩ u t ks []) :=
  ⟨mkE h1 h2 aQ8 h4 h5 (by omega) (fun y hy=>(hk.2 y hy).1) (by simp) (by simp),by rw [yS]; have:=jR (z:=aX) hk.1 fun y hy=>(hk.2 y hy).2; simp only [zL,List.length_nil,List.map_nil,List.sum_nil] at this ⊢; omega⟩
theorem bCr {B:Nat} {a b u t:Int} {q:Bool} {ks:List aA} {p:aL} (h1:okI a) (h2:okI b) (h4:okI u) (h5:okI t) (hk:ks.length≤3∧∀ y ∈ ks,FE B y) (hp:okGPlan p∧dU p≤40+8 * B∧0<p.items.length):FE (60+11 * B) (aA.mk a b q ⟨0,0,[]⟩ u t ks [p]) :=
  ⟨mkE h1 h2 aQ8 h4 h5 (by omega) (fun y hy=>(hk.2 y hy).1) (by simp) (mem1 hp.1),by rw [yS]; have:=jR (z:=aX) hk.1 fun y hy=>(hk.2 y hy).2; have:=hp.2.1; simp only [zL,List.length_nil,List.length_cons,List.map_cons,List.map_nil,List.sum_cons,List.sum_nil] at *; omega⟩
theorem bBc (c:aB) (h:okCur c) (B:Nat) (hB:10≤B):Yes ((fC c 2)>>=fun (y3:Bool×aB)=>if y3.1=true then ((eD y3.2 3)>>=fun (y4:Int×aB)=>(eD y4.2 4)>>=fun (y5:Int×aB)=>some ((aA.mk 2 0 false (bH.mk 0 0 []) y4.1 y5.1 ([]:List aA) ([]:List aL)),y5.2)) else ((aAr y3.2)>>=fun (y6:bH×aB)=>some ((aA.mk 1 0 false y6.1 0 0 ([]:List aA) ([]:List aL)),y6.2))) (okE B):=by
  have o:∀ n:Int,-1000≤n→n≤1000→okI n:=fun n h0 h1=>okI_small h0 h1
  refine Yes.bind (iP _ _ h) fun r k=>Yes.ite (fun _=>?_) fun _=>?_
  · refine Yes.bind (fD _ _ k) fun r ⟨a0,a1,k⟩=>Yes.bind (fD _ _ k) fun r2 ⟨b0,b1,k⟩=>Yes.some ⟨⟨?_,?_⟩,k⟩
    · have:=a1 (by decide); have:=b1 (by decide)
      exact mkE (o _ (by omega) (by omega)) (o _ (by omega) (by omega)) aQ8 (o _ (by omega) (by omega)) (o _ (by omega) (by omega)) (by simp) (by simp) (by simp) (by simp)
    · rw [yS]; simp [zL]
  · refine Yes.bind (bR8 _ k) fun r hr=>Yes.some ⟨?_,hr.2.2⟩
    have:=okV_E (B:=4) (q:=false) hr (o 1 (by omega) (by omega)) (o 0 (by omega) (by omega)) (o 0 (by omega) (by omega)) (o 0 (by omega) (by omega))
    refine ⟨this.1,?_⟩
    have h2:=this.2
    show aX (aA.mk 1 0 false r.1 0 0 [] [])≤B
    omega
theorem bH9 (n:Nat):10≤Zb n:=by cases n <;> simp only [Zb] <;> omega
theorem cB9:∀ (n:Nat) (d:Int) (c:aB),-100≤d→d≤n→n≤4→okCur c→Yes (mM c d) (okE (Zb n)):=by
  intro n
  have o:∀ n:Int,-1000≤n→n≤1000→okI n:=fun n h0 h1=>okI_small h0 h1
  induction n with
  | zero =>
    intro d c hd0 hd _ h
    rw [mM]
    refine Yes.bind (aAd _ _ _ _ h) fun r k=>Yes.bind (Q:=fun q=>q=true) ⟨_,rfl,by rw [if_pos (by simpa using hd)]⟩ fun q hq=>?_
    rw [if_pos hq]
    exact bBc _ k _ (Nat.le_refl _)
  | succ n ih =>
    intro d c hd0 hd hn h
    have hB:Zb (n+1)=60+11 * Zb n:=rfl
    rw [mM]
    refine Yes.bind (aAd _ _ _ _ h) fun r k=>Yes.bind (Q:=fun q=>q=true∨0<d) ⟨_,rfl,?_⟩ fun q hq=>Yes.ite (fun _=>bBc _ k _ (bH9 _)) fun hq2=>?_
    · by_cases h0:d≤0
      · exact .inl (by rw [if_pos (by simpa using h0)])
      · exact .inr (by omega)
    · have h0:0<d:=hq.resolve_left hq2
      rw [hB]
      have e1:IntKind.wrap .i64 (d - 1)=d - 1:=dN (by omega) (by omega)
      have K:∀ m c,m≤3→okCur c→Yes (qA c d m) (okKs (Zb n)):=fun m c hm k=>bHo (Zb n) d m hm (fun c k=>by rw [e1]; exact ih _ c (by omega) (by omega) (by omega) k) c k
      have P2:∀ c,1<d→okCur c→Yes (V8 c (IntKind.wrap .i64 (d - 2))) (okP (Zb n)):=fun c h2 k=>by
        rw [dN (n:=d - 2) (by omega) (by omega)]
        have H:∀ c,okCur c→Yes (mM c (d - 2)) (okE (Zb n)):=fun c k=>ih _ c (by omega) (by omega) (by omega) k
        exact cKn H (fun c k=>bHo (Zb n) _ 1 (by omega) (fun c k=>by rw [dN (n:=d - 2+1) (by omega) (by omega),dN (by omega) (by omega)]; have:=H c k; rwa [show d - 2+1 - 1=d - 2 by omega]) c k) c k
      have J0:∀ y:Int×aB,okCur y.2→Yes (R6 d y) (okE (60+11 * Zb n)):=fun y k=>by
        rw [R6]
        exact Yes.bind (fD _ _ k) fun r ⟨a0,a1,k⟩=>Yes.bind (K 2 _ (by omega) k) fun r2 ⟨hk,k⟩=>Yes.some ⟨aEr (o _ (by omega) (by omega)) (aYv _ (by omega) (by have:=a1 (by decide); omega)) (o _ (by omega) (by omega)) (o _ (by omega) (by omega)) hk,k⟩
      refine Yes.bind (fD _ _ k) fun r ⟨_,_,k⟩=>Yes.ite (fun _=>?_) fun _=>Yes.ite (fun _=>?_) fun _=>Yes.ite (fun _=>?_) fun _=>Yes.ite (fun _=>?_) fun _=>Yes.ite (fun _=>?_) fun _=>Yes.ite (fun _=>?_) fun _=>J0 _ k
      · exact Yes.bind (fD _ _ k) fun r ⟨a0,a1,k⟩=>Yes.bind (K 1 _ (by omega) k) fun r2 ⟨hk,k⟩=>Yes.some ⟨aEr (o _ (by omega) (by omega)) (aYv _ (by omega) (by have:=a1 (by decide); omega)) (o _ (by omega) (by omega)) (o _ (by omega) (by omega)) hk,k⟩
      · exact Yes.bind (iP _ _ k) fun r k=>Yes.bind (K 1 _ (by omega) k) fun r2 ⟨hk,k⟩=>Yes.some ⟨aEr (o _ (by omega) (by omega)) (o _ (by omega) (by omega)) (o _ (by omega) (by omega)) (o _ (by omega) (by omega)) hk,k⟩
      · exact Yes.bind (iP _ _ k) fun r k=>Yes.bind (K 3 _ (by omega) k) fun r2 ⟨hk,k⟩=>Yes.some ⟨aEr (o _ (by omega) (by omega)) (o _ (by omega) (by omega)) (o _ (by omega) (by omega)) (o _ (by omega) (by omega)) hk,k⟩
      · exact Yes.bind (iP _ _ k) fun r k=>Yes.bind (K 3 _ (by omega) k) fun r2 ⟨hk,k⟩=>Yes.some ⟨aEr (o _ (by omega) (by omega)) (o _ (by omega) (by omega)) (o _ (by omega) (by omega)) (o _ (by omega) (by omega)) hk,k⟩
      · refine Yes.ite (fun h2=>?_) fun _=>J0 _ k
        exact Yes.bind (iP _ _ k) fun r k=>Yes.bind (K 1 _ (by omega) k) fun r2 ⟨hk,k⟩=>Yes.bind (P2 _ (by simpa using h2) k) fun r3 ⟨hp,k⟩=>Yes.some ⟨bCr (o _ (by omega) (by omega)) (o _ (by omega) (by omega)) (o _ (by omega) (by omega)) (o _ (by omega) (by omega)) hk hp,k⟩
      · refine Yes.ite (fun h2=>?_) fun _=>J0 _ k
        exact Yes.bind (P2 _ (by simpa using h2) k) fun r3 ⟨hp,k⟩=>Yes.some ⟨bCr (o _ (by omega) (by omega)) (o _ (by omega) (by omega)) (o _ (by omega) (by omega)) (o _ (by omega) (by omega)) ⟨by simp,by simp⟩ hp,k⟩
def FZ (B:Nat) (r:aA×aB):Prop:=aX r.1≤B∧okCur r.2
def KZ (B m:Nat) (r:List aA×aB):Prop:=(r.1.length≤m∧∀ y ∈ r.1,aX y≤B)∧okCur r.2
def PZ (B:Nat) (r:aL×aB):Prop:=dU r.1≤40+8 * B∧okCur r.2
theorem cF2 (c:aB) (ty:Int) (h:okCur c):Yes (aDb c ty) fun r=>r.1.text.length≤4∧okCur r.2:=by
  unfold aDb
  refine Yes.bind (iP _ _ h) fun r k=>Yes.ite (fun _=>Yes.some ⟨by simp,k⟩) fun _=>Yes.ite (fun _=>?_) fun _=>Yes.ite (fun _=>?_) fun _=>?_
  · refine Yes.bind (aFp _ _ (by decide) k) fun r ⟨hm,k⟩=>?_
    have:∀ v ∈ ([[],[97],[98],[97,98]]:List (List UInt8)),v.length≤4:=by decide
    exact Yes.bind (Q:=fun v=>v.text.length≤4) ⟨_,rfl,this _ hm⟩ fun v hv=>Yes.some ⟨hv,k⟩
  · refine Yes.bind (iP _ _ k) fun r k=>Yes.bind (Q:=fun v:bH=>v.text.length≤4) ?_ fun v hv=>Yes.some ⟨hv,k⟩
    unfold aC4
    exact Yes.ite (fun _=>Yes.some (by simp)) fun _=>Yes.some (by simp)
  · exact Yes.bind (aLg _ k) fun r ⟨_,k⟩=>Yes.bind (Q:=fun v:bH=>v.text.length≤4) ⟨_,rfl,by simp⟩ fun v hv=>Yes.some ⟨hv,k⟩
theorem bGy (c:aB) (ty:Int) (h:okCur c):Yes (T9 c ty) fun r=>r.1.text.length≤4∧okCur r.2:=by
  unfold T9 aF9
  exact Yes.bind (cF2 c ty h) fun r ⟨h1,k⟩=>Yes.ite (fun _=>Yes.bind (aXn _ _ (by decide) k) fun q k=>Yes.some ⟨h1,k⟩) fun _=>Yes.some ⟨h1,k⟩
theorem cHn (c:aB) (env:List (List Int)) (hv:jE env) (hl:env.length≤4194304) (ty:Int) (h:okCur c):Yes (aA9 c env ty) (FZ 10):=by
  have key:∀ i,i≤env.length→∀ x b0 b3 b4 (t:List UInt8) u a b j g,t.length≤4→okCur ⟨b,j,g⟩→Yes (O5 env ty x (i:Nat) b0 b3 b4 (t,u,a,b,j,g)) (FZ 10):=by
    refine iI ?_ ?_
    · intro x b0 b3 b4 t u a b j g ht k
      rw [O5,if_neg (by simp)]
      refine Yes.some ⟨?_,k⟩
      rw [yS]; simp [zL]; omega
    · intro i hi ih x b0 b3 b4 t u a b j g ht k
      rw [O5,if_pos (by simpa using hi)]
      have hr:=(hv _ (List.getElem_mem hi)).1
      have inner:∀ m,m≤env[i].length→∀ x b0 b3 b4 (t:List UInt8) u a b j g,t.length≤4→okCur ⟨b,j,g⟩→Yes (Y1 env ty (i:Nat) x (m:Nat) b0 b3 b4 (t,u,a,b,j,g)) (FZ 10):=by
        refine iI ?_ ?_
        · intro x b0 b3 b4 t u a b j g ht k
          rw [Y1]
          simp only [eF hi,fO,Nat.lt_irrefl,decide_false,Bool.false_eq_true,if_false,gG hi (by omega),Option.bind_eq_bind,Option.bind_some]
          exact ih _ _ _ _ _ _ _ _ _ _ ht k
        · intro m hm im x b0 b3 b4 t u a b j g ht k
          have J2:∀ x b0 b3 b4 (t:List UInt8) u a b j g,t.length≤4→okCur ⟨b,j,g⟩→Yes (yX env ty (i:Nat) (m:Nat) x b0 b3 b4 (t,u,a,b,j,g)) (FZ 10):=by
            intro x b0 b3 b4 t u a b j g ht k
            rw [yX,gG hm (by omega)]
            exact im _ _ _ _ _ _ _ _ _ _ ht k
          rw [Y1]
          simp only [eF hi,fO,hm,decide_true,if_true,eF hm,Option.bind_eq_bind,Option.bind_some]
          refine Yes.ite (fun _=>?_) fun _=>J2 _ _ _ _ _ _ _ _ _ _ ht k
          exact Yes.bind (iP _ _ k) fun r k=>Yes.ite (fun _=>J2 _ _ _ _ _ _ _ _ _ _ (by simp) k) fun _=>J2 _ _ _ _ _ _ _ _ _ _ ht k
      simpa using inner 0 (by omega) x b0 b3 b4 t u a b j g ht k
  unfold aA9
  refine Yes.bind (bGy c ty h) fun r ⟨h1,k⟩=>?_
  simpa using key 0 (by omega) _ _ _ _ _ _ _ _ _ _ h1 k
theorem bVd (B:Nat) (cat:aP) (env:List (List Int)) (ty d:Int) (m:Int) (hm:m≤4) (H:∀ c,okCur c→Yes (mJ c cat env ty (IntKind.wrap .i64 (d - 1))) (FZ B)) (c:aB) (h:okCur c):Yes (lV c cat env ty d m) (KZ B 4):=by
  have key:∀ (k:Nat) (i:Int) b j h (l:List aA),m≤k+i→0≤i→i≤4→(l.length:Int)≤i→(∀ y ∈ l,aX y≤B)→okCur ⟨b,j,h⟩→Yes (uA env ty d m cat i (b,j,h,l)) (KZ B 4):=by
    intro k
    induction k with
    | zero =>
      intro i b j h l h1 h2 h3 h4 h5 h6
      rw [uA,if_neg (by simp; omega)]
      exact Yes.some ⟨⟨by show l.length≤4; omega,h5⟩,h6⟩
    | succ k ih =>
      intro i b j h l h1 h2 h3 h4 h5 h6
      rw [uA]
      refine Yes.ite (fun hi=>?_) fun _=>Yes.some ⟨⟨by show l.length≤4; omega,h5⟩,h6⟩
      have hi':i<m:=by simpa using hi
      refine Yes.bind (H _ h6) fun r ⟨hz,hr⟩=>Yes.bind (iU (by simp; omega)) fun y hy=>?_
      subst hy
      rw [dN (by omega) (by omega)]
      exact ih _ _ _ _ _ (by omega) (by omega) (by omega) (by simp; omega) (nW h5 hz) hr
  rw [lV]
  exact key m.toNat 0 c.b c.i c.h [] (by omega) (by omega) (by omega) (by simp) (by simp) h
def qO (n:Int) (B:Nat) (o:List (List aA)):Prop:=(o.length:Int)≤n∧∀ l ∈ o,l.length≤1∧∀ y ∈ l,aX y≤B
def qL (n:Int) (B:Nat) (l:List aA):Prop:=(l.length:Int)≤n∧∀ y ∈ l,aX y≤B
def qK (B:Nat) (l:List bO):Prop:=l.length≤1∧∀ k ∈ l,aX k.expr≤B
theorem bH1 {B:Nat} {t:List Int} {o:List (List aA)} {w i:List aA} {r:List bO} {n:List (List UInt8)} {d:Bool} {l:Int} (ht:t.length≤2) (ho:qO 2 B o) (hw:qL 1 B w) (hr:qK B r) (hi:qL 2 B i) (hn:pN 2 n):dU (aL.mk t o w r i n d l)≤40+8 * B:=by
  obtain ⟨o1,o2⟩:=ho
  obtain ⟨w1,w2⟩:=hw
  obtain ⟨r1,r2⟩:=hr
  obtain ⟨i1,i2⟩:=hi
  obtain ⟨n1,n2⟩:=hn
  have e1:dU (aL.mk t o w r i n d l)=zL z0 t+zL (zL aX) o+zL aX w+zL uM r+zL aX i+zL List.length n:=by simp only [dU,Z9,aKf,aM9,zL]
  have a1:=jR (z:=z0) (B:=0) (n:=2) (l:=t) (by omega) (fun _ _=>by simp [z0])
  have a2:=jR (z:=zL aX) (B:=1 * (1+B)) (n:=2) (l:=o) (by omega) (fun y hy=>jR (o2 y hy).1 fun x hx=>(o2 y hy).2 x hx)
  have a3:=jR (z:=aX) (B:=B) (n:=1) (l:=w) (by omega) (fun y hy=>w2 y hy)
  have a4:=jR (z:=uM) (B:=B) (n:=1) (l:=r) (by omega) (fun y hy=>by have:=r2 y hy; obtain ⟨p,q⟩:=y; simpa only [uM] using this)
  have a5:=jR (z:=aX) (B:=B) (n:=2) (l:=i) (by omega) (fun y hy=>i2 y hy)
  have a6:=jR (z:=List.length) (B:=8) (n:=2) (l:=n) (by omega) n2
  rw [e1]; omega
theorem aZ6 {cat:aP} (hc:lW cat) {env:List (List Int)} (hv:jE env) {l:List Int} (hl:l.length≤1000):jE ((jA cat [] l).1::env):=by
  obtain ⟨a,b⟩:=aLw cat hc l [] (by simp)
  exact aOi (by simp only [List.length_nil] at b; omega) a hv
theorem bIp {B : Nat} {d : Int} {cat : aP} (hc : lW cat) (env : List (List Int)) (hv : jE env) (hl : env.length ≤ 1000) (types : List Int) (hty : types.length ≤ 2)
    (H:∀ c ty env',jE env'→env'.length=env.length+1→okCur c→Yes (mJ c cat env' ty d) (FZ B)) (c:aB) (h:okCur c):Yes (yL c cat env types d) (PZ B):=by
  have J4:∀ y1 (w:List aA) n i o t b j g r,qL 1 B w→pN 2 n→qL 2 B i→qO 2 B o→t.length≤2→qK B r→okCur ⟨b,j,g⟩→Yes (aC1 y1 w n i o t b j g r) (PZ B):=fun y1 w n i o t b j g r hw hn hi ho ht hr k=>by
    unfold aC1 aE6
    refine Yes.bind (iP _ _ k) fun q k=>Yes.ite (fun _=>?_) fun _=>?_
    · exact Yes.bind (fD _ _ k) fun q ⟨_,_,k⟩=>Yes.some ⟨bH1 ht ho hw hr hi hn,k⟩
    · exact Yes.some ⟨bH1 ht ho hw hr hi hn,k⟩
  have J3:∀ env' y1 n i o t b j g (w:List aA),jE env'→env'.length=env.length+1→qL 1 B w→pN 2 n→qL 2 B i→qO 2 B o→t.length≤2→okCur ⟨b,j,g⟩→Yes (aCf d env' cat y1 n i (o,t,b,j,g,w)) (PZ B):=fun env' y1 n i o t b j g w he hel hw hn hi ho ht k=>by
    rw [aCf]
    refine Yes.bind (iP _ _ k) fun q k=>Yes.ite (fun _=>?_) fun _=>?_
    · refine Yes.bind (fD _ _ k) fun q ⟨_,_,k⟩=>Yes.bind (H _ _ _ he hel k) fun q ⟨hq,k⟩=>Yes.bind (iP _ _ k) fun q2 k=>Yes.bind (iU (by simp)) fun z hz=>?_
      subst hz
      exact J4 _ _ _ _ _ _ _ _ _ _ hw hn hi ho ht ⟨by simp,mem1 (p:=fun (k:bO)=>aX k.expr≤B) hq⟩ k
    · exact J4 _ _ _ _ _ _ _ _ _ _ hw hn hi ho ht ⟨by simp,by simp⟩ k
  have L2:∀ env' y1 o t,jE env'→env'.length=env.length+1→qO 2 B o→t.length≤2→∀ x,x≤types.length→∀ b j g n i,pN x n→qL x B i→okCur ⟨b,j,g⟩→Yes (Y6 types d env' cat y1 o t ((x:Nat),b,j,g,n,i)) (PZ B):=by
    intro env' y1 o t he hel ho ht
    refine iI ?_ ?_
    · intro b j g n i hn hi k
      rw [Y6,if_neg (by simp)]
      have hn2:pN 2 n:=⟨by have:=hn.1; omega,hn.2⟩
      have hi2:qL 2 B i:=⟨by have:=hi.1; omega,hi.2⟩
      refine Yes.bind (iP _ _ k) fun q k=>Yes.ite (fun _=>?_) fun _=>?_
      · exact Yes.bind (H _ _ _ he hel k) fun q ⟨hq,k⟩=>J3 _ _ _ _ _ _ _ _ _ _ he hel ⟨by simp,mem1 hq⟩ hn2 hi2 ho ht k
      · exact J3 _ _ _ _ _ _ _ _ _ _ he hel ⟨by simp,by simp⟩ hn2 hi2 ho ht k
    · intro x hx ih b j g n i hn hi k
      rw [Y6,if_pos (by simpa using hx)]
      have l1:=hn.1
      have l2:=hi.1
      simp only [eF hx,gG hx (by omega),Option.bind_eq_bind,Option.bind_some]
      refine Yes.bind (H _ _ _ he hel k) fun q ⟨hq,k⟩=>Yes.bind (iU (by simp; omega)) fun z hz=>Yes.bind (aFp _ _ (by decide) k) fun s ⟨hs,k⟩=>Yes.bind (iU (by simp; omega)) fun z2 hz2=>?_
      subst hz hz2
      have hs8:s.1.length≤8:=by
        have:∀ v ∈ ([[97],[98],[99],[120],[121,32,122],[99,49]]:List (List UInt8)),v.length≤8:=by decide
        exact this _ hs
      exact ih _ _ _ _ _ ⟨by simp; omega,nW hn.2 hs8⟩ ⟨by simp; omega,nW hi.2 hq⟩ k
  have L0:∀ (y2:Int×aB) y1,0≤y2.1→y2.1<2→∀ (m:Nat) (x:Int) b j g o (t:List Int),2≤m+x→0≤x→x≤2→qO x B o→(t.length:Int)≤x→okCur ⟨b,j,g⟩→Yes (A9 env types d y2 cat y1 (x,b,j,g,o,t)) (PZ B):=by
    intro y2 y1 y0 yl m
    have e0:IntKind.wrap .i64 (1+y2.1)=1+y2.1:=dN (by omega) (by omega)
    have fin:∀ (x:Int) b j g o (t:List Int),¬ x<1+y2.1→x≤2→qO x B o→(t.length:Int)≤x→okCur ⟨b,j,g⟩→Yes (A9 env types d y2 cat y1 (x,b,j,g,o,t)) (PZ B):=by
      intro x b j g o t hx h2 ho ht k
      rw [A9]
      dsimp only
      rw [e0,if_neg (by simpa using hx),(aDy cat hc t (by omega)).2]
      simp only [Option.bind_eq_bind,Option.bind_some]
      rw [(aMx _ env (by omega)).2]
      simp only [Option.bind_some]
      exact L2 _ y1 o t (aZ6 hc hv (by omega)) (by simp) ⟨by have:=ho.1; omega,ho.2⟩ (by omega) 0 (by omega) _ _ _ _ _ ⟨by simp,by simp⟩ ⟨by simp,by simp⟩ k
    induction m with
    | zero=>intro x b j g o t h1 h2 h3 ho ht k; exact fin x b j g o t (by omega) h3 ho ht k
    | succ m ih =>
      intro x b j g o t h1 h2 h3 ho ht k
      by_cases hx:x<1+y2.1
      · rw [A9]
        dsimp only
        rw [e0,if_pos (by simpa using hx)]
        have l1:=ho.1
        have J1:∀ (q:Int) (w:List aA) b j g,w.length≤1→(∀ y ∈ w,aX y≤B)→okCur ⟨b,j,g⟩→Yes (aAn env types d y2 x cat y1 (t++[q],o,b,j,g,w)) (PZ B):=fun q w b j g hw1 hw2 k=>by
          rw [aAn]
          refine Yes.bind (iU (by simp; omega)) fun z hz=>?_
          subst hz
          rw [dN (by omega) (by omega)]
          exact ih _ _ _ _ _ _ (by omega) (by omega) (by omega) ⟨by simp; omega,nW ho.2 ⟨hw1,hw2⟩⟩ (by simp; omega) k
        refine Yes.bind (fD _ _ k) fun q ⟨q0,q1,k⟩=>Yes.bind (iU (by simp; omega)) fun z hz=>?_
        subst hz
        rw [(aDy cat hc (t++[q.1]) (by simp; omega)).2]
        simp only [Option.bind_eq_bind,Option.bind_some]
        refine Yes.bind (aAd _ _ _ _ k) fun q2 k=>?_
        refine Yes.ite (fun _=>?_) fun _=>?_
        · rw [(aMx _ env (by omega)).2]
          simp only [Option.bind_some]
          refine Yes.bind (H _ _ _ (aZ6 hc hv (by simp; omega)) (by simp) k) fun e ⟨he,k⟩=>Yes.bind (iU (by simp)) fun z hz=>?_
          subst hz
          exact J1 _ _ _ _ _ (by simp) (mem1 he) k
        · exact J1 _ _ _ _ _ (by simp) (by simp) k
      · exact fin x b j g o t hx h3 ho ht k
  rw [yL]
  refine Yes.bind (iP _ _ h) fun y1 k=>Yes.bind (fD _ _ k) fun y2 ⟨q0,q1,k⟩=>?_
  exact L0 y2 y1 q0 (q1 (by decide)) 2 0 _ _ _ _ _ (by omega) (by omega) (by omega) ⟨by simp,by simp⟩ (by simp) k
theorem wK {B:Nat} {a b u t:Int} {q:Bool} {ks:List aA} (hk:ks.length≤4∧∀ y ∈ ks,aX y≤B):aX (aA.mk a b q ⟨0,0,[]⟩ u t ks [])≤60+11 * B:=by
  rw [yS]; have:=jR (z:=aX) hk.1 hk.2; simp only [zL,List.length_nil,List.map_nil,List.sum_nil] at this ⊢; omega
theorem bE1 {B:Nat} {a b u t:Int} {q:Bool} {ks:List aA} {p:aL} (hk:ks.length≤1∧∀ y ∈ ks,aX y≤B) (hp:dU p≤40+8 * B):aX (aA.mk a b q ⟨0,0,[]⟩ u t ks [p])≤60+11 * B:=by
  rw [yS]; have:=jR (z:=aX) hk.1 hk.2; simp only [zL,List.length_nil,List.length_cons,List.map_cons,List.map_nil,List.sum_cons,List.sum_nil] at *; omega
theorem cJ4 (B:Nat) (cat:aP) (env:List (List Int)) (ty d:Int) (H:∀ c,okCur c→Yes (mJ c cat env ty (IntKind.wrap .i64 (d - 1))) (FZ B)) (c:aB) (h:okCur c):Yes (lV c cat env ty d 1) (KZ B 1):=by
  rw [lV,uA,if_pos (by simp)]
  refine Yes.bind (H _ h) fun r ⟨hz,hr⟩=>Yes.bind (iU (by simp)) fun y hy=>?_
  subst hy
  rw [uA,if_neg (by decide)]
  exact Yes.some ⟨⟨by simp,by simpa using hz⟩,hr⟩
theorem aZ2 (c:aB) (env:List (List Int)) (hv:jE env) (hl:env.length≤4194304) (ty:Int) (h:okCur c) (B:Nat) (hB:10≤B):Yes ((fC c 3)>>=fun (y3:Bool×aB)=>if y3.1=true then ((T9 y3.2 ty)>>=fun (y4:bH×aB)=>some ((aA.mk 1 0 false y4.1 0 0 ([]:List aA) ([]:List aL)),y4.2)) else ((aA9 y3.2 env ty)>>=fun (y5:aA×aB)=>some (y5.1,y5.2))) (FZ B):=by
  refine Yes.bind (iP _ _ h) fun r k=>Yes.ite (fun _=>?_) fun _=>?_
  · refine Yes.bind (bGy _ _ k) fun r ⟨h1,k⟩=>Yes.some ⟨?_,k⟩
    dsimp only
    rw [yS]; simp [zL]; omega
  · exact Yes.bind (cHn _ env hv hl ty k) fun r ⟨h1,k⟩=>Yes.some ⟨by show aX r.1≤B; omega,k⟩
theorem bP3 {cat:aP} (hc:lW cat):∀ (n:Nat) (d:Int) (c:aB) (ty:Int) (env:List (List Int)),-100≤d→d≤n→n≤4→jE env→env.length+n≤1000→okCur c→Yes (mJ c cat env ty d) (FZ (Zb n)):=by
  intro n
  induction n with
  | zero =>
    intro d c ty env hd0 hd _ hv hl h
    rw [mJ]
    refine Yes.bind (aAd _ _ _ _ h) fun r k=>Yes.bind (Q:=fun q=>q=true) ⟨_,rfl,by rw [if_pos (by simpa using hd)]⟩ fun q hq=>?_
    rw [if_pos hq]
    exact aZ2 _ env hv (by omega) ty k _ (Nat.le_refl _)
  | succ n ih =>
    intro d c ty env hd0 hd hn hv hl h
    have hB:Zb (n+1)=60+11 * Zb n:=rfl
    rw [mJ]
    refine Yes.bind (aAd _ _ _ _ h) fun r k=>Yes.bind (Q:=fun q=>q=true∨0<d) ⟨_,rfl,?_⟩ fun q hq=>Yes.ite (fun _=>aZ2 _ env hv (by omega) ty k _ (bH9 _)) fun hq2=>?_
    · by_cases h0:d≤0
      · exact .inl (by rw [if_pos (by simpa using h0)])
      · exact .inr (by omega)
    have h0:0<d:=hq.resolve_left hq2
    rw [hB]
    have e1:IntKind.wrap .i64 (d - 1)=d - 1:=dN (by omega) (by omega)
    have K:∀ m c ty,m≤4→okCur c→Yes (lV c cat env ty d m) (KZ (Zb n) 4):=fun m c ty hm k=>bVd (Zb n) cat env ty d m hm (fun c k=>by rw [e1]; exact ih _ c ty env (by omega) (by omega) (by omega) hv (by omega) k) c k
    have K1:∀ c ty,okCur c→Yes (lV c cat env ty d 1) (KZ (Zb n) 1):=fun c ty k=>cJ4 (Zb n) cat env ty d (fun c k=>by rw [e1]; exact ih _ c ty env (by omega) (by omega) (by omega) hv (by omega) k) c k
    have P2:∀ c (t:Int),1<d→okCur c→Yes (yL c cat env [t] (IntKind.wrap .i64 (d - 2))) (PZ (Zb n)):=fun c t h2 k=>by
      rw [dN (n:=d - 2) (by omega) (by omega)]
      exact bIp hc env hv (by omega) [t] (by simp) (fun c ty env' he hel k=>ih _ c ty env' (by omega) (by omega) (by omega) he (by omega) k) c k
    have J1:∀ (y1 y3:Int×aB),okCur y3.2→Yes (P7 env d y1 cat y3) (FZ (60+11 * Zb n)):=fun y1 y3 k=>by
      rw [P7]
      exact Yes.bind (fD _ _ k) fun r ⟨_,_,k⟩=>Yes.bind (K 2 _ _ (by omega) k) fun r2 ⟨hk,k⟩=>Yes.some ⟨wK hk,k⟩
    have J0:∀ (y1:Int×aB) (y2:Bool×aB) (y3:Int×aB) x,okCur y3.2→Yes (aAs env d y1 y2 y3 cat x) (FZ (60+11 * Zb n)):=fun y1 y2 y3 x k=>by
      rw [aAs]
      refine Yes.ite (fun _=>?_) fun _=>Yes.ite (fun _=>?_) fun _=>Yes.ite (fun _=>?_) fun _=>Yes.ite (fun _=>?_) fun _=>Yes.ite (fun _=>?_) fun _=>Yes.ite (fun _=>?_) fun _=>Yes.ite (fun _=>?_) fun _=>J1 _ _ k
      · exact Yes.bind (fD _ _ k) fun r ⟨_,_,k⟩=>Yes.bind (K 2 _ _ (by omega) k) fun r2 ⟨hk,k⟩=>Yes.some ⟨wK hk,k⟩
      · exact Yes.bind (K 1 _ _ (by omega) k) fun r2 ⟨hk,k⟩=>Yes.some ⟨wK hk,k⟩
      · exact Yes.bind (K 1 _ _ (by omega) k) fun r2 ⟨hk,k⟩=>Yes.some ⟨wK hk,k⟩
      · exact Yes.bind (K 3 _ _ (by omega) k) fun r2 ⟨hk,k⟩=>Yes.some ⟨wK hk,k⟩
      · refine Yes.bind (fD _ _ k) fun r ⟨r0,r1,k⟩=>?_
        have:=r1 (by decide)
        exact Yes.bind (K _ _ _ (by rw [dN (by omega) (by omega)]; omega) k) fun r2 ⟨hk,k⟩=>Yes.some ⟨wK hk,k⟩
      · refine Yes.ite (fun h2=>?_) fun _=>J1 _ _ k
        exact Yes.bind (K1 _ _ k) fun r2 ⟨hk,k⟩=>Yes.bind (P2 _ _ (by simpa using h2) k) fun r3 ⟨hp,k⟩=>Yes.some ⟨bE1 hk hp,k⟩
      · refine Yes.ite (fun h2=>?_) fun _=>J1 _ _ k
        exact Yes.bind (P2 _ _ (by simpa using h2) k) fun r3 ⟨hp,k⟩=>Yes.some ⟨bE1 ⟨by simp,by simp⟩ hp,k⟩
    refine Yes.ite (fun _=>?_) fun _=>Yes.ite (fun _=>?_) fun _=>?_
    · refine Yes.bind (iP _ _ k) fun r k=>Yes.ite (fun _=>?_) fun _=>?_
      · exact Yes.bind (K 1 _ _ (by omega) k) fun r2 ⟨hk,k⟩=>Yes.some ⟨wK hk,k⟩
      · exact Yes.bind (fD _ _ k) fun r ⟨_,_,k⟩=>Yes.bind (K 2 _ _ (by omega) k) fun r2 ⟨hk,k⟩=>Yes.some ⟨wK hk,k⟩
    · exact Yes.bind (K 2 _ _ (by omega) k) fun r2 ⟨hk,k⟩=>Yes.some ⟨wK hk,k⟩
    · refine Yes.bind (Q:=FZ (60+11 * Zb n)) ?_ fun r hr=>Yes.some hr
      rw [aHr]
      exact Yes.bind (fD _ _ k) fun y1 ⟨_,_,k⟩=>Yes.bind (iP _ _ k) fun y2 k=>Yes.bind (fD _ _ k) fun y3 ⟨_,_,k⟩=>Yes.ite (fun _=>J0 _ _ _ _ k) fun _=>J0 _ _ _ _ k
def CR (c:aP):Prop:=(1≤c.tables.length∧c.tables.length≤3)∧∀ t ∈ c.tables,(1≤t.cols.length∧t.cols.length≤3)∧∀ x ∈ jS t,okT x
theorem CR.cat {c:aP} (h:CR c):lW c:=⟨by have:=h.1; omega,fun t ht=>⟨by have:=(h.2 t ht).1; omega,(h.2 t ht).2⟩⟩
def okCR (r:aP×aB):Prop:=CR r.1∧okCur r.2
theorem bSn (n s:List UInt8):rO ⟨n,[]⟩ s=some (-1):=by unfold rO; rw [uU]; simp
theorem aMf {i:Nat} (h:i≤1000):IntKind.wrap .i64 ((i:Int)+1)=((i+1:Nat):Int):=by rw [dN (by omega) (by omega)]; omega
theorem bXh (y1:Int×aB) (h0:0≤y1.1) (h3:y1.1<3):∀ (k i:Nat) b j h (T:List bI),3≤k+i→i≤3→T.length=i→(∀ t ∈ T,(1≤t.cols.length∧t.cols.length≤3)∧∀ x ∈ jS t,okT x)→okCur ⟨b,j,h⟩→Yes (zT y1 i T b j h) okCR:=by
  intro k
  induction k with
  | zero =>
    intro i b j h T h1 h2 hT hC hc
    rw [zT,if_neg (by rw [decide_eq_true_eq,dN (by omega) (by omega)]; omega)]
    exact Yes.some ⟨⟨⟨by dsimp only; omega,by dsimp only; omega⟩,hC⟩,hc⟩
  | succ k ih =>
    intro i b j h T h1 h2 hT hC hc
    rw [zT]
    by_cases hi:(i:Int)<IntKind.wrap .i64 (1+y1.1)
    case neg =>
      rw [if_neg (by rw [decide_eq_true_eq]; exact hi)]
      rw [dN (by omega) (by omega)] at hi
      exact Yes.some ⟨⟨⟨by dsimp only; omega,by dsimp only; omega⟩,hC⟩,hc⟩
    rw [if_pos (decide_eq_true hi)]
    rw [dN (by omega) (by omega)] at hi
    have hi3:i<([[116],[117],[118]]:List (List UInt8)).length:=by show i<3; omega
    rw [eF hi3]
    simp only [Option.bind_eq_bind,Option.bind_some]
    refine Yes.bind (fD _ _ hc) fun y3 ⟨k0,k1,hc3⟩=>?_
    have k1:=k1 (by omega)
    generalize ([[116],[117],[118]]:List (List UInt8))[i]=y2
    have fin:∀ b j h (C:List bV),(1≤C.length∧C.length≤3)→(∀ x ∈ C.map bV.type,okT x)→okCur ⟨b,j,h⟩→Yes (appG 40 T ([(bI.mk y2 C)]:List bI)>>=fun y14=>zT y1 (IntKind.wrap .i64 ((i:Int)+1)) y14 b j h) okCR:=by
      intro b j h C hl ht hc
      refine Yes.bind (iU (by simp; omega)) fun y e=>?_
      subst e
      rw [aMf (by omega)]
      exact ih (i+1) _ _ _ _ (by omega) (by omega) (by simp; omega) (nW hC ⟨hl,ht⟩) hc
    have inner:∀ (m x:Nat) b j h (C:List bV),3≤m+x→x≤3→C.length≤x→(1≤x→1≤C.length)→(∀ x ∈ C.map bV.type,okT x)→okCur ⟨b,j,h⟩→Yes (R3 y1 i y3 T y2 x (C,b,j,h)) okCR:=by
      intro m
      induction m with
      | zero =>
        intro x b j h C m1 m2 hl hl1 ht hc
        rw [R3,if_neg (by rw [decide_eq_true_eq,dN (by omega) (by omega)]; omega)]
        exact fin b j h C ⟨hl1 (by omega),by omega⟩ ht hc
      | succ m ihm =>
        intro x b j h C m1 m2 hl hl1 ht hc
        rw [R3]
        by_cases hx:(x:Int)<IntKind.wrap .i64 (1+y3.1)
        case neg =>
          rw [if_neg (by rw [decide_eq_true_eq]; exact hx)]
          rw [dN (by omega) (by omega)] at hx
          exact fin b j h C ⟨hl1 (by omega),by omega⟩ ht hc
        rw [if_pos (decide_eq_true hx)]
        rw [dN (by omega) (by omega)] at hx
        have J3:∀ b j h (C:List bV),C.length≤x+1→1≤C.length→(∀ x ∈ C.map bV.type,okT x)→okCur ⟨b,j,h⟩→Yes (Z4 y1 i y3 x T y2 (b,j,h,C)) okCR:=by
          intro b j h C hl hl1 ht hc
          rw [Z4,aMf (by omega)]
          exact ihm (x+1) _ _ _ _ (by omega) (by omega) hl (fun _=>hl1) ht hc
        have J2:∀ (y8:Int×aB) (nm:List UInt8) b j h,okT y8.1→okCur ⟨b,j,h⟩→Yes (aCc y1 i y3 x T y2 C (y8,nm,b,j,h)) okCR:=by
          intro y8 nm b j h h8 hc
          rw [aCc]
          obtain ⟨_,r,hr⟩:=aJh ⟨y2,C⟩ nm (by dsimp only; omega)
          rw [hr]
          simp only [Option.bind_eq_bind,Option.bind_some]
          refine Yes.ite (fun _=>?_) fun hn=>?_
          · refine Yes.bind (iU (by simp; omega)) fun y e=>?_
            subst e
            refine J3 _ _ _ _ (by simp; omega) (by simp) ?_ hc
            rw [List.map_append]
            exact nW ht h8
          · refine J3 _ _ _ _ (by omega) ?_ ht hc
            cases C with
            | cons _ _=>simp
            | nil =>
              rw [bSn] at hr
              simp only [Option.some.injEq] at hr
              subst hr
              simp at hn
        refine Yes.bind (aVg _ _ (by decide) hc) fun y7 hc=>?_
        obtain ⟨v,c',e,hv,hc⟩:=aO7 y7.2 [1,1,2,3] (by decide) hc
        have h8:okT v:=by
          have:∀ v ∈ ([1,1,2,3]:List Int),0≤v∧v≤3:=by decide
          exact this v hv
        rw [e]
        simp only [Option.bind_eq_bind,Option.bind_some]
        refine Yes.bind (iP _ _ hc) fun y9 hc=>?_
        refine Yes.ite (fun _=>?_) fun _=>J2 _ _ _ _ _ h8 hc
        exact Yes.bind (aMw _ hc) fun y10 ⟨_,hc⟩=>J2 _ _ _ _ _ h8 hc
    exact inner 3 0 _ _ _ _ (by omega) (by omega) (by simp) (by omega) (by simp) hc3
theorem cJ8 (c:aB) (h:okCur c):Yes (aD1 c) okCR:=by
  unfold aD1
  refine Yes.bind (fD _ _ h) fun y1 ⟨k0,k1,hc⟩=>?_
  exact bXh y1 k0 (k1 (by omega)) 3 0 _ _ _ _ (by omega) (by omega) rfl (by simp) hc
theorem bY5 (n:Nat) (h:n≤9):∃ t,aDd (n:Int)=some t∧t.length≤9:=by
  have go:∀ k:Nat,k≤9→k≠0→Int.tmod (k:Int) 10=k∧IntKind.wrap .i64 (Int.tdiv (k:Int) 10)=0∧IntKind.wrap .u8 (IntKind.wrap .i64 (48+(k:Int)))=48+(k:Int):=by
    intro k hk h0
    have e1:Int.tmod (k:Int) 10=k:=by rw [Int.tmod_eq_emod_of_nonneg (by omega)]; omega
    have e2:Int.tdiv (k:Int) 10=0:=by rw [Int.tdiv_eq_ediv_of_nonneg (by omega)]; omega
    refine ⟨e1,by rw [e2]; rfl,?_⟩
    rw [dN (by omega) (by omega)]
    unfold IntKind.wrap
    simp only [IntKind.bits,IntKind.signed]
    simp; omega
  by_cases h0:n=0
  · subst h0; exact ⟨[48],rfl,by simp⟩
  obtain ⟨e1,e2,e3⟩:=go n h h0
  have hb:ofBytes [48+(n:Int)]=some [UInt8.ofNat (48+(n:Int)).toNat]:=by
    unfold ofBytes
    rw [if_pos (by simp; omega)]
    rfl
  refine ⟨[UInt8.ofNat (48+(n:Int)).toNat],?_,by simp⟩
  unfold aDd
  rw [if_neg (by simpa using h0),aBf,if_pos (by simpa using h0),e1,if_neg (by simp),aB1,e2,e3,hb]
  simp only [Option.bind_eq_bind,Option.bind_some]
  have hc:uI [UInt8.ofNat (48+(n:Int)).toNat] []=some [UInt8.ofNat (48+(n:Int)).toNat]:=by unfold uI; rw [if_pos (by simp [maxLen])]; rfl
  rw [hc]
  simp only [Option.bind_some]
  rw [aBf]
  simp
  try omega
theorem cL9 (p:Int) (hp:p≤1000):∀ (n:Nat) (x:List Int) (i:Int) (b:List Int) (j h:Int),p≤n+i→0≤i→x.length=i.toNat→i≤1000→(∀ v ∈ x,0≤v∧v<256)→okCur ⟨b,j,h⟩→∃ y c',F8 p x i b j h=some (y,c')∧(∀ v ∈ y,0≤v∧v<256)∧okCur c':=by
  intro n
  induction n with
  | zero =>
    intro x i b j h h1 h2 h3 _ h5 h4
    rw [F8,if_neg (by simp; omega)]
    exact ⟨_,_,rfl,h5,h4⟩
  | succ n ih =>
    intro x i b j h h1 h2 h3 hi0 h5 h4
    rw [F8]
    by_cases hi:i<p
    · rw [if_pos (by simpa using hi)]
      obtain ⟨v,c',e1,_,_,e4⟩:=aAe ⟨b,j,h⟩ h4
      simp only [e1,Option.bind_eq_bind,Option.bind_some]
      rw [oH (by simp; omega),dN (by omega) (by omega)]
      simp only [Option.bind_some]
      refine ih (x++[IntKind.wrap .u8 v]) (i+1) c'.b c'.i c'.h (by omega) (by omega) (by simp [h3]; omega) (by omega) ?_ e4
      intro u hu
      rcases List.mem_append.1 hu with hu | hu
      · exact h5 u hu
      · have:u=IntKind.wrap .u8 v:=by simpa using hu
        rw [this]; simp [IntKind.wrap,IntKind.bits,IntKind.signed]; omega
    · rw [if_neg (by simpa using hi)]
      exact ⟨_,_,rfl,h5,h4⟩
theorem bYt (c:aB) (h:okCur c):Yes (vG c) fun r=>okCur r.2:=(aMw c h).mono fun _ k=>k.2
theorem aY0 (c:aB) (h:okCur c):Yes (aAi c) fun r=>okCur r.2:=by
  unfold aAi
  refine Yes.bind (fD _ _ h) fun r ⟨_,_,k⟩=>Yes.ite (fun _=>?_) fun _=>Yes.ite (fun _=>?_) fun _=>Yes.ite (fun _=>?_) fun _=>?_
  · exact Yes.bind (aVg _ _ (by decide) k) fun r k=>Yes.some k
  · refine Yes.bind (Q:=fun l:List (List UInt8)=>l.length=29) ⟨_,rfl,by decide⟩ fun l hl=>Yes.bind (fD _ _ k) fun r ⟨h0,h1,k⟩=>?_
    obtain ⟨v,_,hv⟩:=aUd (l:=l) h0 (by rw [hl]; exact h1 (by decide))
    exact Yes.bind (Q:=fun _=>True) ⟨v,hv,trivial⟩ fun _ _=>Yes.some k
  · refine Yes.bind (fD _ _ k) fun r ⟨h0,h1,k⟩=>?_
    have h1':=h1 (by decide)
    obtain ⟨y,c3,e3,l3,k3⟩:=cL9 r.1 (by omega) 5 [] 0 r.2.b r.2.i r.2.h (by omega) (by omega) rfl (by omega) (by simp) k
    obtain ⟨s,hs⟩:=bP7 y l3
    exact Yes.bind (Q:=fun z=>z=(y,c3)) ⟨_,e3,rfl⟩ fun z hz=>Yes.bind (Q:=fun _=>True) ⟨s,by rw [hz]; exact hs,trivial⟩ fun _ _=>Yes.some (by rw [hz]; exact k3)
  · exact Yes.bind (bYt _ k) fun r k=>Yes.some k
def okD (r:aP×aB):Prop:=(r.1.tables.length≤5∧∀ t ∈ r.1.tables,t.cols.length≤4)∧okCur r.2
def okC (r:aP×aB):Prop:=(1≤r.1.tables.length∧r.1.tables.length≤3∧∀ t ∈ r.1.tables,t.cols.length≤3)∧okCur r.2
theorem bOi (y1:Int×aB) (h0:0≤y1.1) (h3:y1.1<3):∀ (k i:Nat) b j h (T:List bI) (N:List (List UInt8)),N.length=3→3≤k+i→i≤3→T.length=i→(∀ t ∈ T,t.cols.length≤3)→okCur ⟨b,j,h⟩→Yes (yM y1 i b j h T N) okC:=by
  intro k
  induction k with
  | zero =>
    intro i b j h T N hN h1 h2 hT hC hc
    rw [yM,if_neg (by rw [decide_eq_true_eq,dN (by omega) (by omega)]; omega)]
    exact Yes.some ⟨⟨by dsimp only; omega,by dsimp only; omega,hC⟩,hc⟩
  | succ k ih =>
    intro i b j h T N hN h1 h2 hT hC hc
    rw [yM]
    by_cases hi:(i:Int)<IntKind.wrap .i64 (1+y1.1)
    case neg =>
      rw [if_neg (by rw [decide_eq_true_eq]; exact hi)]
      rw [dN (by omega) (by omega)] at hi
      exact Yes.some ⟨⟨by dsimp only; omega,by dsimp only; omega,hC⟩,hc⟩
    rw [if_pos (decide_eq_true hi)]
    rw [dN (by omega) (by omega)] at hi
    have hi3:i<N.length:=by omega
    rw [eF hi3]
    simp only [Option.bind_eq_bind,Option.bind_some]
    refine Yes.bind (fD _ _ hc) fun y3 ⟨k0,k1,hc3⟩=>?_
    have k1:=k1 (by omega)
    generalize N[i]=y2
    have fin:∀ b j h (C:List bV),C.length≤3→okCur ⟨b,j,h⟩→Yes (appG 40 T ([(bI.mk y2 C)]:List bI)>>=fun y14=>yM y1 (IntKind.wrap .i64 ((i:Int)+1)) b j h y14 (N.set ((i:Int)).toNat y2)) okC:=by
      intro b j h C hl hc
      refine Yes.bind (iU (by simp; omega)) fun y e=>?_
      subst e
      rw [aMf (by omega)]
      exact ih (i+1) _ _ _ _ _ (by simpa using hN) (by omega) (by omega) (by simp; omega) (nW hC hl) hc
    have inner:∀ (m x:Nat) b j h (C:List bV),3≤m+x→x≤3→C.length≤x→okCur ⟨b,j,h⟩→Yes (O0 y1 i y3 y2 T N (x,b,j,h,C)) okC:=by
      intro m
      induction m with
      | zero =>
        intro x b j h C m1 m2 hl hc
        rw [O0,if_neg (by rw [decide_eq_true_eq,dN (by omega) (by omega)]; omega)]
        exact fin b j h C (by omega) hc
      | succ m ihm =>
        intro x b j h C m1 m2 hl hc
        rw [O0]
        by_cases hx:(x:Int)<IntKind.wrap .i64 (1+y3.1)
        case neg =>
          rw [if_neg (by rw [decide_eq_true_eq]; exact hx)]
          exact fin b j h C (by omega) hc
        rw [if_pos (decide_eq_true hx)]
        rw [dN (by omega) (by omega)] at hx
        have J3:∀ b j h (C:List bV),C.length≤x+1→okCur ⟨b,j,h⟩→Yes (Q3 y1 i y3 x y2 b (j,h,T,N,C)) okC:=by
          intro b j h C hl hc
          rw [Q3,aMf (by omega)]
          exact ihm (x+1) _ _ _ _ (by omega) (by omega) hl hc
        have J2:∀ (y8:Int×aB) (nm:List UInt8) b j h,okCur ⟨b,j,h⟩→Yes (aA4 y1 i y3 x y2 y8 C (T,N,nm,b,j,h)) okC:=by
          intro y8 nm b j h hc
          rw [aA4]
          obtain ⟨_,r,hr⟩:=aJh ⟨y2,C⟩ nm (by dsimp only; omega)
          rw [hr]
          simp only [Option.bind_eq_bind,Option.bind_some]
          refine Yes.ite (fun _=>?_) fun _=>J3 _ _ _ _ (by omega) hc
          refine Yes.bind (iU (by simp; omega)) fun y e=>?_
          subst e
          exact J3 _ _ _ _ (by simp; omega) hc
        refine Yes.bind (aVg _ _ (by decide) hc) fun y7 hc=>?_
        refine Yes.bind (aXn _ _ (by decide) hc) fun y8 hc=>?_
        refine Yes.bind (iP _ _ hc) fun y9 hc=>?_
        refine Yes.ite (fun _=>?_) fun _=>J2 _ _ _ _ _ hc
        exact Yes.bind (aMw _ hc) fun y10 ⟨_,hc⟩=>J2 _ _ _ _ _ hc
    exact inner 3 0 _ _ _ _ (by omega) (by omega) (by simp) hc3
theorem cAc (c:aB) (h:okCur c):Yes (aE0 c) okC:=by
  unfold aE0
  refine Yes.bind (fD _ _ h) fun y1 ⟨k0,k1,hc⟩=>?_
  exact bOi y1 k0 (k1 (by omega)) 3 0 _ _ _ _ _ (by simp) (by omega) (by omega) rfl (by simp) hc
theorem cL4:∀ (k:Nat) b j h (T:List bI),5≤k+T.length→T.length≤5→(∀ t ∈ T,t.cols.length≤4)→okCur ⟨b,j,h⟩→Yes (H7 b j h T) okD:=by
  intro k
  induction k with
  | zero =>
    intro b j h T h1 h2 hC hc
    rw [H7]
    refine Yes.bind (fD _ _ hc) fun y ⟨k0,k1,hc⟩=>?_
    have k1:=k1 (by omega)
    rw [if_neg (by rw [decide_eq_true_eq,dN (by omega) (by omega)]; omega)]
    exact Yes.some ⟨⟨h2,hC⟩,hc⟩
  | succ k ih =>
    intro b j h T h1 h2 hC hc
    rw [H7]
    refine Yes.bind (fD _ _ hc) fun y ⟨k0,k1,hc⟩=>?_
    have k1:=k1 (by omega)
    by_cases hi:(T.length:Int)<IntKind.wrap .i64 (4+y.1)
    case neg =>
      rw [if_neg (by rw [decide_eq_true_eq]; exact hi)]
      exact Yes.some ⟨⟨h2,hC⟩,hc⟩
    rw [if_pos (decide_eq_true hi)]
    rw [dN (by omega) (by omega)] at hi
    obtain ⟨t,ht,hl⟩:=bY5 T.length (by omega)
    rw [ht]
    simp only [Option.bind_eq_bind,Option.bind_some]
    have hcat:uI [120] t=some ([120]++t):=by unfold uI; rw [if_pos (by simp [maxLen]; omega)]
    rw [hcat]
    simp only [Option.bind_some]
    rw [oH (by simp; omega)]
    simp only [Option.bind_some]
    exact ih _ _ _ _ (by simp; omega) (by simp; omega) (nW hC (by simp)) hc
theorem aQn {T:List bI} {x:bI} {n:Nat} (hT:∀ t ∈ T,t.cols.length≤4) (hx:x.cols.length≤4):∀ t ∈ T.set n x,t.cols.length≤4:=fun t ht=>by
  rcases List.mem_or_eq_of_mem_set ht with h | rfl
  · exact hT t h
  · exact hx
theorem cLm (c:aB) (h:okCur c):Yes (aFs c) okD:=by
  have J0:∀ b j h (T:List bI),T.length≤5→(∀ t ∈ T,t.cols.length≤4)→okCur ⟨b,j,h⟩→Yes (tZ T b j h) okD:=fun b j h T h1 h2 hc=>Yes.some ⟨⟨h1,h2⟩,hc⟩
  unfold aFs
  refine Yes.bind (cAc _ h) fun y1 ⟨⟨l1,l3,lc⟩,hc⟩=>?_
  have lc4:∀ t ∈ y1.1.tables,t.cols.length≤4:=fun t ht=>Nat.le_trans (lc t ht) (by omega)
  have e0:idx y1.1.tables 0=some y1.1.tables[0]:=eF (i:=0) (by omega)
  have h0:y1.1.tables[0].cols.length≤3:=lc _ (List.getElem_mem (by omega))
  refine Yes.bind (fD _ _ hc) fun y2 ⟨_,_,hc⟩=>Yes.ite (fun _=>?_) fun _=>Yes.ite (fun _=>?_) fun _=>Yes.ite (fun _=>?_) fun _=>Yes.ite (fun _=>?_) fun _=>Yes.ite (fun _=>?_) fun _=>Yes.ite (fun _=>?_) fun _=>?_
  · rw [e0]
    simp only [Option.bind_eq_bind,Option.bind_some]
    rw [oH (by simp; omega)]
    simp only [Option.bind_some]
    refine J0 _ _ _ _ (by simp; omega) (fun t ht=>?_) hc
    rcases List.mem_append.1 ht with ht | ht
    · exact lc4 t ht
    · rw [List.mem_singleton] at ht; subst ht; omega
  · rw [e0]
    simp only [Option.bind_eq_bind,Option.bind_some]
    refine Yes.bind (aY0 _ hc) fun y6 hc=>Yes.bind (fD _ _ hc) fun y7 ⟨_,_,hc⟩=>?_
    rw [oH (by simp; omega)]
    simp only [Option.bind_eq_bind,Option.bind_some]
    exact J0 _ _ _ _ (by simp; omega) (aQn lc4 (by simp; omega)) hc
  · refine Yes.bind (aY0 _ hc) fun y9 hc=>?_
    rw [e0]
    simp only [Option.bind_eq_bind,Option.bind_some]
    exact J0 _ _ _ _ (by simp; omega) (aQn lc4 (by simp; omega)) hc
  · rw [e0]
    simp only [Option.bind_eq_bind,Option.bind_some]
    exact J0 _ _ _ _ (by simp; omega) (aQn lc4 (by simp)) hc
  · exact J0 _ _ _ _ (by simp) (by simp) hc
  · exact cL4 5 _ _ _ _ (by omega) (by omega) lc4 hc
  · exact J0 _ _ _ _ (by omega) lc4 hc
theorem cLz (p:List Int) (hp:p.length≤1048576):Yes (aCw p 3) fun r=>0<r∧r≤3:=by
  unfold aCw
  have e:Int.tdiv (p.length:Int) 20=(p.length:Int) / 20:=Int.tdiv_eq_ediv_of_nonneg (by omega)
  rw [e,dN (n:=(p.length:Int) / 20) (by omega) (by omega),dN (by omega) (by omega)]
  refine Yes.ite (fun _=>Yes.some ⟨by omega,by omega⟩) fun h=>Yes.some ⟨by omega,by simp at h; omega⟩
theorem aGx {cat:aP} (hc:lW cat) {d:Int} (hd0:0≤d) (hd:d<3) (env:List (List Int)) (hv:jE env) (hl:env.length≤10) (c:aB) (ty:Int) (h:okCur c):Yes (mJ c cat env ty d) (FZ 25000) :=
  (bP3 hc 3 d c ty env (by omega) (by omega) (by omega) hv (by omega) h).mono fun r hr=>⟨Nat.le_trans hr.1 (by decide),hr.2⟩
theorem aZx:jE []:=fun r hr=>by simp at hr
theorem cC8 (c:aB) {d:Int} (hd0:0≤d) (hd:d<3) (h:okCur c):Yes (aDg c d) fun r=>(CR r.1∧dU r.2.1≤300000)∧okCur r.2.2:=by
  have J:∀ (y1:aP×aB) (x7:List Int) b j g,CR y1.1→x7.length≤2→okCur ⟨b,j,g⟩→Yes (aBy d y1 x7 b j g) fun r=>(CR r.1∧dU r.2.1≤300000)∧okCur r.2.2:=fun y1 x7 b j g hC hl k=>by
    unfold aBy
    exact Yes.bind (bIp (B:=25000) hC.cat [] aZx (by simp) x7 hl (fun c ty env' he hel k=>aGx hC.cat hd0 hd env' he (by simp at hel; omega) c ty k) _ k) fun r ⟨hr,k⟩=>Yes.some ⟨⟨hC,by show dU r.1≤300000; omega⟩,k⟩
  unfold aDg
  refine Yes.bind (cJ8 _ h) fun y1 ⟨hC,k⟩=>Yes.bind (fD _ _ k) fun y2 ⟨_,_,k⟩=>Yes.bind (iP _ _ k) fun y3 k=>Yes.ite (fun _=>?_) fun _=>J _ _ _ _ _ hC (by simp) k
  refine Yes.bind (fD _ _ k) fun y4 ⟨_,_,k⟩=>Yes.bind (iU (by simp)) fun y e=>?_
  subst e
  exact J _ _ _ _ _ hC (by simp) k
def SR (p:bC):Prop:=dU p.plan≤300000∧zL (zL aX) p.rows≤200000∧p.cols.length≤10∧zL aX p.sets≤60000∧zL aX p.where_≤60000
theorem zA {α:Type} (z:α→Nat):zL z []=0:=by simp [zL]
theorem aAm {α:Type} (z:α→Nat) (x:α):zL z [x]=1+z x:=by simp [zL]
theorem aL4 {α:Type} (z:α→Nat) (l m:List α):zL z (l++m)=zL z l+zL z m:=by simp [zL]; omega
theorem aXz:dU (aL.mk [] [] [] [] [] [] false 0)=0:=by simp [dU,wV,aB5,aAo,zL]
def okSR (r:aP×bC×aB):Prop:=(CR r.1∧SR r.2.1)∧okCur r.2.2
theorem bB0 (c:aB) {d:Int} (hd0:0≤d) (hd:d<3) (h:okCur c):Yes (aBc c d) okSR:=by
  unfold aBc
  refine Yes.bind (cC8 c hd0 hd h) fun y1 ⟨⟨hC,hp⟩,k⟩=>Yes.bind (fD _ _ k) fun y2 ⟨a0,a1,k⟩=>Yes.ite (fun _=>?_) fun _=>?_
  · refine Yes.some ⟨⟨hC,hp,?_,by simp,?_,?_⟩,k⟩ <;> dsimp only <;> rw [zA] <;> omega
  refine Yes.bind (fD _ _ k) fun y3 ⟨b0,b1,k⟩=>?_
  have ht:=hC.1
  have b1:=b1 (by omega)
  have hj:y3.1.toNat<y1.1.tables.length:=by omega
  have hx:idx y1.1.tables y3.1=some y1.1.tables[y3.1.toNat]:=by
    have:=eF hj
    rwa [show ((y3.1.toNat:Nat):Int)=y3.1 by omega] at this
  obtain ⟨⟨c1,c3⟩,cT⟩:=hC.2 _ (List.getElem_mem hj)
  obtain ⟨_,t2⟩:=aPl y1.1.tables[y3.1.toNat] (by omega)
  have tl:(jS y1.1.tables[y3.1.toNat]).length=y1.1.tables[y3.1.toNat].cols.length:=by unfold jS; simp
  rw [hx]
  simp only [Option.bind_eq_bind,Option.bind_some,t2]
  generalize jS y1.1.tables[y3.1.toNat]=ts at *
  have hv:jE [ts]:=by
    intro r hr
    simp only [List.mem_singleton] at hr
    subst hr
    exact ⟨by omega,cT⟩
  have J3:∀ (s:List aA) (cl:List Int) b j g (w:List aA),zL aX s≤60000→cl.length≤10→zL aX w≤60000→okCur ⟨b,j,g⟩→Yes (aC9 y1 y2 y3 s cl b j g w) okSR:=fun s cl b j g w h1 h2 h3 k=>by
    unfold aC9
    exact Yes.some ⟨⟨hC,by dsimp only; rw [aXz]; omega,by dsimp only; rw [zA]; omega,h2,h1,h3⟩,k⟩
  have J1:∀ b j g (s:List aA) (cl:List Int),zL aX s≤60000→cl.length≤10→okCur ⟨b,j,g⟩→Yes (aA0 d ts y1 y2 y3 b j g s cl) okSR:=fun b j g s cl h1 h2 k=>by
    unfold aA0
    refine Yes.bind (iP _ _ k) fun q k=>Yes.ite (fun _=>?_) fun _=>J3 _ _ _ _ _ _ h1 h2 (by rw [zA]; omega) k
    exact Yes.bind (aGx hC.cat hd0 hd [ts] hv (by simp) _ _ k) fun r ⟨hr,k⟩=>J3 _ _ _ _ _ _ h1 h2 (by rw [aAm]; omega) k
  refine Yes.ite (fun _=>?_) fun _=>Yes.ite (fun _=>?_) fun _=>J1 _ _ _ _ _ (by rw [zA]; omega) (by simp) k
  · refine Yes.bind (fD _ _ k) fun y6 ⟨d0,d1,k⟩=>?_
    have d1:=d1 (by decide)
    have L0:∀ (m:Nat) (x:Int) b j g (R:List (List aA)),2≤m+x→0≤x→x≤2→(R.length:Int)≤x→(∀ r ∈ R,zL aX r≤90000)→okCur ⟨b,j,g⟩→Yes (yJ d ts y6 y1 y2 y3 x b j g R) okSR:=by
      intro m
      have e0:IntKind.wrap .i64 (1+y6.1)=1+y6.1:=dN (by omega) (by omega)
      have fin:∀ (x:Int) b j g (R:List (List aA)),¬ x<1+y6.1→x≤2→(R.length:Int)≤x→(∀ r ∈ R,zL aX r≤90000)→okCur ⟨b,j,g⟩→Yes (yJ d ts y6 y1 y2 y3 x b j g R) okSR:=by
        intro x b j g R hx h2 hl hR k
        rw [yJ,e0,if_neg (by simpa using hx)]
        have:=jR (z:=zL aX) (B:=90000) (n:=2) (l:=R) (by omega) hR
        exact Yes.some ⟨⟨hC,by dsimp only; rw [aXz]; omega,by dsimp only; omega,by simp,by dsimp only; rw [zA]; omega,by dsimp only; rw [zA]; omega⟩,k⟩
      induction m with
      | zero=>intro x b j g R h1 h2 h3 hl hR k; exact fin x b j g R (by omega) h3 hl hR k
      | succ m ih =>
        intro x b j g R h1 h2 h3 hl hR k
        by_cases hx:x<1+y6.1
        case neg=>exact fin x b j g R hx h3 hl hR k
        rw [yJ,e0,if_pos (by simpa using hx)]
        have L2:∀ i,i≤ts.length→∀ b j g (row:List aA),row.length≤i→(∀ y ∈ row,aX y≤25000)→okCur ⟨b,j,g⟩→Yes (zC d ts y6 x y1 y2 y3 R (i:Nat) b j g row) okSR:=by
          refine iI ?_ ?_
          · intro b j g row hr hz k
            rw [zC,if_neg (by simp)]
            refine Yes.bind (iU (by simp; omega)) fun y e=>?_
            subst e
            rw [dN (by omega) (by omega)]
            refine ih _ _ _ _ _ (by omega) (by omega) (by omega) (by simp; omega) (nW hR ?_) k
            have:=jR (z:=aX) (B:=25000) (n:=3) (l:=row) (by omega) hz
            omega
          · intro i hi ih2 b j g row hr hz k
            rw [zC,if_pos (by simpa using hi)]
            simp only [eF hi,gG hi (by omega),Option.bind_eq_bind,Option.bind_some]
            refine Yes.bind (aGx hC.cat hd0 hd [] aZx (by simp) _ _ k) fun q ⟨hq,k⟩=>Yes.bind (iU (by simp; omega)) fun y e=>?_
            subst e
            exact ih2 _ _ _ _ (by simp; omega) (nW hz hq) k
        simpa using L2 0 (by omega) b j g [] (by simp) (by simp) k
    exact L0 2 0 _ _ _ _ (by omega) (by omega) (by omega) (by simp) (by simp) k
  · refine Yes.bind (fD _ _ k) fun y7 ⟨e0,e1,k⟩=>?_
    have e1:=e1 (by omega)
    have hj2:y7.1.toNat<ts.length:=by omega
    have hx2:idx ts y7.1=some ts[y7.1.toNat]:=by
      have:=eF hj2
      rwa [show ((y7.1.toNat:Nat):Int)=y7.1 by omega] at this
    rw [hx2]
    simp only [Option.bind_some]
    exact Yes.bind (aGx hC.cat hd0 hd [ts] hv (by simp) _ _ k) fun r ⟨hr,k⟩=>J1 _ _ _ _ _ (by rw [aAm]; omega) (by simp) k
def okA (r:aP×bC):Prop:=E9 r.1∧lH r.2≤1000000
theorem CR.small {c:aP} (h:CR c):E9 c:=⟨by have:=h.1; omega,fun t ht=>by have:=(h.2 t ht).1; omega⟩
theorem SR.size {p:bC} (h:SR p):lH p≤700000:=by
  obtain ⟨h1,h2,h3,h4,h5⟩:=h
  have e:=nK p
  have:zL z0 p.cols≤10:=by have:=jR (z:=z0) (B:=0) (n:=10) (l:=p.cols) h3 (fun _ _=>by simp [z0]); omega
  omega
theorem bH7 (p:List Int) (hp:p.length≤1048576):Yes (aB3 p) okA:=by
  unfold aB3
  obtain ⟨c,e,hc⟩:=aYt p hp
  rw [e]
  simp only [Option.bind_eq_bind,Option.bind_some]
  refine Yes.bind (cLz p hp) fun n ⟨n0,n3⟩=>Yes.bind (fD _ _ hc) fun y3 ⟨a0,a1,k⟩=>?_
  have a1:=a1 n0
  refine Yes.bind (bB0 _ a0 (by omega) k) fun y4 ⟨⟨hC,hS⟩,k⟩=>Yes.bind (fD _ _ k) fun y5 ⟨_,_,k⟩=>?_
  obtain ⟨s1,s2,s3,s4,s5⟩:=hS
  have J:∀ (T:List bI) (kd lim tb:Int) (R:List (List aA)) (cl:List Int) (s w:List aA),E9 ⟨T⟩→zL (zL aX) R≤200001→cl.length≤11→zL aX s≤65000→zL aX w≤65000→Yes (qB y4 T kd lim tb R cl s w) okA:=fun T kd lim tb R cl s w h1 h2 h3 h4 h5=>by
    unfold qB
    refine Yes.some ⟨h1,?_⟩
    rw [nK]
    have e1:dU (aL.mk y4.2.1.plan.tables y4.2.1.plan.on_ y4.2.1.plan.where_ y4.2.1.plan.order y4.2.1.plan.items y4.2.1.plan.names y4.2.1.plan.distinct lim)=dU y4.2.1.plan:=by rw [mI,mI]
    have e2:zL z0 cl≤11:=by have:=jR (z:=z0) (B:=0) (n:=11) (l:=cl) h3 (fun _ _=>by simp [z0]); omega
    dsimp only
    rw [e1]
    omega
  have hcs:E9 ⟨y4.1.tables⟩:=hC.small
  have ex:∀ (n:Nat) (d:Int) c,-100≤d→d≤n→n≤2→okCur c→Yes (mM c d) (fun r=>aX r.1≤4000∧okCur r.2):=fun n d c h1 h2 h3 k=>(cB9 n d c h1 h2 (by omega) k).mono fun r hr=>⟨Nat.le_trans hr.1.2 (by
    match n,h3 with
    | 0,_=>decide
    | 1,_=>decide
    | 2,_=>decide),hr.2⟩
  have lw:=gM (z:=aX) y4.2.1.where_
  have lse:=gM (z:=aX) y4.2.1.sets
  have lr:=gM (z:=zL aX) y4.2.1.rows
  refine Yes.ite (fun _=>?_) fun _=>Yes.ite (fun _=>?_) fun _=>Yes.ite (fun _=>?_) fun _=>Yes.ite (fun _=>?_) fun _=>Yes.ite (fun _=>?_) fun _=>Yes.ite (fun _=>?_) fun _=>Yes.ite (fun _=>?_) fun _=>Yes.ite (fun _=>?_) fun _=>?_
  · exact Yes.bind (fD _ _ k) fun q _=>J _ _ _ _ _ _ _ _ hcs (by omega) (by omega) (by omega) (by omega)
  · exact Yes.bind (aLg _ k) fun q _=>J _ _ _ _ _ _ _ _ hcs (by omega) (by omega) (by omega) (by omega)
  · refine Yes.bind (fD _ _ k) fun q _=>Yes.bind (iU (by simp; omega)) fun y e=>?_
    subst e
    exact J _ _ _ _ _ _ _ _ hcs (by omega) (by simp; omega) (by omega) (by omega)
  · refine Yes.bind (ex 2 2 _ (by omega) (by omega) (by omega) k) fun q ⟨hq,_⟩=>Yes.bind (iU (by simp; omega)) fun y e=>?_
    subst e
    exact J _ _ _ _ _ _ _ _ hcs (by omega) (by omega) (by omega) (by rw [aL4,aAm]; omega)
  · refine Yes.bind (iU (by simp; omega)) fun y e=>?_
    subst e
    exact J _ _ _ _ _ _ _ _ hcs (by rw [aL4,aAm,zA]; omega) (by omega) (by omega) (by omega)
  · refine Yes.bind (ex 1 1 _ (by omega) (by omega) (by omega) k) fun q ⟨hq,_⟩=>Yes.bind (iU (by simp; omega)) fun y e=>?_
    subst e
    exact J _ _ _ _ _ _ _ _ hcs (by omega) (by omega) (by rw [aL4,aAm]; omega) (by omega)
  · refine Yes.bind (cLm _ k) fun q ⟨⟨q1,q2⟩,_⟩=>J _ _ _ _ _ _ _ _ ⟨by dsimp only; omega,fun t ht=>by have:=q2 t ht; omega⟩ (by omega) (by omega) (by omega) (by omega)
  · exact Yes.bind (fD _ _ k) fun q _=>J _ _ _ _ _ _ _ _ hcs (by omega) (by omega) (by omega) (by omega)
  · exact J _ _ _ _ _ _ _ _ hcs (by omega) (by omega) (by omega) (by omega)
theorem fm1 {α:Type} (l:List α):(l.flatMap fun x=>[x])=l:=by
  induction l with
  | nil=>rfl
  | cons x l ih=>rw [List.flatMap_cons,ih]; rfl
def CpE (e:aA):Prop:=vX e=some e
def CpP (p:aL):Prop:=yI p=some p
theorem U6 (l:List aA) (hl:l.length≤1048576) (H:∀ e ∈ l,CpE e):pR l=some l:=by
  rw [pR,gather (p:=l) (f:=fun x=>[x]) (c:=4194304) (G:=fun y acc=>(vX y)>>=fun z=>appG 120 acc ([z]:List aA)) (L:=fun acc i=>aA8 l i acc) (K:=fun x=>some x) (by omega) (fun y hy acc h=>by rw [H y hy]; exact oH (by simp at h ⊢; omega)) (fun i acc=>by rw [aA8]; simp only [Option.bind_eq_bind,Option.bind_assoc]) [] (by rw [fm1]; simp only [List.length_nil]; omega)]
  rw [fm1]; rfl
theorem cKa (e:aA) (hk:e.kids.length≤1048576) (hs:e.sub.length≤1048576) (H:∀ k ∈ e.kids,CpE k) (HP:∀ p ∈ e.sub,CpP p):CpE e:=by
  unfold CpE
  rw [vX,U6 e.kids hk H]
  simp only [Option.bind_eq_bind,Option.bind_some]
  rw [gather (p:=e.sub) (f:=fun x=>[x]) (c:=4194304) (G:=fun y acc=>(yI y)>>=fun z=>appG 160 acc ([z]:List aL)) (L:=fun acc i=>aB4 e e.kids i acc) (K:=fun x=>some (aA.mk e.kind e.op e.not_ e.value e.up e.at_ e.kids x)) (by omega) (fun y hy acc h=>by rw [HP y hy]; exact oH (by simp at h ⊢; omega)) (fun i acc=>by rw [aB4]; simp only [Option.bind_eq_bind,Option.bind_assoc]) [] (by rw [fm1]; simp only [List.length_nil]; omega)]
  rw [fm1,List.nil_append]
  cases e; rfl
theorem bZv (p:aL) (hz:dU p≤1048576) (H:∀ e,aX e<dU p→CpE e):CpP p:=by
  unfold CpP
  have hl:=aJl p
  have h1:appG 8 ([]:List Int) p.tables=some p.tables:=by rw [oH (by simp; omega)]; rfl
  have h2:appG 16 ([]:List (List UInt8)) p.names=some p.names:=by rw [oH (by simp; omega)]; rfl
  rw [yI,h1,h2,U6 p.where_ (by omega) fun e he=>H e (by have:=aNb he; have:=List.length_pos_of_mem he; omega),U6 p.items (by omega) fun e he=>H e (by have:=aKd he; have:=List.length_pos_of_mem he; omega)]
  simp only [Option.bind_eq_bind,Option.bind_some]
  have o1:∀ O:List (List aA),vE p O p.names p.items p.where_ p.tables (0,[])=some (aL.mk p.tables O p.where_ p.order p.items p.names p.distinct p.limit):=by
    intro O
    have := gather (p := p.order) (f := fun x => [x]) (c := 4194304) (G := fun y acc => (vX y.expr) >>= fun z => appG 128 acc ([bO.mk z y.desc] : List bO)) (L := fun acc i => vE p O p.names p.items p.where_ p.tables (i, acc)) (K := fun x => some (aL.mk p.tables O p.where_ x p.items p.names p.distinct p.limit)) (by omega) (fun y hy acc h => by
        have:CpE y.expr:=H _ (by have:=aK3 hy; have:=List.length_pos_of_mem hy; omega)
        rw [show vX y.expr=some y.expr from this]
        have ey:(bO.mk y.expr y.desc)=y:=by cases y; rfl
        show appG 128 acc [bO.mk y.expr y.desc]=some (acc++[y])
        rw [ey]
        exact oH (by simp at h ⊢; omega)) (fun i acc=>by
        rw [vE]
        by_cases hi:(i:Int)<(p.order.length:Int)
        · have hi':i<p.order.length:=by omega
          simp only [hi,decide_true,if_true,eF hi',Option.bind_eq_bind,Option.bind_some,Option.bind_assoc]
        · simp only [hi,decide_false,Bool.false_eq_true,if_false]) [] (by rw [fm1]; simp only [List.length_nil]; omega)
    rw [fm1,List.nil_append] at this
    exact this
  rw [gather (p := p.on_) (f := fun x => [x]) (c := 4194304) (G := fun y acc => (pR y) >>= fun z => appG 24 acc ([z] : List (List aA))) (L := fun acc i => aBx p p.names p.items p.where_ p.tables i acc) (K := fun x => vE p x p.names p.items p.where_ p.tables (0, [])) (by omega) (fun y hy acc h => by
      rw [U6 y (by have:=mI p; have:=jD (z:=zL aX) hy; have:=gM (z:=aX) y; omega) fun e he=>H e (by have:=onZ hy he; have:=List.length_pos_of_mem he; omega)]
      exact oH (by simp at h ⊢; omega)) (fun i acc=>by rw [aBx]; simp only [Option.bind_eq_bind,Option.bind_assoc]) [] (by rw [fm1]; simp only [List.length_nil]; omega)]
  rw [fm1,List.nil_append,o1]
  cases p; rfl
theorem aP4:∀ n:Nat,(∀ e:aA,aX e<n→aX e≤1048576→CpE e)∧(∀ p:aL,dU p<n→dU p≤1048576→CpP p)
  | 0=>⟨fun _ h=>absurd h (by omega),fun _ h=>absurd h (by omega)⟩
  | n+1=>by
    obtain ⟨i1,i2⟩:=aP4 n
    refine ⟨fun e he hz=>?_,fun p hp hz=>bZv p hz fun e he=>i1 e (by omega) (by omega)⟩
    have hl:=aKh e
    exact cKa e (by omega) (by omega) (fun k hk=>i1 k (by have:=P8 hk; have:=List.length_pos_of_mem hk; omega) (by have:=P8 hk; omega)) fun p hp=>i2 p (by have:=X9 hp; have:=List.length_pos_of_mem hp; omega) (by have:=X9 hp; omega)
theorem aS4 (e:aA) (hz:aX e≤1048576):CpE e:=(aP4 _).1 e (Nat.lt_succ_self _) hz
theorem bRo (p:aL) (hz:dU p≤1048576):CpP p:=(aP4 _).2 p (Nat.lt_succ_self _) hz
theorem bQn (p:bC) (hz:lH p≤1048576):aFt p=some p:=by
  have e:=nK p
  have l1:=gM (z:=zL aX) p.rows
  have l2:=gM (z:=z0) p.cols
  have l3:=gM (z:=aX) p.sets
  have l4:=gM (z:=aX) p.where_
  have h1:appG 8 ([]:List Int) p.cols=some p.cols:=by rw [oH (by simp; omega)]; rfl
  have hp:yI p.plan=some p.plan:=bRo p.plan (by omega)
  rw [aFt,hp,h1,U6 p.sets (by omega) fun e he=>aS4 e (by have:=jD (z:=aX) he; omega),U6 p.where_ (by omega) fun e he=>aS4 e (by have:=jD (z:=aX) he; omega)]
  simp only [Option.bind_eq_bind,Option.bind_some]
  rw [gather (p := p.rows) (f := fun x => [x]) (c := 4194304) (G := fun y acc => (pR y) >>= fun z => appG 24 acc ([z] : List (List aA))) (L := fun acc i => U2 p p.plan p.where_ p.sets p.cols i acc) (K := fun x => some (bC.mk p.kind p.plan p.table x p.cols p.sets p.where_)) (by omega) (fun y hy acc h => by
      have h2:=jD (z:=zL aX) hy
      rw [U6 y (by have:=gM (z:=aX) y; omega) fun e he=>aS4 e (by have:=jD (z:=aX) he; omega)]
      exact oH (by simp at h ⊢; omega)) (fun i acc=>by rw [U2]; simp only [Option.bind_eq_bind,Option.bind_assoc]) [] (by rw [fm1]; simp only [List.length_nil]; omega)]
  rw [fm1,List.nil_append]
theorem cHk (p:List Int) (hp:p.length≤1048576):Yes (aEx p) fun r=>lH r.1≤1048576∧lH r.2≤1048576:=by
  unfold aEx
  refine Yes.bind (bH7 p hp) fun y1 ⟨_,h1⟩=>?_
  obtain ⟨c,e,hc⟩:=aYt p hp
  rw [e,bQn y1.2 (by omega)]
  simp only [Option.bind_eq_bind,Option.bind_some]
  have eS:∀ q:bC,lH (bC.mk q.kind (aL.mk q.plan.tables q.plan.on_ q.plan.where_ q.plan.order q.plan.items q.plan.names q.plan.distinct q.plan.limit) q.table q.rows q.cols q.sets q.where_)=lH q:=fun q=>by rw [nK,nK]; dsimp only; rw [mI,mI]
  have eT:∀ (q:bC) (t:Int),lH (bC.mk q.kind (aL.mk q.plan.tables q.plan.on_ q.plan.where_ q.plan.order q.plan.items q.plan.names q.plan.distinct q.plan.limit) t q.rows q.cols q.sets q.where_)=lH q:=fun q t=>by rw [nK,nK]; dsimp only; rw [mI,mI]
  unfold X0
  refine Yes.bind (fD _ _ hc) fun y4 ⟨_,_,k⟩=>Yes.ite (fun _=>?_) fun _=>Yes.ite (fun _=>?_) fun _=>Yes.ite (fun _=>?_) fun _=>?_
  · refine Yes.bind (bB0 _ (by omega) (by omega) k) fun q ⟨⟨_,hS⟩,_⟩=>Yes.some ⟨by dsimp only; omega,?_⟩
    have:=hS.size
    dsimp only
    rw [eS]; omega
  · exact Yes.some ⟨by dsimp only; omega,by dsimp only; rw [eT]; omega⟩
  · have lr:=gM (z:=zL aX) y1.2.rows
    have e1:=nK y1.2
    refine Yes.bind (iU (by simp; omega)) fun y e=>?_
    subst e
    refine Yes.some ⟨by dsimp only; omega,?_⟩
    dsimp only
    rw [nK] at h1 ⊢
    dsimp only
    rw [aL4,aAm,zA]
    have e2:dU (aL.mk y1.2.plan.tables y1.2.plan.on_ y1.2.plan.where_ y1.2.plan.order y1.2.plan.items y1.2.plan.names y1.2.plan.distinct y1.2.plan.limit)=dU y1.2.plan:=by rw [mI,mI]
    omega
  · exact Yes.some ⟨by dsimp only; omega,by dsimp only; rw [eS]; omega⟩
theorem bCe (x y:bC):x=y↔x.kind=y.kind∧x.plan=y.plan∧x.table=y.table∧x.rows=y.rows∧x.cols=y.cols∧x.sets=y.sets∧x.where_=y.where_:=by cases x; cases y; simp
theorem aTx (x y:bC) (hz:lH x≤1048576):Dq (Z7 x y) (x=y)∧Dq (aEp x y) (x=y):=by
  have e:=nK x
  have l1:=gM (z:=zL aX) x.rows
  have l2:=gM (z:=z0) x.cols
  have l3:=gM (z:=aX) x.sets
  have l4:=gM (z:=aX) x.where_
  obtain ⟨⟨p1,p2,p3⟩,q1,q2,q3⟩:=bUm x.plan y.plan (by omega)
  have H1:∀ l ∈ x.rows,l.length≤1048576∧∀ e ∈ l,∀ y,SqE e y:=fun l hm=>⟨by have:=jD (z:=zL aX) hm; have:=gM (z:=aX) l; omega,fun e he y=>aU6 e y (by have:=jD (z:=zL aX) hm; have:=jD (z:=aX) he; omega)⟩
  have H2:∀ e ∈ x.sets,∀ y,SqE e y:=fun e he y=>aU6 e y (by have:=jD (z:=aX) he; omega)
  have H3:∀ e ∈ x.where_,∀ y,SqE e y:=fun e he y=>aU6 e y (by have:=jD (z:=aX) he; omega)
  constructor
  · obtain ⟨b1,h1,k1⟩:=bGc x.rows y.rows (by omega) H1
    obtain ⟨b2,h2,k2⟩:=bFm x.cols y.cols (by omega)
    obtain ⟨b3,h3,k3⟩:=aAu x.sets y.sets (by omega) H2
    obtain ⟨b4,h4,k4⟩:=aAu x.where_ y.where_ (by omega) H3
    rw [Z7,p2,h1,h2,h3,h4]
    have hE:x=y↔(decide (x.kind=y.kind)=true∧p1=true∧decide (x.table=y.table)=true∧b1=true∧b2=true∧b3=true∧b4=true):=by
      rw [bCe,p3,k1,k2,k3,k4]; simp only [decide_eq_true_eq]
    unfold Dq
    rw [hE]
    clear hE
    generalize decide (x.kind=y.kind)=c1
    generalize decide (x.table=y.table)=c2
    refine ⟨c1&&p1&&c2&&b1&&b2&&b3&&b4,?_,by simp only [Bool.and_eq_true,and_assoc]⟩
    cases c1 <;> cases p1 <;> cases c2 <;> cases b1 <;> cases b2 <;> cases b3 <;> cases b4 <;> rfl
  · obtain ⟨b2,h2,k2⟩:=bCy x.cols y.cols (by omega)
    obtain ⟨b3,h3,k3⟩:=O9 x.sets y.sets (by omega) H2
    obtain ⟨b4,h4,k4⟩:=O9 x.where_ y.where_ (by omega) H3
    rw [aEp,q2,h2,h3,h4]
    by_cases hr:x.rows.length=y.rows.length
    case neg =>
      have hd:decide ((x.rows.length:Int)=(y.rows.length:Int))=false:=by simp; omega
      have hne:¬ x=y:=fun e=>hr (by rw [e])
      rw [hd]
      generalize decide (x.kind=y.kind)=c1
      generalize decide (x.table=y.table)=c2
      refine ⟨false,?_,by simp [hne]⟩
      cases c1 <;> cases q1 <;> cases c2 <;> cases b2 <;> cases b3 <;> cases b4 <;> rfl
    have hd:decide ((x.rows.length:Int)=(y.rows.length:Int))=true:=by simp; omega
    obtain ⟨b1,h1,k1⟩:=aEg (p:=x.rows) (q:=y.rows) (f:=fun a b=>nV a b) (L:=fun i=>D8 x y i) (K:=some true) (C:=True) (by omega) hr (fun i=>by rw [D8]) (fun z hz w _=>O9 z w (H1 z hz).1 (H1 z hz).2) aMp
    rw [and_true] at k1
    rw [show D8 x y 0=_ from h1,hd]
    have hE:x=y↔(decide (x.kind=y.kind)=true∧q1=true∧decide (x.table=y.table)=true∧b1=true∧b2=true∧b3=true∧b4=true):=by
      rw [bCe,q3,k1,k2,k3,k4]; simp only [decide_eq_true_eq]
    unfold Dq
    rw [hE]
    clear hE
    generalize decide (x.kind=y.kind)=c1
    generalize decide (x.table=y.table)=c2
    refine ⟨c1&&q1&&c2&&b1&&b2&&b3&&b4,?_,by simp only [Bool.and_eq_true,and_assoc]⟩
    cases c1 <;> cases q1 <;> cases c2 <;> cases b1 <;> cases b2 <;> cases b3 <;> cases b4 <;> rfl
theorem cFd0 (p:List Int) (hp0:∀ v ∈ p,0≤v∧v<256):aF5 p=some true:=by
  unfold aF5 aJn
  simp only [Option.bind_eq_bind,Option.bind_some]
  by_cases hb:1048576<(p.length:Int)
  · simp [hb]
  have hp:p.length≤1048576:=by omega
  obtain ⟨⟨a,b⟩,e1,h1,h2⟩:=cHk p hp
  obtain ⟨⟨c,q⟩,e2,h3,h4⟩:Yes (aFk p) okA:=by
    unfold aFk
    exact Yes.bind (bH7 p hp) fun r hr=>Yes.some hr
  dsimp only at h1 h2 h3 h4
  rw [e1,e2]
  obtain ⟨b1,i1,s1⟩:=aR9 c h3 q (by omega)
  obtain ⟨b2,i2,s2⟩:=aR9 c h3 a (by omega)
  obtain ⟨b3,i3,s3⟩:=aR9 c h3 b (by omega)
  obtain ⟨b4,i4,k4⟩:=(aTx q q (by omega)).1
  obtain ⟨⟨b5,i5,k5⟩,b6,i6,k6⟩:=aTx a b h1
  obtain ⟨b7,i7,k7⟩:=(aTx b a h2).1
  have t4:b4=true:=k4.2 rfl
  subst t4
  have t6:b6=b5:=by rw [Bool.eq_iff_iff,k5,k6]
  subst t6
  have t7:b7=b6:=by rw [Bool.eq_iff_iff,k7,k6]; exact eq_comm
  subst t7
  simp only [hb,decide_false,Bool.false_eq_true,if_false,Option.bind_some,i1,s1,s2,s3,i4,i5,i6,i7]
  cases b7 with
  | false=>cases b1 <;> rfl
  | true =>
    have hab:=k6.1 rfl
    subst hab
    rw [i2] at i3
    simp only [Option.some.injEq] at i3
    subst i3
    cases b1 <;> cases b2 <;> rfl
theorem cFd (p:List Int) (h:okL okU8 p):aF5 p=some true:=cFd0 p fun v hv=>by have:=h.2 v hv; unfold okU8 at this; omega
end Go.Ab
