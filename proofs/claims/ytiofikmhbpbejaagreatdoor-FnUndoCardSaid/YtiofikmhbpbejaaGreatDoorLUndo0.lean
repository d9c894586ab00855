/- What the functions compute,in plain Lean. -/
import Derived.Test.YtiofikmhbpbejaaGreatDoorFUndo
namespace Go.Ab
open Go
open _root_.Option renaming bind_some→QA,bind_eq_bind→QB,some.injEq→QJ,bind_assoc→QV,getD_some→WJ
open Go.IntKind renaming wrap→QC,bits→WI,signed→XL
open _root_.Bool renaming false_eq_true→QD,not_true→QE,not_false→QF,true_and→QG,and_true→QH,false_and→QI,and_false→QK,false_or→QL,or_false→QO,and_eq_true→QP,true_or→QQ,or_true→QR,and_assoc→QS,eq_iff_iff→QW,not_eq_true'→WE,and_self→WN,or_eq_true→WW
open _root_.List renaming getElem_mem→QM,length_append→QN,length_cons→QT,length_nil→QU,drop_eq_getElem_cons→QX,map_cons→QY,mem_append→QZ,sum_cons→WA,flatMap_cons→WB,getElem?_eq_getElem→WC,length_pos_of_mem→WD,mem_cons→WF,replicate→WK,length→WL,all_cons→WM,map_nil→WO,sum_nil→WP,mem_cons_of_mem→WQ,map_append→WT,nil_append→WU,foldl_cons→WX,mem_flatMap→WY,length_pos_iff→WZ,append_nil→XA,eq_nil_of_length_eq_zero→XB,length_take→XC,getElem_of_mem→XD,mem_map→XF,mem_singleton→XG,sum_append→XH
open _root_.Int renaming tmod→WG,tdiv→WH,add_comm→XI
open _root_.Nat renaming lt_irrefl→WR,lt_succ_self→WS,le_trans→WV,zero_add→XJ,le_refl→XK
theorem eX {n:Int} (h1 : -9223372036854775808≤n) (h2:n≤9223372036854775807):QC .i64 n=n:=by rw [IntKind.wrap_i64]; omega
theorem dX {i n:Nat} (h:i<n) (hn:n≤4611686018427387904):QC .i64 ((i:Int)+1)=((i+1:Nat):Int):=by rw [eX] <;> omega
theorem dD (i n:Nat):decide ((i:Int)<(n:Int))=decide (i<n):=by simp
theorem aSa {α:Type} (l:List α) (i:Nat):idx l (i:Int)=l[i]?:=by simp [idx]
theorem bX {α:Type} {l:List α} {i:Nat} (h:i<l.length):idx l (i:Int)=some l[i]:=by rw [aSa]; simp [h]
theorem eO {M:Nat→Prop} {n:Nat} (h0:M n) (h:∀ i,i<n→M (i+1)→M i):∀ i,i≤n→M i:=by
  have:∀ k i,i+k=n→M i:=by
    intro k
    induction k with
    | zero => intro i hi; have : i = n := by omega
              subst this; exact h0
    | succ k ih=>intro i hi; exact h i (by omega) (ih (i+1) (by omega))
  exact fun i hi=>this (n - i) i (by omega)
theorem aP0 {α:Type} {by':Nat} {n:Nat} {z:α} (h:(n:Int) * by'≤140737488355328):mkG by' (n:Int) z=some (WK n z):=by
  unfold mkG; rw [if_pos ⟨by omega,h⟩]; simp
def zL {α:Type} (z:α→Nat) (l:List α):Nat:=l.length+(l.map z).sum
def z0 {α:Type} (_:α):Nat:=0
theorem aKh {α:Type} (z:α→Nat) (x:α) (l:List α):((x::l).map z).sum=z x+(l.map z).sum:=by simp
theorem bHi {α : Type} {p : List α} {E : α → α → Option Bool} {L : Int → Option Bool} {S : List α → List α → Option Bool} (hp : p.length ≤ 1048576)
    (hS:S p p=if (!decide ((p.length:Int)=(p.length:Int)))=true then (some false) else L 0)
    (hL:∀ i:Nat,L (i:Int)=if (decide ((i:Int)<(p.length:Int)))=true then ((idx p (i:Int))>>=fun y1=>(idx p (i:Int))>>=fun y2=>(E y1 y2)>>=fun y3=>if (!y3)=true then (some false) else L (QC .i64 ((i:Int)+1))) else some true)
    (H:∀ y ∈ p,E y y=some true):S p p=some true:=by
  have key:∀ i,i≤p.length→L (i:Nat)=some true:=by
    refine eO ?_ ?_
    · rw [hL]; simp
    · intro i hi ih
      rw [hL]
      simp only [dD,bX hi,dX hi (by omega),H _ (QM hi),QB,QA,ih]
      simp
  rw [hS]
  have:=key 0 (by omega)
  simpa using this
theorem nR {α:Type} {z:α→Nat}:∀ {p:List α} {y:α},y ∈ p→z y≤(p.map z).sum
  | x::p,y,h=>by
    rw [aKh]
    rcases WF.1 h with rfl | h
    · omega
    · have:=nR (z:=z) h; omega
mutual
def gJ:aL→Nat
  | ⟨_,_,_,_,_,_,a6,a7⟩=>(a6.length+jV a6)+(a7.length+wE a7)
def aCf:dU→Nat
  | ⟨_,_,a2,_⟩=>gJ a2
def mW:aV→Nat
  | ⟨_,a1,a2,a3,a4,_⟩=>(a1.length+yY a1)+(a2.length+wR a2)+(a3.length+jV a3)+(a4.length+zA a4)
def aHc:eH→Nat
  | ⟨a0,_⟩=>gJ a0
def aCg:bZ→Nat
  | ⟨_,_,a2⟩=>a2.length+jV a2
def jV:List aL→Nat
  | []=>0
  | x::l=>gJ x+jV l
def yY:List dU→Nat
  | []=>0
  | x::l=>aCf x+yY l
def wE:List aV→Nat
  | []=>0
  | x::l=>mW x+wE l
def zA:List eH→Nat
  | []=>0
  | x::l=>aHc x+zA l
def wR:List bZ→Nat
  | []=>0
  | x::l=>aCg x+wR l
end
theorem aPy:∀ l:List aL,jV l=(l.map gJ).sum
  | []=>by simp [jV]
  | x::l=>by simp [jV,aPy l]
theorem bJd:∀ l:List aV,wE l=(l.map mW).sum
  | []=>by simp [wE]
  | x::l=>by simp [wE,bJd l]
def aTj:bH→Nat
  | ⟨a0,a1,a2⟩=>a2.length
mutual
def qD:bN→Nat
  | ⟨a0,a1⟩=>aZ a0
def dY:aQ→Nat
  | ⟨a0,a1,a2,a3,a4,a5,a6,a7⟩=>(zL z0) a0+(a1.length+aCh a1)+(a2.length+E5 a2)+(a3.length+aDj a3)+(a4.length+E5 a4)+(zL WL) a5
def aZ:aA→Nat
  | ⟨a0,a1,a2,a3,a4,a5,a6,a7⟩=>aTj a3+(a6.length+E5 a6)+(a7.length+aIk a7)
def aIk:List aQ→Nat
  | []=>0
  | x::l=>dY x+aIk l
def E5:List aA→Nat
  | []=>0
  | x::l=>aZ x+E5 l
def aDj:List bN→Nat
  | []=>0
  | x::l=>qD x+aDj l
def aCh:List (List aA)→Nat
  | []=>0
  | x::l=>(x.length+E5 x)+aCh l
end
theorem aYw:∀ l:List aQ,aIk l=(l.map dY).sum
  | []=>by simp [aIk]
  | x::l=>by rw [aKh,← aYw l]; simp only [aIk]
theorem Z8:∀ l:List aA,E5 l=(l.map aZ).sum
  | []=>by simp [E5]
  | x::l=>by rw [aKh,← Z8 l]; simp only [E5]
theorem aKm:∀ l:List bN,aDj l=(l.map qD).sum
  | []=>by simp [aDj]
  | x::l=>by rw [aKh,← aKm l]; simp only [aDj]
theorem aKl:∀ l:List (List aA),aCh l=(l.map (zL aZ)).sum
  | []=>by simp [aCh]
  | x::l=>by rw [aKh,← aKl l]; simp only [aCh,zL,Z8]
theorem iP {α:Type} {b:Nat} {l m:List α} (h:(l.length+m.length) * b≤140737488355328):appG b l m=some (l++m):=by unfold appG; rw [if_pos h]
theorem gather {α β γ : Type} {p : List α} {f : α → List β} {G : α → List β → Option (List β)} {L : List β → Int → Option γ} {K : List β → Option γ} {c : Nat} (hp : p.length ≤ 4194304)
    (hG:∀ y ∈ p,∀ acc:List β,acc.length+(f y).length≤c→G y acc=some (acc++f y))
    (hL:∀ (i:Nat) acc,L acc (i:Int)=if (decide ((i:Int)<(p.length:Int)))=true then ((idx p (i:Int))>>=fun y=>(G y acc)>>=fun z=>L z (QC .i64 ((i:Int)+1))) else K acc) :
    ∀ acc:List β,acc.length+(p.flatMap f).length≤c→L acc 0=K (acc++p.flatMap f):=by
  have key:∀ i,i≤p.length→∀ acc:List β,acc.length+((p.drop i).flatMap f).length≤c→L acc (i:Nat)=K (acc++(p.drop i).flatMap f):=by
    refine eO ?_ ?_
    · intro acc _
      rw [hL]; simp
    · intro i hi ih acc ha
      rw [QX hi,WB,QN] at ha
      rw [hL,bX hi,dX hi (by omega)]
      simp only [dD,hi,decide_true,if_true,QB,QA,hG _ (QM hi) acc (by omega)]
      rw [ih _ (by rw [QN]; omega),QX hi,WB,List.append_assoc]
  intro acc ha
  simpa using key 0 (by omega) acc (by simpa using ha)
theorem folded {α β γ : Type} {p : List α} {g : α → β → Option β} {h : α → β → β} {L : β → Int → Option γ} {K : β → Option γ} (hp : p.length ≤ 1048576)
    (hg:∀ y ∈ p,∀ b,g y b=some (h y b))
    (hL:∀ (i:Nat) b,L b (i:Int)=if (decide ((i:Int)<(p.length:Int)))=true then ((idx p (i:Int))>>=fun y=>(g y b)>>=fun z=>L z (QC .i64 ((i:Int)+1))) else K b) :
    ∀ b,L b 0=K (p.foldl (fun b y=>h y b) b):=by
  have key:∀ i,i≤p.length→∀ b,L b (i:Nat)=K ((p.drop i).foldl (fun b y=>h y b) b):=by
    refine eO ?_ ?_
    · intro b; rw [hL]; simp
    · intro i hi ih b
      rw [hL,bX hi,dX hi (by omega)]
      simp only [dD,hi,decide_true,if_true,QB,QA,hg _ (QM hi)]
      rw [ih,QX hi,WX]
  intro b
  simpa using key 0 (by omega) b
theorem aC9 {α:Type} {z:α→Nat} {l:List α} {x:α} (h:x ∈ l):z x+l.length≤zL z l:=by
  have:=nR (z:=z) h
  unfold zL; omega
theorem aFk (x:aA):aZ x=x.value.text.length+zL aZ x.kids+zL dY x.sub:=by
  obtain ⟨a0,a1,a2,⟨b0,b1,b2⟩,a4,a5,a6,a7⟩:=x
  simp only [aZ,aTj,Z8,aYw,zL]
theorem Y3 (q:aQ):dY q=zL z0 q.tables+zL (zL aZ) q.on_+zL aZ q.where_+(q.order.length+(q.order.map fun k=>aZ k.expr).sum)+zL aZ q.items+zL WL q.names:=by
  obtain ⟨a0,a1,a2,a3,a4,a5,a6,a7⟩:=q
  simp only [dY,Z8,aKm,aKl,zL]
  have:(a3.map qD)=a3.map fun k=>aZ k.expr:=List.map_congr_left fun k _=>by obtain ⟨k0,k1⟩:=k; simp only [qD]
  rw [this]
theorem zH {α:Type} {z:α→Nat} (l:List α):l.length≤zL z l:=by unfold zL; omega
theorem aPi {x k:aA} (h:k ∈ x.kids):aZ k+x.kids.length≤aZ x:=by have:=aFk x; have:=aC9 (z:=aZ) h; omega
theorem aO9 {x:aA} {p:aQ} (h:p ∈ x.sub):dY p+x.sub.length≤aZ x:=by have:=aFk x; have:=aC9 (z:=dY) h; omega
theorem aOc (x:aA):x.kids.length+x.sub.length≤aZ x:=by have:=aFk x; have:=zH (z:=aZ) x.kids; have:=zH (z:=dY) x.sub; omega
theorem onZ {q:aQ} {l:List aA} {e:aA} (h:l ∈ q.on_) (he:e ∈ l):aZ e+l.length+q.on_.length≤dY q:=by have:=Y3 q; have:=aC9 (z:=zL aZ) h; have:=aC9 (z:=aZ) he; omega
theorem bD1 {q:aQ} {e:aA} (h:e ∈ q.where_):aZ e+q.where_.length≤dY q:=by have:=Y3 q; have:=aC9 (z:=aZ) h; omega
theorem aVn {q:aQ} {e:aA} (h:e ∈ q.items):aZ e+q.items.length≤dY q:=by have:=Y3 q; have:=aC9 (z:=aZ) h; omega
theorem aXu {q:aQ} {k:bN} (h:k ∈ q.order):aZ k.expr+q.order.length≤dY q:=by have:=Y3 q; have:=nR (z:=fun k:bN=>aZ k.expr) h; omega
theorem aNl (q:aQ):q.tables.length+q.on_.length+q.where_.length+q.order.length+q.items.length+q.names.length≤dY q:=by
  have:=Y3 q; have:=zH (z:=z0) q.tables; have:=zH (z:=zL aZ) q.on_; have:=zH (z:=aZ) q.where_; have:=zH (z:=aZ) q.items; have:=zH (z:=WL) q.names; omega
theorem H9 (s:List UInt8):∃ b,lX s=some b∧rA s=some b:=by
  unfold rA lX iX
  exact ⟨_,rfl,rfl⟩
theorem bZ7 (s:List UInt8):∃ b,lZ s=some b:=by
  obtain ⟨b,h1,h2⟩:=H9 s
  unfold lZ
  by_cases h:s=[]
  · exact ⟨true,by simp [h]⟩
  · exact ⟨b,by simp [h,h1]⟩
theorem bG9 (x:bH):aI3 x=aA7 x∧∃ b,aA7 x=some b:=by
  unfold aI3 aA7 iX
  simp only [QB,QA]
  by_cases h0:x.kind=0
  · simp [h0]
  by_cases h1:x.kind=1
  · simp [h1]
  by_cases h2:x.kind=2
  · simp [h2]
  by_cases h3:x.kind=3
  · by_cases n0:x.num=0
    · simp [h3,n0]
    by_cases n1:x.num=1
    · simp [h3,n1]
    have e:(if decide (0≤x.num)=true then decide (x.num≤1) else false)=false:=by
      by_cases p:0≤x.num
      · simp [p]; omega
      · simp [p]
    rw [e]
    simp [h3,n0,n1]
  · simp [h0,h1,h2,h3]
theorem aMx (x:bH):∃ b,M3 x=some b∧aH5 x=some b:=by
  obtain ⟨h1,b,h2⟩:=bG9 x
  unfold M3 aH5
  rw [h1,h2]
  cases b <;> simp
theorem orB (b c:Bool):(if b=true then true else c)=(b||c):=by cases b <;> rfl
theorem aGq (b c:Bool):(if b=true then c else false)=(b&&c):=by cases b <;> rfl
def zvE (x:aL):Bool:=((decide (x.value.kind=0))&&((decide (x.value.num=0))&&((decide (x.value.text=[]))&&true)))
theorem bRv (x : aL) : qH x = (if ((!decide (x.kind = 2) && (!decide (x.qual = []) || !decide (x.name = []))) || (!decide (x.kind = 1) && !zvE x)) = true then some false else
    if ((!decide (x.kind=3)&&!decide (x.kind=4))&&!decide (x.op=0)||(x.not_&&!(decide (5≤x.kind)&&decide (x.kind≤8))))=true then some false else
    (if (decide (x.kind=1))=true then ((M3 x.value)>>=fun (y10:Bool)=>some (y10&&decide ((QC .i64 ((x.kids.length:Int)+(x.sub.length:Int)))=0)))
     else if (decide (x.kind=2))=true then ((lX x.name)>>=fun (y12:Bool)=>(if y12=true then lZ x.qual else some false)>>=fun (y14:Bool)=>some (y14&&decide ((QC .i64 ((x.kids.length:Int)+(x.sub.length:Int)))=0)))
     else some (if x.kind=3 then (decide (x.op=15)||decide (x.op=16))&&decide ((x.kids.length:Int)=1)&&decide ((x.sub.length:Int)=0)
      else if x.kind=4 then (decide (1≤x.op)&&decide (x.op≤14))&&decide ((x.kids.length:Int)=2)&&decide ((x.sub.length:Int)=0)
      else if x.kind=5 then decide ((x.kids.length:Int)=1)&&decide ((x.sub.length:Int)=0)
      else if x.kind=6 then decide ((x.kids.length:Int)=3)&&decide ((x.sub.length:Int)=0)
      else if x.kind=7 then (decide (2≤(x.kids.length:Int))&&decide ((x.kids.length:Int)≤9))&&decide ((x.sub.length:Int)=0)
      else if x.kind=8 then decide ((x.kids.length:Int)=1)&&decide ((x.sub.length:Int)=1)
      else if x.kind=9 then decide ((x.kids.length:Int)=0)&&decide ((x.sub.length:Int)=1)
      else false))):=by
  unfold qH iX
  simp only [QB]
  simp only [QA]
  simp only [aGq,orB]
  obtain ⟨k,o,no,v,q,nm,ks,sb⟩:=x
  obtain ⟨bl,l1,l2⟩:=aMx v
  obtain ⟨bn,n1,n2⟩:=H9 nm
  obtain ⟨bq,q1⟩:=bZ7 q
  have hz:zvE ⟨k,o,no,v,q,nm,ks,sb⟩=((decide (v.kind=0))&&((decide (v.num=0))&&((decide (v.text=[]))&&true))):=rfl
  simp only [l1,n1,q1,hz,QA]
  generalize ((decide (v.kind=0))&&((decide (v.num=0))&&((decide (v.text=[]))&&true)))=zv
  generalize decide (q=[])=q0
  generalize decide (nm=[])=n0
  by_cases k1:k=1
  · subst k1; cases q0 <;> cases n0 <;> cases no <;> by_cases o0:o=0 <;> cases bl <;> simp [o0]
  by_cases k2:k=2
  · subst k2; cases zv <;> cases no <;> by_cases o0:o=0 <;> cases bn <;> simp [o0]
  by_cases k3:k=3
  · subst k3; cases q0 <;> cases n0 <;> cases zv <;> cases no <;> simp
  by_cases k4:k=4
  · subst k4; cases q0 <;> cases n0 <;> cases zv <;> cases no <;> simp
  have kk:¬ (k=3∨k=4):=by omega
  by_cases k5:k=5
  · subst k5; cases q0 <;> cases n0 <;> cases zv <;> cases no <;> by_cases o0:o=0 <;> simp [o0]
  by_cases k6:k=6
  · subst k6; cases q0 <;> cases n0 <;> cases zv <;> cases no <;> by_cases o0:o=0 <;> simp [o0]
  by_cases k7:k=7
  · subst k7; cases q0 <;> cases n0 <;> cases zv <;> cases no <;> by_cases o0:o=0 <;> simp [o0]
  by_cases k8:k=8
  · subst k8; cases q0 <;> cases n0 <;> cases zv <;> cases no <;> by_cases o0:o=0 <;> simp [o0]
  by_cases k9:k=9
  · subst k9; cases q0 <;> cases n0 <;> cases zv <;> cases no <;> by_cases o0:o=0 <;> simp [o0]
  have kr:(decide (5≤k)&&decide (k≤8))=false:=by
    by_cases h:5≤k
    · have:¬ k≤8:=by omega
      simp [this]
    · simp [h]
  cases q0 <;> cases n0 <;> cases zv <;> cases no <;> by_cases o0:o=0 <;> simp [o0,k1,k2,k3,k4,k5,k6,k7,k8,k9]
theorem bGv (x : aL) (bl bc : Bool) (h1 : aH5 x.value = some bl) (h2 : (lX x.name >>= fun (y12 : Bool) => (if y12 = true then lZ x.qual else some false)) = some bc) : D5 x = some (
    if x.kind=1 then (⟨false,false,true,false,0,0,0⟩,bl)
    else if x.kind=2 then (⟨false,false,false,true,0,0,0⟩,bc)
    else if x.kind=3 then (⟨true,false,false,false,1,1,0⟩,decide (x.op=15)||decide (x.op=16))
    else if x.kind=4 then (⟨true,false,false,false,2,2,0⟩,decide (1≤x.op)&&decide (x.op≤14))
    else if x.kind=5 then (⟨false,true,false,false,1,1,0⟩,true)
    else if x.kind=6 then (⟨false,true,false,false,3,3,0⟩,true)
    else if x.kind=7 then (⟨false,true,false,false,2,9,0⟩,true)
    else if x.kind=8 then (⟨false,true,false,false,1,1,1⟩,true)
    else if x.kind=9 then (⟨false,false,false,false,0,0,1⟩,true)
    else (⟨false,false,false,false,0,0,0⟩,false)):=by
  obtain ⟨k,o,no,v,q,nm,ks,sb⟩:=x
  obtain ⟨bn,n1,n2⟩:=H9 nm
  obtain ⟨bo,o1,o2⟩:=H9 q
  unfold D5
  dsimp only at h1 h2 ⊢
  have h3:((if ((true&&(bn==true))&&((decide (q=[]))==false))=true then rA q else some default).bind fun (y3:Bool)=>(if (true&&(bn==true))=true then some (if (decide (q=[]))=true then true else y3) else some default).bind fun (y4:Bool)=>(some (if bn=true then y4 else false)).bind fun y5=>some ((mJ.mk false false false true 0 0 0),y5))=some ((mJ.mk false false false true 0 0 0),bc):=by
    unfold lZ at h2
    rw [n1,o1] at h2
    rw [o2]
    cases bn
    · simp at h2; simp [h2]
    · by_cases q0:q=[]
      · simp [q0] at h2; simp [q0,h2]
      · simp [q0] at h2; simp [q0,h2]
  simp only [h1,n2,QB,QA]
  by_cases k1:k=1
  · simp [k1]
  by_cases k2:k=2
  · subst k2; simp only [QA] at h3; simpa using h3
  by_cases k3:k=3
  · simp [k3]
  by_cases k4:k=4
  · simp [k4]
  by_cases k5:k=5
  · simp [k5]
  by_cases k6:k=6
  · simp [k6]
  by_cases k7:k=7
  · simp [k7]
  by_cases k8:k=8
  · simp [k8]
  by_cases k9:k=9
  · simp [k9]
  simp [k1,k2,k3,k4,k5,k6,k7,k8,k9]
theorem bFu:aF6=aA1:=by
  funext p q
  unfold aF6 aA1 aKu J8 iX
  rfl
def okT (p:Int):Prop:=0≤p∧p≤3
theorem aQv {p:Int} (h:okT p):J8 p=some true:=by
  unfold J8 iX
  have h1:=h.1
  have h2:=h.2
  simp [h1,h2]
theorem bLm {p q:Int} (hp:okT p) (hq:okT q):∃ r,aA1 p q=some r∧okT r.1:=by
  unfold aA1
  rw [aQv hp,aQv hq]
  simp only [QE,beq_self_eq_true,WN,if_true,QD,if_false,QB,QA]
  have h0:okT 0:=⟨by omega,by omega⟩
  by_cases p0:p=0
  · exact ⟨(q,true),by simp [p0],hq⟩
  · by_cases q0:q=0∨p=q
    · refine ⟨(p,true),?_,hp⟩
      rcases q0 with h | h <;> simp [p0,h]
    · have a1:¬ q=0:=fun h=>q0 (.inl h)
      have a2:¬ p=q:=fun h=>q0 (.inr h)
      exact ⟨(0,false),by simp [p0,a1,a2],h0⟩
theorem aMb:qQ=aB6:=rfl
theorem aJv (p:Int):∃ b,aB6 p=some b:=⟨_,rfl⟩
theorem bD2 (p q:Int):aEp p q=some (decide (p=0)||decide (p=q)):=by
  unfold aEp
  by_cases h:p=0 <;> simp [h]
theorem bE9 (a p q:Int):aDb a p q=some ((decide (p=0)||decide (p=a))&&(decide (q=0)||decide (q=a))):=by
  unfold aDb
  by_cases h1:p=a <;> by_cases h2:p=0 <;> by_cases h3:q=a <;> by_cases h4:q=0 <;> simp [h1,h2,h3,h4]
theorem cDa (o p q:Int) (hp:okT p) (hq:okT q):∃ r,aIq o p q=some r∧aIn o p q=some r∧okT r.1:=by
  have h0:okT 0:=⟨by omega,by omega⟩
  have h3:okT 3:=⟨by omega,by omega⟩
  have h2:okT 2:=⟨by omega,by omega⟩
  have h1:okT 1:=⟨by omega,by omega⟩
  obtain ⟨m,m1,m2⟩:=bLm hp hq
  obtain ⟨t1,e1⟩:=aJv p
  obtain ⟨t2,e2⟩:=aJv q
  unfold aIq aIn aAr aKs uV iX
  simp only [bFu,aMb,m1,e1,e2,aQv hp,aQv hq,bD2,bE9,QB,QA]
  by_cases a:1≤o
  · by_cases b:o≤14
    · have c1:¬ o<1:=by omega
      have c2:¬ 14<o:=by omega
      by_cases d:o≤2
      · cases t1 <;> cases t2
        · exact ⟨(0,false),by simp [c1,c2,d],by simp [a,b,d],h0⟩
        · exact ⟨(0,false),by simp [c1,c2,d],by simp [a,b,d],h0⟩
        · exact ⟨(0,false),by simp [c1,c2,d],by simp [a,b,d],h0⟩
        · exact ⟨(3,true),by simp [c1,c2,d],by simp [a,b,d],h3⟩
      by_cases d2:o≤8
      · cases hm:m.2
        · exact ⟨(0,false),by simp [c1,c2,d,d2,hm],by simp [a,b,d,d2,hm],h0⟩
        · exact ⟨(3,true),by simp [c1,c2,d,d2,hm],by simp [a,b,d,d2,hm],h3⟩
      by_cases d3:o=9
      · subst d3
        generalize (decide (p=0)||decide (p=2))=b1
        generalize (decide (q=0)||decide (q=2))=b2
        cases b1 <;> cases b2
        · exact ⟨(0,false),by simp,by simp,h0⟩
        · exact ⟨(0,false),by simp,by simp,h0⟩
        · exact ⟨(0,false),by simp,by simp,h0⟩
        · exact ⟨(2,true),by simp,by simp,h2⟩
      · generalize (decide (p=0)||decide (p=1))=b1
        generalize (decide (q=0)||decide (q=1))=b2
        cases b1 <;> cases b2
        · exact ⟨(0,false),by simp [c1,c2,d,d2,d3],by simp [a,b,d,d2,d3],h0⟩
        · exact ⟨(0,false),by simp [c1,c2,d,d2,d3],by simp [a,b,d,d2,d3],h0⟩
        · exact ⟨(0,false),by simp [c1,c2,d,d2,d3],by simp [a,b,d,d2,d3],h0⟩
        · exact ⟨(1,true),by simp [c1,c2,d,d2,d3],by simp [a,b,d,d2,d3],h1⟩
    · have c2:14<o:=by omega
      exact ⟨(0,false),by simp [c2],by simp [b],h0⟩
  · have c1:o<1:=by omega
    exact ⟨(0,false),by simp [c1],by simp [a],h0⟩
theorem bNo (o p:Int):∃ r,aHx o p=some r∧aKf o p=some r∧okT r.1:=by
  have h0:okT 0:=⟨by omega,by omega⟩
  have h3:okT 3:=⟨by omega,by omega⟩
  have h1:okT 1:=⟨by omega,by omega⟩
  obtain ⟨t1,e1⟩:=aJv p
  unfold aHx aKf uV
  simp only [aMb,e1,bD2,bE9,QB,QA]
  by_cases a:o=15
  · subst a
    cases t1
    · exact ⟨(0,false),by simp,by simp,h0⟩
    · exact ⟨(3,true),by simp,by simp,h3⟩
  by_cases b:o=16
  · subst b
    generalize (decide (p=0)||decide (p=1))=b1
    cases b1
    · exact ⟨(0,false),by simp,by simp,h0⟩
    · exact ⟨(1,true),by simp,by simp,h1⟩
  · exact ⟨(0,false),by simp [a,b],by simp [a,b],h0⟩
theorem bU9 (l:List Int) (hl:l.length≤1048576) (h:∀ p ∈ l,okT p):∃ r,aK9 l=some r∧aB2 l=some r.2:=by
  have key:∀ i,i≤l.length→∀ x,okT x→∃ r,aBf l x (i:Nat)=some r∧Q4 l x (i:Nat)=some r.2:=by
    refine eO ?_ ?_
    · intro x hx
      rw [aBf,Q4]
      exact ⟨(x,true),by simp,by simp⟩
    · intro i hi ih x hx
      rw [aBf,Q4]
      obtain ⟨m,m1,m2⟩:=bLm hx (h _ (QM hi))
      simp only [dD,hi,decide_true,if_true,bX hi,dX hi (by omega),bFu,m1,QB,QA]
      cases hm:m.2
      · exact ⟨(0,false),by simp,by simp⟩
      · simpa using ih m.1 m2
  unfold aK9 aB2
  exact key 0 (by omega) 0 ⟨by omega,by omega⟩
theorem bVd {v:bH} (h:M3 v=some true):okT v.kind:=by
  unfold M3 at h
  have hv:aA7 v=some true:=by
    obtain ⟨_,b,e2⟩:=bG9 v
    rw [e2] at h ⊢
    cases b with
    | true=>rfl
    | false=>simp at h
  unfold aA7 at hv
  unfold okT
  by_cases k0:v.kind=0
  · omega
  by_cases k1:v.kind=1
  · omega
  by_cases k2:v.kind=2
  · omega
  by_cases k3:v.kind=3
  · omega
  simp [k0,k1,k2,k3] at hv
def aRd (p:aA):Prop:=(p.kind=1∧p.kids.length=0∧p.sub.length=0∧okT p.value.kind)∨(p.kind=2∧p.kids.length=0∧p.sub.length=0)∨(p.kind=3∧p.kids.length=1∧p.sub.length=0)∨(p.kind=4∧p.kids.length=2∧p.sub.length=0) ∨
  (p.kind=5∧p.kids.length=1∧p.sub.length=0)∨(p.kind=6∧p.kids.length=3∧p.sub.length=0)∨(p.kind=7∧(2≤p.kids.length∧p.kids.length≤9)∧p.sub.length=0)∨(p.kind=8∧p.kids.length=1∧p.sub.length=1)∨(p.kind=9∧p.kids.length=0∧p.sub.length=1)
theorem aSp {β:Type} {b:Bool} {m:Option Bool} {K:Bool→Option β}:((if (true&&(b==true))=true then m else some (default:Bool)).bind fun y=>(some (if b=true then y else false)).bind K)=((if b=true then m else some false).bind K):=by cases b <;> cases m <;> rfl
theorem aXb (b c:Bool):(if b=true then some c else some false)=some (b&&c):=by cases b <;> rfl
theorem bPw {β:Type} {b n u:Bool} {K:Bool→Option β}:((if ((true&&(b==true))&&(n==false))=true then some u else some (default:Bool)).bind fun y8=>(if (true&&(b==true))=true then some (if n=true then true else y8) else some (default:Bool)).bind fun y9=>(some (if b=true then y9 else false)).bind K)=K (b&&(n||u)):=by cases b <;> cases n <;> rfl
theorem or3 {β:Type} {b n u:Bool} {K:Bool→Option β}:((if ((true&&(b==true))&&(n==false))=true then some u else some (default:Bool)).bind fun y8=>K (b&&(n||y8)))=K (b&&(n||u)):=by cases b <;> cases n <;> rfl
theorem bV8 (p:aA) (f:mJ) (ok:Bool) (h:D5 (aL.mk p.kind p.op false p.value [] [120] [] [])=some (f,ok)):aGl p=some (ok&&(f.op||decide (p.op=0))&&(f.not_||!p.not_)&&(f.value||((decide (p.value.kind=0))&&((decide (p.value.num=0))&&((decide (p.value.text=[]))&&true))))&&(f.name||(decide (p.up=0)&&decide (p.at_=0)))&&decide (f.least≤(p.kids.length:Int))&&decide ((p.kids.length:Int)≤f.most)&&decide ((p.sub.length:Int)=f.subs)):=by
  rw [aGl,h]
  simp only [QB]
  rw [show ∀ K:mJ×Bool→Option Bool,(some (f,ok)).bind K=K (f,ok) from fun _=>rfl]
  simp only [aSp,bPw]
  simp only [aXb,QA,aGq,orB]
  exact or3 (K:=fun z=>some (z&&decide (f.least≤(p.kids.length:Int))&&decide ((p.kids.length:Int)≤f.most)&&decide ((p.sub.length:Int)=f.subs)))
theorem aQo (p:aA) (hk:p.kids.length≤1048576) (hs:p.sub.length≤1048576):∃ b,xY p=some b∧aGl p=some b∧(b=true→aRd p):=by
  obtain ⟨bl,l1,l2⟩:=aMx p.value
  have hlk:bl=true→okT p.value.kind:=fun h=>bVd (by rw [l1,h])
  have e1:mkG 136 (p.kids.length:Int) (aL.mk 0 0 false (bH.mk 0 0 []) [] [] [] [])=some (WK p.kids.length (aL.mk 0 0 false (bH.mk 0 0 []) [] [] [] [])):=aP0 (by omega)
  have e2:mkG 112 (p.sub.length:Int) (aV.mk false [] [] [] [] 0)=some (WK p.sub.length (aV.mk false [] [] [] [] 0)):=aP0 (by omega)
  have hw:QC .i64 ((p.kids.length:Int)+(p.sub.length:Int))=(p.kids.length:Int)+(p.sub.length:Int):=eX (by omega) (by omega)
  have hF:=bGv (aL.mk p.kind p.op false p.value [] [120] [] []) bl true l2 rfl
  obtain ⟨⟨f,ok⟩,hfo⟩:∃ r,D5 (aL.mk p.kind p.op false p.value [] [120] [] [])=some r:=⟨_,hF⟩
  rw [bV8 p f ok hfo]
  rw [hfo] at hF
  have n97:lX [97]=some true:=rfl
  have m0:lZ []=some true:=rfl
  have hS:xY p=if (!decide (p.kind=2)&&(!decide (p.up=0)||!decide (p.at_=0)))=true then some false else (if decide (p.kind=2)=true then qH (aL.mk p.kind p.op p.not_ p.value [] [97] (WK p.kids.length (aL.mk 0 0 false (bH.mk 0 0 []) [] [] [] [])) (WK p.sub.length (aV.mk false [] [] [] [] 0))) else qH (aL.mk p.kind p.op p.not_ p.value [] [] (WK p.kids.length (aL.mk 0 0 false (bH.mk 0 0 []) [] [] [] [])) (WK p.sub.length (aV.mk false [] [] [] [] 0)))):=by
    unfold xY aFy
    simp only [QB]
    simp only [aSp]
    simp only [e1,e2,aXb,QA,Option.bind_fun_some,aGq,orB]
  rw [hS]
  unfold aRd
  simp only [bRv,zvE,List.length_replicate,hw,l1,n97,m0]
  obtain ⟨k,o,no,v,up,at_,ks,sb⟩:=p
  dsimp only at hk hs hF hlk ⊢
  generalize ((decide (v.kind=0))&&((decide (v.num=0))&&((decide (v.text=[]))&&true)))=zv
  have fin:∀ (a b:Bool) (P:Prop),a=b→(b=true→P)→∃ c,(some a:Option Bool)=some c∧(some b:Option Bool)=some c∧(c=true→P):=by
    rintro a b P rfl h; exact ⟨a,rfl,rfl,h⟩
  have hif:∀ (a b:Bool) (X:Bool),(if a=true then some false else if b=true then some false else some X)=some (!a&&(!b&&X)):=by intro a b X; cases a <;> cases b <;> rfl
  have hif1:∀ (a:Bool) (X:Bool),(if a=true then some false else some X)=some (!a&&X):=by intro a X; cases a <;> rfl
  clear hS hfo e1 e2 hw l1 l2 n97 m0
  have eN:∀ n:Int,(decide (n≤(ks.length:Int))&&decide ((ks.length:Int)≤n))=decide ((ks.length:Int)=n):=fun n=>by rw [QW]; simp only [QP,decide_eq_true_eq]; omega
  have e0:decide ((ks.length:Int)+(sb.length:Int)=0)=(decide ((ks.length:Int)=0)&&decide ((sb.length:Int)=0)):=by rw [QW]; simp only [QP,decide_eq_true_eq]; omega
  by_cases k1:k=1
  · subst k1
    simp only [Int.reduceEq,if_true,if_false,QJ,Prod.mk.injEq] at hF
    obtain ⟨rfl,rfl⟩:=hF
    simp only [Int.reduceEq,Int.reduceLE,if_true,if_false,decide_true,decide_false,QE,QF,QG,QI,QH,QK,QL,QO,QQ,QR,QD,QB,QA,hif,hif1]
    refine fin _ _ _ ?_ fun h=>?_
    · simp only [e0,QS]
      try simp only [← QS (decide (_≤(ks.length:Int))),eN]
      generalize decide ((ks.length:Int)=0)=c0
      generalize decide ((sb.length:Int)=0)=d0
      generalize decide (up=0)=u0
      generalize decide (at_=0)=a0
      generalize decide (o=0)=o0
      cases ok <;> cases no <;> cases u0 <;> cases a0 <;> cases o0 <;> cases c0 <;> cases d0 <;> rfl
    · simp only [QP,decide_eq_true_eq] at h
      exact .inl ⟨trivial,by omega,by omega,hlk h.1.1.1.1.1.1⟩
  by_cases k2:k=2
  · subst k2
    simp only [Int.reduceEq,if_true,if_false,QJ,Prod.mk.injEq] at hF
    obtain ⟨rfl,rfl⟩:=hF
    simp only [Int.reduceEq,Int.reduceLE,if_true,if_false,decide_true,decide_false,QE,QF,QG,QI,QH,QK,QL,QO,QQ,QR,QD,QB,QA,hif,hif1]
    refine fin _ _ _ ?_ fun h=>?_
    · simp only [e0,QS]
      try simp only [← QS (decide (_≤(ks.length:Int))),eN]
      generalize decide ((ks.length:Int)=0)=c0
      generalize decide ((sb.length:Int)=0)=d0
      generalize decide (o=0)=o0
      cases no <;> cases zv <;> cases o0 <;> cases c0 <;> cases d0 <;> rfl
    · simp only [QP,decide_eq_true_eq] at h
      simp only [Int.reduceEq,false_and,false_or,true_and,or_false]
      omega
  by_cases k3:k=3
  · subst k3
    simp only [Int.reduceEq,if_true,if_false,QJ,Prod.mk.injEq] at hF
    obtain ⟨rfl,rfl⟩:=hF
    simp only [Int.reduceEq,Int.reduceLE,if_true,if_false,decide_true,decide_false,QE,QF,QG,QI,QH,QK,QL,QO,QQ,QR,QD,QB,QA,hif,hif1]
    refine fin _ _ _ ?_ fun h=>?_
    · simp only [e0,QS]
      try simp only [← QS (decide (_≤(ks.length:Int))),eN]
      generalize decide ((ks.length:Int)=1)=c1
      generalize decide ((sb.length:Int)=0)=d0
      generalize decide (up=0)=u0
      generalize decide (at_=0)=a0
      generalize decide (o=15)=o5
      generalize decide (o=16)=o6
      cases no <;> cases zv <;> cases u0 <;> cases a0 <;> cases o5 <;> cases o6 <;> cases c1 <;> cases d0 <;> rfl
    · simp only [QP,decide_eq_true_eq] at h
      simp only [Int.reduceEq,false_and,false_or,true_and,or_false]
      omega
  by_cases k4:k=4
  · subst k4
    simp only [Int.reduceEq,if_true,if_false,QJ,Prod.mk.injEq] at hF
    obtain ⟨rfl,rfl⟩:=hF
    simp only [Int.reduceEq,Int.reduceLE,if_true,if_false,decide_true,decide_false,QE,QF,QG,QI,QH,QK,QL,QO,QQ,QR,QD,QB,QA,hif,hif1]
    refine fin _ _ _ ?_ fun h=>?_
    · simp only [e0,QS]
      try simp only [← QS (decide (_≤(ks.length:Int))),eN]
      generalize decide ((ks.length:Int)=2)=c2
      generalize decide ((sb.length:Int)=0)=d0
      generalize decide (up=0)=u0
      generalize decide (at_=0)=a0
      generalize decide (1≤o)=o7
      generalize decide (o≤14)=o8
      cases no <;> cases zv <;> cases u0 <;> cases a0 <;> cases o7 <;> cases o8 <;> cases c2 <;> cases d0 <;> rfl
    · simp only [QP,decide_eq_true_eq] at h
      simp only [Int.reduceEq,false_and,false_or,true_and,or_false]
      omega
  by_cases k5:k=5
  · subst k5
    simp only [Int.reduceEq,if_true,if_false,QJ,Prod.mk.injEq] at hF
    obtain ⟨rfl,rfl⟩:=hF
    simp only [Int.reduceEq,Int.reduceLE,if_true,if_false,decide_true,decide_false,QE,QF,QG,QI,QH,QK,QL,QO,QQ,QR,QD,QB,QA,hif,hif1]
    refine fin _ _ _ ?_ fun h=>?_
    · simp only [e0,QS]
      try simp only [← QS (decide (_≤(ks.length:Int))),eN]
      generalize decide ((ks.length:Int)=1)=c1
      generalize decide ((sb.length:Int)=0)=d0
      generalize decide (up=0)=u0
      generalize decide (at_=0)=a0
      generalize decide (o=0)=o0
      cases zv <;> cases u0 <;> cases a0 <;> cases o0 <;> cases c1 <;> cases d0 <;> rfl
    · simp only [QP,decide_eq_true_eq] at h
      simp only [Int.reduceEq,false_and,false_or,true_and,or_false]
      omega
  by_cases k6:k=6
  · subst k6
    simp only [Int.reduceEq,if_true,if_false,QJ,Prod.mk.injEq] at hF
    obtain ⟨rfl,rfl⟩:=hF
    simp only [Int.reduceEq,Int.reduceLE,if_true,if_false,decide_true,decide_false,QE,QF,QG,QI,QH,QK,QL,QO,QQ,QR,QD,QB,QA,hif,hif1]
    refine fin _ _ _ ?_ fun h=>?_
    · simp only [e0,QS]
      try simp only [← QS (decide (_≤(ks.length:Int))),eN]
      generalize decide ((ks.length:Int)=3)=c3
      generalize decide ((sb.length:Int)=0)=d0
      generalize decide (up=0)=u0
      generalize decide (at_=0)=a0
      generalize decide (o=0)=o0
      cases zv <;> cases u0 <;> cases a0 <;> cases o0 <;> cases c3 <;> cases d0 <;> rfl
    · simp only [QP,decide_eq_true_eq] at h
      simp only [Int.reduceEq,false_and,false_or,true_and,or_false]
      omega
  by_cases k7:k=7
  · subst k7
    simp only [Int.reduceEq,if_true,if_false,QJ,Prod.mk.injEq] at hF
    obtain ⟨rfl,rfl⟩:=hF
    simp only [Int.reduceEq,Int.reduceLE,if_true,if_false,decide_true,decide_false,QE,QF,QG,QI,QH,QK,QL,QO,QQ,QR,QD,QB,QA,hif,hif1]
    refine fin _ _ _ ?_ fun h=>?_
    · simp only [e0,QS]
      try simp only [← QS (decide (_≤(ks.length:Int))),eN]
      generalize decide (2≤(ks.length:Int))=c4
      generalize decide ((ks.length:Int)≤9)=c5
      generalize decide ((sb.length:Int)=0)=d0
      generalize decide (up=0)=u0
      generalize decide (at_=0)=a0
      generalize decide (o=0)=o0
      cases zv <;> cases u0 <;> cases a0 <;> cases o0 <;> cases c4 <;> cases c5 <;> cases d0 <;> rfl
    · simp only [QP,decide_eq_true_eq] at h
      simp only [Int.reduceEq,false_and,false_or,true_and,or_false]
      omega
  by_cases k8:k=8
  · subst k8
    simp only [Int.reduceEq,if_true,if_false,QJ,Prod.mk.injEq] at hF
    obtain ⟨rfl,rfl⟩:=hF
    simp only [Int.reduceEq,Int.reduceLE,if_true,if_false,decide_true,decide_false,QE,QF,QG,QI,QH,QK,QL,QO,QQ,QR,QD,QB,QA,hif,hif1]
    refine fin _ _ _ ?_ fun h=>?_
    · simp only [e0,QS]
      try simp only [← QS (decide (_≤(ks.length:Int))),eN]
      generalize decide ((ks.length:Int)=1)=c1
      generalize decide ((sb.length:Int)=1)=d1
      generalize decide (up=0)=u0
      generalize decide (at_=0)=a0
      generalize decide (o=0)=o0
      cases zv <;> cases u0 <;> cases a0 <;> cases o0 <;> cases c1 <;> cases d1 <;> rfl
    · simp only [QP,decide_eq_true_eq] at h
      simp only [Int.reduceEq,false_and,false_or,true_and,or_false]
      omega
  by_cases k9:k=9
  · subst k9
    simp only [Int.reduceEq,if_true,if_false,QJ,Prod.mk.injEq] at hF
    obtain ⟨rfl,rfl⟩:=hF
    simp only [Int.reduceEq,Int.reduceLE,if_true,if_false,decide_true,decide_false,QE,QF,QG,QI,QH,QK,QL,QO,QQ,QR,QD,QB,QA,hif,hif1]
    refine fin _ _ _ ?_ fun h=>?_
    · simp only [e0,QS]
      try simp only [← QS (decide (_≤(ks.length:Int))),eN]
      generalize decide ((ks.length:Int)=0)=c0
      generalize decide ((sb.length:Int)=1)=d1
      generalize decide (up=0)=u0
      generalize decide (at_=0)=a0
      generalize decide (o=0)=o0
      cases no <;> cases zv <;> cases u0 <;> cases a0 <;> cases o0 <;> cases c0 <;> cases d1 <;> rfl
    · simp only [QP,decide_eq_true_eq] at h
      simp only [Int.reduceEq,false_and,false_or,true_and,or_false]
      omega
  simp only [k1,k2,k3,k4,k5,k6,k7,k8,k9,if_false,QJ,Prod.mk.injEq] at hF
  obtain ⟨rfl,rfl⟩:=hF
  simp only [k1,k2,k3,k4,k5,k6,k7,k8,k9,Int.reduceEq,Int.reduceLE,if_true,if_false,decide_true,decide_false,QE,QF,QG,QI,QH,QK,QL,QO,QQ,QR,QD,QB,QA,hif,hif1]
  refine ⟨false,?_,rfl,by simp⟩
  repeat' split
  all_goals first | rfl | simp
theorem aZz {n : Nat} {L : Int → Option Bool} {good : Nat → Prop} {KP : Prop}
    (hstep:∀ i,i<n→(good i→L (i:Nat)=L ((i+1:Nat):Int))∧(¬ good i→L (i:Nat)=some false))
    (hend:∃ b,L (n:Nat)=some b∧(b=true↔KP)):∃ b,L 0=some b∧(b=true↔(∀ i,i<n→good i)∧KP):=by
  have key:∀ i,i≤n→∃ b,L (i:Nat)=some b∧(b=true↔(∀ k,i≤k→k<n→good k)∧KP):=by
    refine eO ?_ ?_
    · obtain ⟨b,h1,h2⟩:=hend
      exact ⟨b,h1,h2.trans ⟨fun h=>⟨fun k h1 h2=>by omega,h⟩,fun h=>h.2⟩⟩
    · intro i hi ih
      obtain ⟨b,h1,h2⟩:=ih
      obtain ⟨s1,s2⟩:=hstep i hi
      by_cases hg:good i
      · refine ⟨b,(s1 hg).trans h1,h2.trans ⟨fun h=>⟨fun k k1 k2=>?_,h.2⟩,fun h=>⟨fun k k1 k2=>h.1 k (by omega) k2,h.2⟩⟩⟩
        by_cases e:k=i
        · subst e; exact hg
        · exact h.1 k (by omega) k2
      · refine ⟨false,s2 hg,?_⟩
        simp only [QD,false_iff,not_and]
        intro h
        exact absurd (h i (by omega) hi) hg
  obtain ⟨b,h1,h2⟩:=key 0 (by omega)
  exact ⟨b,h1,h2.trans ⟨fun h=>⟨fun k hk=>h.1 k (by omega) hk,h.2⟩,fun h=>⟨fun k _ hk=>h.1 k hk,h.2⟩⟩⟩
theorem bL1 {γ : Type} {n : Nat} {L M : Int → Option γ} (hstep : ∀ i, i < n → L ((i + 1 : Nat) : Int) = M ((i + 1 : Nat) : Int) → (∃ r, L ((i + 1 : Nat) : Int) = some r) → L (i : Nat) = M (i : Nat) ∧ ∃ r, L (i : Nat) = some r)
    (hend:L (n:Nat)=M (n:Nat)∧∃ r,L (n:Nat)=some r):L 0=M 0∧∃ r,L 0=some r:=by
  have key:∀ i,i≤n→L (i:Nat)=M (i:Nat)∧∃ r,L (i:Nat)=some r :=
    eO hend fun i hi ih=>hstep i hi ih.1 ih.2
  exact key 0 (by omega)
theorem aRu (s:List UInt8):rA s=lX s∧∃ b,lX s=some b∧(b=true↔1≤s.length∧s.length≤20):=by
  unfold rA lX iX
  simp only [QB,QA]
  refine ⟨by simp,_,rfl,?_⟩
  by_cases h1:(1:Int)≤(s.length:Int)
  · simp [h1]; omega
  · simp [h1]; omega
theorem aOh (t:bI) (s:List UInt8) (hl:t.cols.length≤1048576):aJu t s=wC t s∧∃ r,wC t s=some r:=by
  have:=bL1 (n:=t.cols.length) (L:=fun i=>aBu t.cols s i) (M:=fun i=>xA s t i) ?_ ?_
  · unfold aJu aQ7 wC
    obtain ⟨h1,r,h2⟩:=this
    try simp only at h1 h2
    rw [← h1,h2]
    exact ⟨rfl,r,rfl⟩
  · intro i hi h1 h2
    try dsimp only at h1 h2 ⊢
    rw [aBu,xA]
    simp only [dD,bX hi,dX hi (by omega),hi,decide_true,if_true,aNh,QB,QA]
    by_cases hc:t.cols[i].name=s
    · simp [hc]
    · simp only [hc,decide_false,QD,if_false]
      exact ⟨h1,h2⟩
  · try dsimp only
    rw [aBu,xA]
    simp
theorem bBv (c:aP) (s:List UInt8) (hl:c.tables.length≤1048576):M8 c s=sN c s∧∃ r,sN c s=some r:=by
  have:=bL1 (n:=c.tables.length) (L:=fun i=>aAe c.tables s i) (M:=fun i=>xD s c i) ?_ ?_
  · unfold M8 aPv sN
    obtain ⟨h1,r,h2⟩:=this
    try simp only at h1 h2
    rw [← h1,h2]
    exact ⟨rfl,r,rfl⟩
  · intro i hi h1 h2
    try dsimp only at h1 h2 ⊢
    rw [aAe,xD]
    simp only [dD,bX hi,dX hi (by omega),hi,decide_true,if_true,aQr,QB,QA]
    by_cases hc:c.tables[i].name=s
    · simp [hc]
    · simp only [hc,decide_false,QD,if_false]
      exact ⟨h1,h2⟩
  · try dsimp only
    rw [aAe,xD]
    simp
def wN (t:bI) (j:Nat):Prop:=∃ c,t.cols[j]?=some c∧(1≤c.name.length∧c.name.length≤20)∧(1≤c.type∧c.type≤3)∧wC t c.name=some (j:Int)
def wJ (t:bI):Prop:=(∀ j,j<t.cols.length→wN t j)∧((1≤t.name.length∧t.name.length≤20)∧1≤t.cols.length∧t.cols.length≤4)
theorem bOd (t:bI) (hl:t.cols.length≤1048576):∃ b,aJs t=some b∧(b=true↔wJ t):=by
  unfold aJs wJ
  refine aZz (n:=t.cols.length) (L:=fun i=>Z7 t i) (good:=wN t) ?_ ?_
  · intro i hi
    try dsimp only
    rw [Z7]
    obtain ⟨n1,b,n2,n3⟩:=aRu t.cols[i].name
    obtain ⟨c1,k,c2⟩:=aOh t t.cols[i].name hl
    simp only [dD,bX hi,dX hi (by omega),hi,decide_true,if_true,n1,n2,c1,c2,QB,QA]
    have hP:wN t i↔(1≤t.cols[i].name.length∧t.cols[i].name.length≤20)∧(1≤t.cols[i].type∧t.cols[i].type≤3)∧k=(i:Int):=by
      unfold wN
      constructor
      · rintro ⟨c,h1,h2,h3,h4⟩
        rw [WC hi] at h1
        simp only [QJ] at h1; subst h1
        rw [c2] at h4
        exact ⟨h2,h3,by simpa using h4⟩
      · rintro ⟨h2,h3,h4⟩
        exact ⟨_,WC hi,h2,h3,by rw [c2,h4]⟩
    rw [hP,← n3]
    cases b with
    | false=>simp
    | true =>
      by_cases t1:t.cols[i].type<1
      · simp [t1] <;> omega
      by_cases t3:3<t.cols[i].type
      · simp [t1,t3] <;> omega
      by_cases hk:k=(i:Int)
      · simp [t1,t3,hk] <;> omega
      · simp [t1,t3,hk]
  · try dsimp only
    rw [Z7]
    obtain ⟨n1,b,n2,n3⟩:=aRu t.name
    simp only [dD,WR,decide_false,QD,if_false,n1,n2,QB,QA]
    refine ⟨_,rfl,?_⟩
    rw [← n3]
    cases b with
    | false=>simp
    | true =>
      by_cases l1:(1:Int)≤(t.cols.length:Int)
      · simp [l1] <;> omega
      · simp [l1] <;> omega
def nH (c:aP):Prop:=(∀ i,i<c.tables.length→∃ t,c.tables[i]?=some t∧wJ t∧sN c t.name=some (i:Int))∧c.tables.length≤4
def aBe (c:aP):Prop:=c.tables.length≤1048576∧∀ t ∈ c.tables,t.cols.length≤1048576
theorem bEz (c:aP) (hs:aBe c):∃ b,aE4 c=some b∧(b=true↔nH c):=by
  unfold aE4 nH
  refine aZz (n:=c.tables.length) (L:=fun i=>aBx c i) (good:=fun i=>∃ t,c.tables[i]?=some t∧wJ t∧sN c t.name=some (i:Int)) ?_ ?_
  · intro i hi
    try dsimp only
    rw [aBx]
    obtain ⟨b,n2,n3⟩:=bOd c.tables[i] (hs.2 _ (QM hi))
    obtain ⟨c1,k,c2⟩:=bBv c c.tables[i].name hs.1
    have:=hs.1
    simp only [dD,bX hi,dX hi (by omega),hi,decide_true,if_true,n2,c1,c2,QB,QA]
    have hP:(∃ t,c.tables[i]?=some t∧wJ t∧sN c t.name=some (i:Int))↔wJ c.tables[i]∧k=(i:Int):=by
      constructor
      · rintro ⟨t,h1,h2,h3⟩
        rw [WC hi] at h1
        simp only [QJ] at h1; subst h1
        rw [c2] at h3
        exact ⟨h2,by simpa using h3⟩
      · rintro ⟨h2,h3⟩
        exact ⟨_,WC hi,h2,by rw [c2,h3]⟩
    rw [hP,← n3]
    cases b with
    | false=>simp
    | true =>
      by_cases hk:k=(i:Int)
      · simp [hk]
      · simp [hk]
  · try dsimp only
    rw [aBx]
    refine ⟨decide ((c.tables.length:Int)≤4),by simp,?_⟩
    simp only [decide_eq_true_eq]; omega
theorem bUb (c:aP) (hs:aBe c):∃ b,aJj c=some b∧(b=true↔nH c):=by
  unfold aJj
  by_cases h4:(4:Int)<(c.tables.length:Int)
  · rw [if_pos (by simpa using h4)]
    refine ⟨false,rfl,?_⟩
    unfold nH
    simp only [QD,false_iff,not_and]
    intro _; omega
  rw [if_neg (by simpa using h4)]
  have:=aZz (n:=c.tables.length) (L:=fun i=>aBg c i) (good:=fun i=>∃ t,c.tables[i]?=some t∧wJ t∧sN c t.name=some (i:Int)) (KP:=True) ?_ ?_
  · obtain ⟨b,h1,h2⟩:=this
    exact ⟨b,h1,h2.trans ⟨fun h=>⟨h.1,by omega⟩,fun h=>⟨h.1,trivial⟩⟩⟩
  · intro i hi
    try dsimp only
    rw [aBg]
    obtain ⟨n1,b,n2,n3⟩:=aRu c.tables[i].name
    obtain ⟨c1,k,c2⟩:=bBv c c.tables[i].name hs.1
    have:=hs.1
    have hcl:=hs.2 _ (QM hi)
    have inner:∀ (j:Nat),j≤c.tables[i].cols.length→((∀ m,j≤m→m<c.tables[i].cols.length→wN c.tables[i] m)→I1 (i:Int) c c.tables[i] (j:Nat)=aBg c ((i+1:Nat):Int))∧(¬ (∀ m,j≤m→m<c.tables[i].cols.length→wN c.tables[i] m)→I1 (i:Int) c c.tables[i] (j:Nat)=some false):=by
      refine eO ?_ ?_
      · rw [I1]
        simp only [dD,WR,decide_false,QD,if_false,dX hi (by omega)]
        refine ⟨fun _=>trivial,fun h=>absurd (fun m h1 h2=>by omega) h⟩
      · intro j hj ih
        rw [I1]
        obtain ⟨_,b',m2,m3⟩:=aRu c.tables[i].cols[j].name
        obtain ⟨_,k',d2⟩:=aOh c.tables[i] c.tables[i].cols[j].name hcl
        simp only [dD,bX hj,dX hj (by omega),hj,decide_true,if_true,m2,d2,iX,QB,QA]
        have hP:wN c.tables[i] j↔b'=true∧(1≤c.tables[i].cols[j].type∧c.tables[i].cols[j].type≤3)∧k'=(j:Int):=by
          unfold wN
          constructor
          · rintro ⟨c',h1,h2,h3,h4⟩
            rw [WC hj] at h1
            simp only [QJ] at h1; subst h1
            rw [d2] at h4
            exact ⟨m3.2 h2,h3,by simpa using h4⟩
          · rintro ⟨h2,h3,h4⟩
            exact ⟨_,WC hj,m3.1 h2,h3,by rw [d2,h4]⟩
        have hall:(∀ m,j≤m→m<c.tables[i].cols.length→wN c.tables[i] m)↔wN c.tables[i] j∧∀ m,j+1≤m→m<c.tables[i].cols.length→wN c.tables[i] m:=by
          constructor
          · intro h; exact ⟨h j (by omega) hj,fun m h1 h2=>h m (by omega) h2⟩
          · rintro ⟨h1,h2⟩ m h3 h4
            by_cases e:m=j
            · subst e; exact h1
            · exact h2 m (by omega) h4
        rw [hall,hP]
        cases b' with
        | false=>simp
        | true =>
          by_cases hk:k'=(j:Int)
          · by_cases t1:1≤c.tables[i].cols[j].type
            · by_cases t3:c.tables[i].cols[j].type≤3
              · have t3':¬ 3<c.tables[i].cols[j].type:=by omega
                simpa [hk,t1,t3,t3',d2] using ih
              · simp [hk,t1,t3,d2]
            · simp [hk,t1,d2]
          · simp [hk,d2]
    obtain ⟨i1,i2⟩:=inner 0 (by omega)
    rw [show ((0:Nat):Int)=0 from rfl] at i1 i2
    simp only [dD,bX hi,dX hi (by omega),hi,decide_true,if_true,n2,c2,iX,QB,QA]
    have hP:(∃ t,c.tables[i]?=some t∧wJ t∧sN c t.name=some (i:Int))↔wJ c.tables[i]∧k=(i:Int):=by
      constructor
      · rintro ⟨t,h1,h2,h3⟩
        rw [WC hi] at h1
        simp only [QJ] at h1; subst h1
        rw [c2] at h3
        exact ⟨h2,by simpa using h3⟩
      · rintro ⟨h2,h3⟩
        exact ⟨_,WC hi,h2,by rw [c2,h3]⟩
    rw [hP]
    unfold wJ
    rw [← n3]
    cases b with
    | false=>simp
    | true =>
      by_cases hk:k=(i:Int)
      · by_cases l1:(1:Int)≤(c.tables[i].cols.length:Int)
        · by_cases l4:(c.tables[i].cols.length:Int)≤4
          · have l1':1≤c.tables[i].cols.length:=by omega
            have l4':c.tables[i].cols.length≤4:=by omega
            simp only [hk,l1,l4,l1',l4']
            simp only [Nat.zero_le,true_implies] at i1 i2
            simpa using And.intro i1 (fun (x:Nat) (hx:x<c.tables[i].cols.length) (hn:¬ wN c.tables[i] x)=>i2 fun h=>hn (h x hx))
          · have l4':¬ c.tables[i].cols.length≤4:=by omega
            simp [hk,l1,l4,l4']
        · have l1':¬ 1≤c.tables[i].cols.length:=by omega
          simp [hk,l1,l1']
      · simp [hk]
  · try dsimp only
    rw [aBg]
    exact ⟨true,by simp,by simp⟩
def rQ (t:bI):List Int:=t.cols.map dL.type
theorem bYq (t:bI) (hl:t.cols.length≤1048576):aL2 t=some (rQ t)∧aKe t=some (rQ t):=by
  have key:∀ i,i≤t.cols.length→∀ l:List Int,l.length≤i→X3 t l (i:Nat)=some (l++(t.cols.drop i).map dL.type)∧aBa t l (i:Nat)=some (l++(t.cols.drop i).map dL.type):=by
    refine eO ?_ ?_
    · intro l _
      rw [X3,aBa]; simp
    · intro i hi ih l hl2
      rw [X3,aBa]
      have ea:appG 8 l [t.cols[i].type]=some (l++[t.cols[i].type]):=by unfold appG; rw [if_pos (by simp; omega)]
      simp only [dD,bX hi,dX hi (by omega),hi,decide_true,if_true,ea,QB,QA]
      have:=ih (l++[t.cols[i].type]) (by simp; omega)
      rw [QX hi,QY]
      simpa using this
  unfold aL2 aKe rQ
  have:=key 0 (by omega) [] (by simp)
  simpa using this
def gN (c:aP):List Int→List Int→List Int×Bool
  | acc,[]=>(acc,true)
  | acc,i::l=>if 0≤i∧i<(c.tables.length:Int) then gN c (acc++rQ (c.tables[i.toNat]?.getD default)) l else ([],false)
def qJ (c:aP):Prop:=c.tables.length≤4∧∀ t ∈ c.tables,t.cols.length≤4∧∀ x ∈ rQ t,okT x
theorem T9 (c:aP) (hc:qJ c) (l:List Int) (hl:l.length≤1048576):aGj c l=some (gN c [] l)∧N8 c l=some (gN c [] l):=by
  have key:∀ i,i≤l.length→∀ acc:List Int,acc.length≤4 * i→Y7 l c acc (i:Nat)=some (gN c acc (l.drop i))∧aA3 l c acc (i:Nat)=some (gN c acc (l.drop i)):=by
    refine eO ?_ ?_
    · intro acc _
      rw [Y7,aA3]; simp [gN]
    · intro i hi ih acc ha
      rw [Y7,aA3,QX hi,gN]
      have hw:QC .i64 ((c.tables.length:Int) - 1)=(c.tables.length:Int) - 1:=by have:=hc.1; exact eX (by omega) (by omega)
      unfold iX
      simp only [dD,bX hi,dX hi (by omega),hi,decide_true,if_true,hw,QB,QA]
      by_cases h0:0≤l[i]
      · by_cases h1:l[i]<(c.tables.length:Int)
        · have n0:¬ l[i]<0:=by omega
          have n1:¬ (c.tables.length:Int)≤l[i]:=by omega
          have n2:l[i]≤(c.tables.length:Int) - 1:=by omega
          have hj:l[i].toNat<c.tables.length:=by omega
          have hx:idx c.tables l[i]=some c.tables[l[i].toNat]:=by
            have:=bX hj
            rwa [show ((l[i].toNat:Nat):Int)=l[i] by omega] at this
          obtain ⟨t1,t2⟩:=hc.2 _ (QM hj)
          obtain ⟨e1,e2⟩:=bYq c.tables[l[i].toNat] (by omega)
          have tl:(rQ c.tables[l[i].toNat]).length≤4:=by unfold rQ; simpa using t1
          have ea:appG 8 acc (rQ c.tables[l[i].toNat])=some (acc++rQ c.tables[l[i].toNat]):=by unfold appG; rw [if_pos (by omega)]
          have hg:c.tables[l[i].toNat]?.getD default=c.tables[l[i].toNat]:=by simp [hj]
          have hp:0≤l[i]∧l[i]<(c.tables.length:Int):=⟨h0,h1⟩
          rw [if_pos hp,hg]
          simp only [h0,n0,n1,n2,hx,e1,e2,ea,decide_true,decide_false,if_true,if_false,QD,QE,QA]
          exact ih _ (by rw [QN]; omega)
        · have n1:(c.tables.length:Int)≤l[i]:=by omega
          have n2:¬ l[i]≤(c.tables.length:Int) - 1:=by omega
          have hn:¬ (0≤l[i]∧l[i]<(c.tables.length:Int)):=by omega
          rw [if_neg hn]
          simp [h0,n1,n2]
      · have n0:l[i]<0:=by omega
        have hn:¬ (0≤l[i]∧l[i]<(c.tables.length:Int)):=by omega
        rw [if_neg hn]
        simp [h0,n0]
  unfold aGj N8
  have:=key 0 (by omega) [] (by simp)
  simpa using this
theorem aM8 (c:aP) (hc:qJ c):∀ (l acc:List Int),(∀ x ∈ acc,okT x)→(∀ x ∈ (gN c acc l).1,okT x)∧(gN c acc l).1.length≤acc.length+4 * l.length
  | [],acc,h=>⟨h,by simp [gN]⟩
  | i::l,acc,h=>by
    rw [gN]
    split
    · rename_i hi
      have hj:i.toNat<c.tables.length:=by omega
      have hg:c.tables[i.toNat]?.getD default=c.tables[i.toNat]:=by simp [hj]
      rw [hg]
      obtain ⟨t1,t2⟩:=hc.2 _ (QM hj)
      have tl:(rQ c.tables[i.toNat]).length≤4:=by unfold rQ; simpa using t1
      obtain ⟨a1,a2⟩:=aM8 c hc l (acc++rQ c.tables[i.toNat]) (fun x hx=>by
        rcases QZ.1 hx with hx | hx
        · exact h x hx
        · exact t2 x hx)
      exact ⟨a1,by rw [QN] at a2; simp only [QT]; omega⟩
    · exact ⟨by simp,by simp⟩
theorem bH0 (c:aP):∀ (l acc:List Int),(gN c acc l).2=true↔∀ i ∈ l,0≤i∧i<(c.tables.length:Int)
  | [],acc=>by simp [gN]
  | i::l,acc=>by
    rw [gN]
    split
    · rename_i hi
      rw [bH0 c l]
      simp [hi]
    · rename_i hi
      simp only [QD,false_iff]
      intro h
      exact hi (h i (by simp))
def yC (p:aQ):Bool:=(decide (1≤p.tables.length)&&decide (p.tables.length≤3))&&decide (p.on_.length=p.tables.length)&&decide ((p.on_[0]?.getD []).length=0)&&decide (p.where_.length≤1)&&decide (p.order.length≤12)&&(decide (1≤p.items.length)&&decide (p.items.length≤12))&&decide (p.names.length=p.items.length)&&decide (-1≤p.limit)
def onB (p:aQ):Bool:=p.on_.all fun l=>decide (l.length≤1)
def nmB (s:List UInt8):Bool:=decide (1≤s.length)&&decide (s.length≤20)
theorem bW6 (s:List UInt8):rA s=some (nmB s):=by
  unfold rA nmB
  by_cases h:1≤s.length <;> by_cases h2:s.length≤20 <;> simp [h,h2] <;> omega
theorem aG4 (s:List UInt8):lX s=some (nmB s):=by
  unfold lX iX nmB
  by_cases h:1≤s.length <;> by_cases h2:s.length≤20 <;> simp [h,h2] <;> omega
theorem onI (l:List (List aA)) (hl:l.length≤1048576):aIo l=some (!l.all fun l=>decide (l.length≤1)):=by
  have key:∀ i,i≤l.length→∃ k:Int,aAm l (i:Nat)=some k∧decide (0≤k)=!(l.drop i).all fun l=>decide (l.length≤1):=by
    refine eO ?_ ?_
    · rw [aAm]
      exact ⟨-1,by simp,by simp⟩
    · intro i hi ih
      rw [aAm,QX hi]
      simp only [dD,bX hi,dX hi (by omega),hi,decide_true,if_true,aIa,QB,QA,WM]
      by_cases h:l[i].length≤1
      · have h1:¬ (1:Int)<(l[i].length:Int):=by omega
        simpa [h,h1] using ih
      · have h1:(1:Int)<(l[i].length:Int):=by omega
        exact ⟨(i:Int),by simp [h1],by simp [h]⟩
  obtain ⟨k,h1,h2⟩:=key 0 (by omega)
  rw [show ((0:Nat):Int)=0 from rfl] at h1
  rw [aIo,aLo,h1]
  simpa using h2
theorem nmI (l:List (List UInt8)) (hl:l.length≤1048576):aK6 l=some (!l.all nmB):=by
  have key:∀ i,i≤l.length→∃ k:Int,aBt l (i:Nat)=some k∧decide (0≤k)=!(l.drop i).all nmB:=by
    refine eO ?_ ?_
    · rw [aBt]
      exact ⟨-1,by simp,by simp⟩
    · intro i hi ih
      rw [aBt,QX hi]
      simp only [dD,bX hi,dX hi (by omega),hi,decide_true,if_true,aKk,bW6,QB,QA,WM]
      cases h:nmB l[i] with
      | true=>simpa using ih
      | false=>exact ⟨(i:Int),by simp,by simp⟩
  obtain ⟨k,h1,h2⟩:=key 0 (by omega)
  rw [show ((0:Nat):Int)=0 from rfl] at h1
  rw [aK6,aRe,h1]
  simpa using h2
theorem bZb (c:aP) (hc:qJ c) (p:aQ) (hn:p.names.length≤1048576) (ht:p.tables.length≤1048576):U8 c p 0=some (p.names.all nmB&&(gN c [] p.tables).2):=by
  have key:∀ i,i≤p.names.length→U8 c p (i:Nat)=some ((p.names.drop i).all nmB&&(gN c [] p.tables).2):=by
    refine eO ?_ ?_
    · rw [U8]; simp [(T9 c hc p.tables ht).2]
    · intro i hi ih
      rw [U8,QX hi,WM]
      simp only [dD,bX hi,dX hi (by omega),hi,decide_true,if_true,aG4,ih,QB,QA]
      cases nmB p.names[i] <;> simp
  simpa using key 0 (by omega)
theorem bSs (c:aP) (hc:qJ c) (p:aQ) (ho:p.on_.length≤1048576) (hn:p.names.length≤1048576) (ht:p.tables.length≤1048576):I7 c p 0=some (onB p&&(p.names.all nmB&&(gN c [] p.tables).2)):=by
  have key:∀ i,i≤p.on_.length→I7 c p (i:Nat)=some (((p.on_.drop i).all fun l=>decide (l.length≤1))&&(p.names.all nmB&&(gN c [] p.tables).2)):=by
    refine eO ?_ ?_
    · rw [I7]; simp [bZb c hc p hn ht]
    · intro i hi ih
      rw [I7,QX hi,WM]
      simp only [dD,bX hi,dX hi (by omega),hi,decide_true,if_true,ih,QB,QA]
      by_cases h:p.on_[i].length≤1
      · have h1:¬ (1:Int)<(p.on_[i].length:Int):=by omega
        simp [h,h1]
      · have h1:(1:Int)<(p.on_[i].length:Int):=by omega
        simp [h,h1]
  unfold onB
  simpa using key 0 (by omega)
theorem bHu (c : aP) (hc : qJ c) (p : aQ) (ho : p.on_.length ≤ 1048576) (hn : p.names.length ≤ 1048576) (ht : p.tables.length ≤ 1048576) :
    aJg c p=some (yC p&&(onB p&&(p.names.all nmB&&(gN c [] p.tables).2)))∧aIb p=some (yC p&&(onB p&&p.names.all nmB)):=by
  unfold aJg aIb iX yC
  simp only [bSs c hc p ho hn ht,onI p.on_ ho,nmI p.names hn,QB,QA]
  have hon:(!p.on_.all fun l=>decide (l.length≤1))=!onB p:=rfl
  rw [hon]
  generalize onB p=b1
  generalize p.names.all nmB=b2
  generalize (gN c [] p.tables).2=b3
  by_cases t1:1≤p.tables.length
  case neg =>
    have c1:¬ (1:Int)≤(p.tables.length:Int):=by omega
    have c2:(p.tables.length:Int)<1:=by omega
    simp only [t1,c1,c2,decide_true,decide_false,if_true,if_false,QE,QF,QD,QI,QA,beq_self_eq_true]
    simp
  by_cases t2:p.tables.length≤3
  case neg =>
    have c1:¬ (p.tables.length:Int)≤3:=by omega
    have c2:(3:Int)<(p.tables.length:Int):=by omega
    simp [t2,c1,c2]
  by_cases t3:p.on_.length=p.tables.length
  case neg =>
    have c1:¬ (p.on_.length:Int)=(p.tables.length:Int):=by omega
    simp [t3,c1]
  have a1:(1:Int)≤(p.tables.length:Int):=by omega
  have a2:(p.tables.length:Int)≤3:=by omega
  have a3:¬ (p.tables.length:Int)<1:=by omega
  have a4:¬ (3:Int)<(p.tables.length:Int):=by omega
  have a5:(p.on_.length:Int)=(p.tables.length:Int):=by omega
  have h0:0<p.on_.length:=by omega
  have hi:idx p.on_ 0=some p.on_[0]:=bX h0
  have hg:p.on_[0]?.getD []=p.on_[0]:=by simp [h0]
  rw [hg,hi]
  generalize p.on_[0]=l0
  have e0:decide ((0:Int)<(l0.length:Int))=!decide (l0.length=0):=by rw [QW]; simp only [WE,decide_eq_true_eq,decide_eq_false_iff_not]; omega
  have e1:decide ((1:Int)<(p.where_.length:Int))=!decide (p.where_.length≤1):=by rw [QW]; simp only [WE,decide_eq_true_eq,decide_eq_false_iff_not]; omega
  have e2:decide ((12:Int)<(p.order.length:Int))=!decide (p.order.length≤12):=by rw [QW]; simp only [WE,decide_eq_true_eq,decide_eq_false_iff_not]; omega
  have e3:decide ((1:Int)≤(p.items.length:Int))=decide (1≤p.items.length):=by rw [QW]; simp only [decide_eq_true_eq]; omega
  have e4:decide ((p.items.length:Int)≤12)=decide (p.items.length≤12):=by rw [QW]; simp only [decide_eq_true_eq]; omega
  have e5:decide ((p.names.length:Int)=(p.items.length:Int))=decide (p.names.length=p.items.length):=by rw [QW]; simp only [decide_eq_true_eq]; omega
  have e6:decide (p.limit < -1)=!decide (-1≤p.limit):=by rw [QW]; simp only [WE,decide_eq_true_eq,decide_eq_false_iff_not]; omega
  simp only [a1,a2,a3,a4,a5,t1,t2,t3,e0,e1,e2,e3,e4,e5,e6,decide_true,decide_false,if_true,if_false,QE,QF,QD,beq_self_eq_true,WN,QG,QA]
  generalize decide (l0.length=0)=x0
  generalize decide (p.where_.length≤1)=x1
  generalize decide (p.order.length≤12)=x2
  generalize decide (1≤p.items.length)=x3
  generalize decide (p.items.length≤12)=x4
  generalize decide (p.names.length=p.items.length)=x5
  generalize decide (-1≤p.limit)=x6
  cases x0 <;> cases x1 <;> cases x2 <;> cases x3 <;> cases x4 <;> cases x5 <;> cases x6 <;> cases b1 <;> cases b2 <;> exact ⟨rfl,rfl⟩
def TyE (c:aP) (env:List (List Int)) (e:aA):Prop:=∃ r:Int×Bool,rO c env e=some r∧aB1 c env e=some r∧okT r.1
def PlE (c:aP) (env:List (List Int)) (p:aQ):Prop:=∃ r:List Int×Bool,E8 c env p=some r∧aHs c env p=some r∧∀ x ∈ r.1,okT x
def mR (env:List (List Int)):Prop:=∀ row ∈ env,row.length≤4194304∧∀ x ∈ row,okT x
theorem okT0:okT 0:=⟨by omega,by omega⟩
theorem okT3:okT 3:=⟨by omega,by omega⟩
theorem bI9 (c:aP) (env:List (List Int)) (l:List aA) (hl:l.length≤1048576) (H:∀ e ∈ l,TyE c env e):∃ b,A8 c env l=some b∧aFe c env l=some b:=by
  have key:∀ i,i≤l.length→∃ (k:Int) (b:Bool),zJ l c env (i:Nat)=some k∧aEk env l c (i:Nat)=some b∧decide (0≤k)=!b:=by
    refine eO ?_ ?_
    · rw [zJ,aEk]
      exact ⟨-1,true,by simp,by simp,by simp⟩
    · intro i hi ih
      rw [zJ,aEk]
      obtain ⟨r,h1,h2,h3⟩:=H _ (QM hi)
      obtain ⟨t,e1⟩:=aJv r.1
      simp only [dD,hi,decide_true,if_true,bX hi,dX hi (by omega),aK2,h1,h2,aMb,e1,QB,QA]
      cases hr:r.2
      · exact ⟨(i:Int),false,by simp,by simp,by simp⟩
      · cases t
        · exact ⟨(i:Int),false,by simp,by simp,by simp⟩
        · simpa using ih
  obtain ⟨k,b,h1,h2,h3⟩:=key 0 (by omega)
  rw [show ((0:Nat):Int)=0 from rfl] at h1 h2
  rw [A8,aJy,aJo,h1,aFe,h2]
  exact ⟨b,by simp [h3],rfl⟩
theorem aB8 (row:List Int) (env:List (List Int)) (h:env.length≤4194304):aHd row env=some (row::env)∧aBs row env=some (row::env):=by
  have e:appG 24 ([row]:List (List Int)) env=some (row::env):=by unfold appG; rw [if_pos (by simp; omega)]; rfl
  unfold aHd aBs
  rw [e]; exact ⟨rfl,rfl⟩
theorem bQy (c : aP) (env : List (List Int)) (e : aA) (hk : e.kids.length ≤ 1048576) (H : ∀ k ∈ e.kids, TyE c env k) :
    (uG env e c [] 0=some (0,false)∧tN env c e [] 0=some (0,false))∨∃ acc:List Int,acc.length=e.kids.length∧(∀ x ∈ acc,okT x)∧uG env e c [] 0=rP env acc e c [] 0∧tN env c e [] 0=tN env c e acc (e.kids.length:Int):=by
  have key:∀ i,i≤e.kids.length→∀ acc:List Int,acc.length=i→(∀ x ∈ acc,okT x)→(uG env e c acc (i:Nat)=some (0,false)∧tN env c e acc (i:Nat)=some (0,false))∨∃ a:List Int,a.length=e.kids.length∧(∀ x ∈ a,okT x)∧uG env e c acc (i:Nat)=rP env a e c [] 0∧tN env c e acc (i:Nat)=tN env c e a (e.kids.length:Int):=by
    refine eO ?_ ?_
    · intro acc ha hx
      right
      refine ⟨acc,ha,hx,?_,rfl⟩
      rw [uG]
      simp
    · intro i hi ih acc ha hx
      obtain ⟨r,h1,h2,h3⟩:=H _ (QM hi)
      have ea:appG 8 acc [r.1]=some (acc++[r.1]):=by unfold appG; rw [if_pos (by simp; omega)]
      have f1:uG env e c acc (i:Nat)=if (!r.2)=true then some (0,false) else uG env e c (acc++[r.1]) ((i+1:Nat):Int):=by
        rw [uG]
        simp only [dD,hi,decide_true,if_true,bX hi,dX hi (by omega),h1,ea,QB,QA]
      have f2:tN env c e acc (i:Nat)=if (!r.2)=true then some (0,false) else tN env c e (acc++[r.1]) ((i+1:Nat):Int):=by
        rw [tN]
        simp only [dD,hi,decide_true,if_true,bX hi,dX hi (by omega),h2,ea,QB,QA]
      rw [f1,f2]
      cases hr:r.2
      · left; exact ⟨by simp,by simp⟩
      · have:=ih (acc++[r.1]) (by simp [ha]) (by intro x hx2; rcases QZ.1 hx2 with h | h; exact hx x h; simp at h; rw [h]; exact h3)
        simpa using this
  simpa using key 0 (by omega) [] rfl (by simp)
theorem aMl {α:Type} {l:List α} (h:0<l.length):idx l 0=some l[0]:=bX h
theorem bDy {α:Type} {l:List α} (h:1<l.length):idx l 1=some l[1]:=bX h
theorem cBt (l:List Int) (h:l.length≤4194304):aKz l=some l:=by
  unfold aKz
  by_cases h0:l=[]
  · simp [h0]
  · have e:appG 8 ([]:List Int) l=some l:=by unfold appG; rw [if_pos (by simp; omega)]; simp
    have h1:¬ (l.length:Int)=0:=by
      have:=WZ.2 h0
      omega
    simp [h1,e]
theorem aTy (a b:List Int) (ha:a.length≤1000000) (hb:b.length≤1000) (oa:∀ x ∈ a,okT x) (ob:∀ x ∈ b,okT x):∃ m:Bool,aB2 (a++b)=some m∧X5 a b false=some (if m=true then 3 else 0,m):=by
  obtain ⟨r,h1,h2⟩:=bU9 (a++b) (by simp; omega) (by intro x hx; rcases QZ.1 hx with h | h; exact oa x h; exact ob x h)
  refine ⟨r.2,h2,?_⟩
  have e:appG 8 a b=some (a++b):=by unfold appG; rw [if_pos (by omega)]
  unfold X5
  rw [cBt a (by omega)]
  simp only [e,h1,QD,if_false,QB,QA]
  cases r.2 <;> simp
theorem bWh (c:aP) (env:List (List Int)) (hv:mR env) (hl:env.length≤4194304) (e:aA) (hk:e.kids.length≤1048576) (hs:e.sub.length≤1048576) (H:∀ k ∈ e.kids,TyE c env k) (HP:∀ p ∈ e.sub,PlE c env p):TyE c env e:=by
  unfold TyE
  obtain ⟨b,s1,i1,hf⟩:=aQo e hk hs
  rw [rO,aB1,s1,i1]
  simp only [QB,QA]
  cases b with
  | false=>exact ⟨(0,false),by simp,by simp,okT0⟩
  | true =>
  simp only [QE,QD,if_false]
  have hF:=hf rfl
  by_cases k2:e.kind=2
  · have hk0 : e.kids.length = 0 := by
      rcases hF with h | h | h | h | h | h | h | h | h <;> first | exact h.2.1 | (exact absurd h.1 (by omega))
    rw [if_pos (by simpa using k2),tN]
    have n1:¬ e.kind=1:=by omega
    have hw:QC .i64 ((env.length:Int) - 1)=(env.length:Int) - 1:=eX (by omega) (by omega)
    unfold iX
    simp only [hk0,k2,n1,hw,decide_true,decide_false,if_true,if_false,QD,QB,QA,Int.reduceEq]
    by_cases u0:0≤e.up
    case neg => exact ⟨(0, false), by have : e.up < 0 := by omega
                                      simp [this],by simp [u0],okT0⟩
    by_cases u1:e.up<(env.length:Int)
    case neg => exact ⟨(0, false), by have : (env.length : Int) ≤ e.up := by omega
                                      simp [this], by have : ¬ e.up ≤ (env.length : Int) - 1 := by omega
                                                      simp [u0,this],okT0⟩
    have hj:e.up.toNat<env.length:=by omega
    have hx:idx env e.up=some env[e.up.toNat]:=by
      have:=bX hj
      rwa [show ((e.up.toNat:Nat):Int)=e.up by omega] at this
    obtain ⟨r1,r2⟩:=hv _ (QM hj)
    have a1:¬ e.up<0:=by omega
    have a2:¬ (env.length:Int)≤e.up:=by omega
    have a3:e.up≤(env.length:Int) - 1:=by omega
    have hw2:QC .i64 ((env[e.up.toNat].length:Int) - 1)=(env[e.up.toNat].length:Int) - 1:=eX (by omega) (by omega)
    simp only [u0,a1,a2,a3,hx,hw2,decide_true,decide_false,if_true,if_false,QE,QD,beq_self_eq_true,WN,QA,QG]
    by_cases t0:0≤e.at_
    case neg => exact ⟨(0, false), by have : e.at_ < 0 := by omega
                                      simp [this],by simp [t0],okT0⟩
    by_cases t1:e.at_<(env[e.up.toNat].length:Int)
    case neg => exact ⟨(0, false), by have h1 : (env[e.up.toNat].length : Int) ≤ e.at_ := by omega
                                      have h2:¬ e.at_<0:=by omega
                                      simp [h1, h2], by have : ¬ e.at_ ≤ (env[e.up.toNat].length : Int) - 1 := by omega
                                                        simp [t0,this],okT0⟩
    have hj2:e.at_.toNat<env[e.up.toNat].length:=by omega
    have hx2:idx env[e.up.toNat] e.at_=some env[e.up.toNat][e.at_.toNat]:=by
      have:=bX hj2
      rwa [show ((e.at_.toNat:Nat):Int)=e.at_ by omega] at this
    have b1:¬ e.at_<0:=by omega
    have b2:¬ (env[e.up.toNat].length:Int)≤e.at_:=by omega
    have b3:e.at_≤(env[e.up.toNat].length:Int) - 1:=by omega
    exact ⟨(env[e.up.toNat][e.at_.toNat],true),by simp [b1,b2,hx2],by simp [t0,b3,hx2],r2 _ (QM hj2)⟩
  rw [if_neg (by simpa using k2)]
  rcases bQy c env e hk H with ⟨h1,h2⟩ | ⟨acc,ha,hx,h1,h2⟩
  · exact ⟨(0,false),h1,h2,okT0⟩
  rw [h1,h2,tN,rP]
  have nk:decide ((e.kids.length:Int)<(e.kids.length:Int))=false:=by simp
  simp only [nk,k2,decide_false,QD,if_false]
  rcases hF with ⟨k,f1,f2,f3⟩ | ⟨k,f1⟩ | ⟨k,f1,f2⟩ | ⟨k,f1,f2⟩ | ⟨k,f1,f2⟩ | ⟨k,f1,f2⟩ | ⟨k,⟨f1,f3⟩,f2⟩ | ⟨k,f1,f2⟩ | ⟨k,f1,f2⟩
  · refine ⟨(e.value.kind,true),?_,?_,f3⟩
    · unfold qM; simp [f2,k]
    · simp [k]
  · exact absurd k k2
  · obtain ⟨r,r1,r2,r3⟩:=bNo e.op (acc[0]'(by omega))
    refine ⟨r,?_,?_,r3⟩
    · unfold qM; simp [f2,k,aMl (show 0<acc.length by omega),r1]
    · simp [k,aMl (show 0<acc.length by omega),r2]
  · obtain ⟨r,r1,r2,r3⟩:=cDa e.op (acc[0]'(by omega)) (acc[1]'(by omega)) (hx _ (QM _)) (hx _ (QM _))
    refine ⟨r,?_,?_,r3⟩
    · unfold qM; simp [f2,k,aMl (show 0<acc.length by omega),bDy (show 1<acc.length by omega),r1]
    · simp [k,aMl (show 0<acc.length by omega),bDy (show 1<acc.length by omega),r2]
  · refine ⟨(3,true),?_,?_,okT3⟩
    · unfold qM X5; simp [f2,k]
    · unfold zC; simp [f2,k]
  · obtain ⟨m,m1,m2⟩:=aTy acc [] (by omega) (by simp) hx (by simp)
    refine ⟨(if m=true then 3 else 0,m),?_,?_,by cases m; exact okT0; exact okT3⟩
    · unfold qM; simp [f2,k,m2]
    · rw [XA] at m1
      unfold zC uV; cases m <;> simp [f2,k,m1]
  · obtain ⟨m,m1,m2⟩:=aTy acc [] (by omega) (by simp) hx (by simp)
    refine ⟨(if m=true then 3 else 0,m),?_,?_,by cases m; exact okT0; exact okT3⟩
    · unfold qM; simp [f2,k,m2]
    · rw [XA] at m1
      unfold zC uV; cases m <;> simp [f2,k,m1]
  · obtain ⟨p, hp⟩ : ∃ p, e.sub = [p] := by
      match hh:e.sub,f2 with
      | [p],_=>exact ⟨p,rfl⟩
    obtain ⟨r,r1,r2,r3⟩:=HP p (by rw [hp]; simp)
    have ip:idx e.sub 0=some p:=by rw [hp]; rfl
    rw [ip]
    simp only [f2,k,r1,r2,QB,QA]
    obtain ⟨out,ok⟩:=r
    cases ok with
    | false=>exact ⟨(0,false),by simp,by simp,okT0⟩
    | true =>
    by_cases ho:out.length=1
    case neg =>
      have h3:¬ (out.length:Int)=1:=by omega
      exact ⟨(0,false),by simp [h3],by simp [h3],okT0⟩
    obtain ⟨t,ht⟩:∃ t,out=[t]:=by
      match out,ho with
      | [t],_=>exact ⟨t,rfl⟩
    subst ht
    have iw:QC .i64 (0+1)=1:=rfl
    have i0:idx [t] 0=some t:=rfl
    have ea:appG 8 acc [t]=some (acc++[t]):=by unfold appG; rw [if_pos (by simp; omega)]
    obtain ⟨m,m1,m2⟩:=aTy acc [t] (by omega) (by simp) hx (by intro x hx2; exact r3 x hx2)
    have h8:¬ e.kind=1:=by omega
    refine ⟨(if m=true then 3 else 0,m),?_,?_,by cases m; exact okT0; exact okT3⟩
    · rw [iw,rP]
      unfold qM
      simp [f2,k,m2]
    · unfold zC uV; cases m <;> simp [k,i0,ea,m1]
  · obtain ⟨p, hp⟩ : ∃ p, e.sub = [p] := by
      match hh:e.sub,f2 with
      | [p],_=>exact ⟨p,rfl⟩
    obtain ⟨r,r1,r2,r3⟩:=HP p (by rw [hp]; simp)
    have ip:idx e.sub 0=some p:=by rw [hp]; rfl
    rw [ip]
    simp only [f2,k,r1,r2,QB,QA]
    obtain ⟨out,ok⟩:=r
    cases ok with
    | false=>exact ⟨(0,false),by simp,by simp,okT0⟩
    | true =>
    have iw:QC .i64 (0+1)=1:=rfl
    have ha0:acc=[]:=XB (by omega)
    subst ha0
    have hm:aB2 []=some true:=by unfold aB2; rw [Q4]; simp
    refine ⟨(3,true),?_,?_,okT3⟩
    · simp only [iw]
      rw [rP]
      unfold qM X5
      simp [f2,k]
    · unfold zC uV; simp [k,hm]
theorem aUj {α:Type} {l:List α} {n:Nat} (h:n≤l.length):rF l 0 (n:Int)=some (l.take n):=by
  unfold rF
  rw [if_pos (by omega)]
  simp
theorem bRw (c:aP) (env:List (List Int)) (p:aQ) (hn:p.items.length≤1048576) (H:∀ e ∈ p.items,TyE c env e):∃ r:List Int×Bool,wW env p c [] 0=some r∧I9 env c p [] 0=some r∧∀ x ∈ r.1,okT x:=by
  have key:∀ i,i≤p.items.length→∀ acc:List Int,acc.length=i→(∀ x ∈ acc,okT x)→∃ r:List Int×Bool,wW env p c acc (i:Nat)=some r∧I9 env c p acc (i:Nat)=some r∧∀ x ∈ r.1,okT x:=by
    refine eO ?_ ?_
    · intro acc _ hx
      rw [wW,I9]
      exact ⟨(acc,true),by simp,by simp,hx⟩
    · intro i hi ih acc ha hx
      obtain ⟨r,h1,h2,h3⟩:=H _ (QM hi)
      have ea:appG 8 acc [r.1]=some (acc++[r.1]):=by unfold appG; rw [if_pos (by simp; omega)]
      rw [wW,I9]
      simp only [dD,hi,decide_true,if_true,bX hi,dX hi (by omega),h1,h2,ea,QB,QA]
      cases hr:r.2
      · exact ⟨([],false),by simp,by simp,by simp⟩
      · have:=ih (acc++[r.1]) (by simp [ha]) (by intro x hx2; rcases QZ.1 hx2 with h | h; exact hx x h; simp at h; rw [h]; exact h3)
        simpa using this
  simpa using key 0 (by omega) [] rfl (by simp)
theorem cDr (c:aP) (env:List (List Int)) (p:aQ) (hn:p.items.length≤1048576) (ho:p.order.length≤1048576) (H:∀ e ∈ p.items,TyE c env e) (HO:∀ k ∈ p.order,TyE c env k.expr):∃ r:List Int×Bool,xQ env p c 0=some r∧aB0 env c p 0=some r∧∀ x ∈ r.1,okT x:=by
  have key:∀ i,i≤p.order.length→∃ r:List Int×Bool,xQ env p c (i:Nat)=some r∧aB0 env c p (i:Nat)=some r∧∀ x ∈ r.1,okT x:=by
    refine eO ?_ ?_
    · rw [xQ,aB0]
      simpa using bRw c env p hn H
    · intro i hi ih
      obtain ⟨r,h1,h2,h3⟩:=HO _ (QM hi)
      rw [xQ,aB0]
      simp only [dD,hi,decide_true,if_true,bX hi,dX hi (by omega),h1,h2,QB,QA]
      cases hr:r.2
      · exact ⟨([],false),by simp,by simp,by simp⟩
      · simpa using ih
  simpa using key 0 (by omega)
theorem aT6 {row:List Int} {env:List (List Int)} (hr:row.length≤4194304) (hx:∀ x ∈ row,okT x) (hv:mR env):mR (row::env):=by
  intro r h
  rcases WF.1 h with rfl | h
  · exact ⟨hr,hx⟩
  · exact hv r h
theorem bPo (c : aP) (hc : qJ c) (env : List (List Int)) (hv : mR env) (hl : env.length < 4194304) (p : aQ) (ho : p.on_.length ≤ 1048576) (hn : p.names.length ≤ 1048576) (ht : p.tables.length ≤ 1048576)
    (H:∀ env',mR env'→env'.length=env.length+1→(∀ l ∈ p.on_,∀ e ∈ l,TyE c env' e)∧(∀ e ∈ p.where_,TyE c env' e)∧(∀ k ∈ p.order,TyE c env' k.expr)∧(∀ e ∈ p.items,TyE c env' e)):PlE c env p:=by
  unfold PlE
  obtain ⟨f1,f2⟩:=bHu c hc p ho hn ht
  obtain ⟨r1,r2⟩:=T9 c hc p.tables ht
  rw [E8,aHs,f1,f2,r1]
  simp only [QB,QA]
  cases hr:(gN c [] p.tables).2 with
  | false=>exact ⟨([],false),by simp,by simp,by simp⟩
  | true =>
  cases hP:yC p with
  | false=>exact ⟨([],false),by simp,by simp,by simp⟩
  | true =>
  cases hO:onB p with
  | false=>exact ⟨([],false),by simp,by simp,by simp⟩
  | true =>
  cases hN:p.names.all nmB with
  | false=>exact ⟨([],false),by simp,by simp,by simp⟩
  | true =>
  simp only [QE,QG,WN,beq_self_eq_true,if_true,QD,if_false,QA]
  have hB:p.tables.length≤3∧p.on_.length=p.tables.length∧p.where_.length≤1∧p.order.length≤12∧p.items.length≤12:=by
    unfold yC at hP
    simp only [QP,decide_eq_true_eq] at hP
    omega
  obtain ⟨b1,b2,b3,b4,b5⟩:=hB
  have hO1:∀ l ∈ p.on_,l.length≤1:=by
    unfold onB at hO
    simpa using hO
  obtain ⟨q1,q2⟩:=aM8 c hc p.tables [] (by simp)
  simp only [QU] at q2
  obtain ⟨w1,w2⟩:=aB8 (gN c [] p.tables).1 env (by omega)
  obtain ⟨-,m2,m3,m4⟩:=H ((gN c [] p.tables).1::env) (aT6 (by omega) q1 hv) (by simp)
  have key:∀ i,i≤p.on_.length→∃ r:List Int×Bool,D7 env (gN c [] p.tables) p c (i:Nat)=some r∧aDa env c p (i:Nat)=some r∧∀ x ∈ r.1,okT x:=by
    refine eO ?_ ?_
    · obtain ⟨t,t1,t2⟩:=bI9 c ((gN c [] p.tables).1::env) p.where_ (by omega) m2
      rw [D7,aDa]
      simp only [dD,WR,decide_false,QD,if_false,r2,w1,w2,t1,t2,QB,QA]
      cases t
      · exact ⟨([],false),by simp,by simp,by simp⟩
      · simpa using cDr c _ p (by omega) (by omega) m4 m3
    · intro i hi ih
      obtain ⟨a1,a2⟩:=aM8 c hc (p.tables.take (i+1)) [] (by simp)
      simp only [QU] at a2
      obtain ⟨a3,a4⟩:=T9 c hc (p.tables.take (i+1)) (by rw [XC]; omega)
      have a5:(p.tables.take (i+1)).length≤3:=by rw [XC]; omega
      obtain ⟨a6,a7⟩:=aB8 (gN c [] (p.tables.take (i+1))).1 env (by omega)
      obtain ⟨a8,-⟩:=H ((gN c [] (p.tables.take (i+1))).1::env) (aT6 (by omega) a1 hv) (by simp)
      obtain ⟨t,t1,t2⟩:=bI9 c _ p.on_[i] (by have:=hO1 _ (QM hi); omega) (a8 _ (QM hi))
      have hs:rF p.tables 0 ((i+1:Nat):Int)=some (p.tables.take (i+1)):=aUj (by omega)
      rw [D7,aDa]
      simp only [dD,hi,decide_true,if_true,bX hi,dX hi (by omega),hs,a3,a4,a6,a7,t1,t2,QB,QA]
      cases t
      · exact ⟨([],false),by simp,by simp,by simp⟩
      · simpa using ih
  simpa using key 0 (by omega)
theorem bDu (c:aP) (hc:qJ c):∀ n:Nat,(∀ (e:aA) (env:List (List Int)),aZ e<n→n≤1048577→mR env→env.length+n≤4000000→TyE c env e)∧(∀ (p:aQ) (env:List (List Int)),dY p<n→n≤1048577→mR env→env.length+n≤4000000→PlE c env p)
  | 0=>⟨fun _ _ h=>absurd h (by omega),fun _ _ h=>absurd h (by omega)⟩
  | n+1=>by
    obtain ⟨i1,i2⟩:=bDu c hc n
    refine ⟨fun e env he hn hv hl=>?_,fun p env hp hn hv hl=>?_⟩
    · have:=aOc e
      exact bWh c env hv (by omega) e (by omega) (by omega) (fun k hk=>i1 k env (by have:=aPi hk; have:=WD hk; omega) (by omega) hv (by omega)) fun p hp=>i2 p env (by have:=aO9 hp; have:=WD hp; omega) (by omega) hv (by omega)
    · have:=aNl p
      refine bPo c hc env hv (by omega) p (by omega) (by omega) (by omega) fun env' hv' hl'=>⟨fun l hm e he=>i1 e env' ?_ (by omega) hv' (by omega),fun e he=>i1 e env' ?_ (by omega) hv' (by omega),fun k hk=>i1 k.expr env' ?_ (by omega) hv' (by omega),fun e he=>i1 e env' ?_ (by omega) hv' (by omega)⟩
      · have:=onZ hm he; have:=WD he; omega
      · have:=bD1 he; have:=WD he; omega
      · have:=aXu hk; have:=WD hk; omega
      · have:=aVn he; have:=WD he; omega
theorem bXx (c:aP) (hc:qJ c) (p:aQ) (env:List (List Int)) (hz:dY p≤1048576) (hv:mR env) (hl:env.length≤1000):PlE c env p:=(bDu c hc (dY p+1)).2 p env (by omega) (by omega) hv (by omega)
theorem bKw {c:aP} (h:nH c):qJ c:=by
  refine ⟨h.2,fun t ht=>?_⟩
  obtain ⟨i,hi,rfl⟩:=XD ht
  obtain ⟨t,h1,⟨h2,h3⟩,-⟩:=h.1 i hi
  rw [WC hi] at h1
  simp only [QJ] at h1; subst h1
  refine ⟨h3.2.2,fun x hx=>?_⟩
  unfold rQ at hx
  obtain ⟨k,hk,rfl⟩:=XF.1 hx
  obtain ⟨j,hj,rfl⟩:=XD hk
  obtain ⟨k,k1,-,k2,-⟩:=h2 j hj
  rw [WC hj] at k1
  simp only [QJ] at k1; subst k1
  exact ⟨by omega,k2.2⟩
theorem summed {α γ : Type} {p : List α} {f : α → Option Int} {s : α → Int} {L : Int → Int → Option γ} {K : Int → Option γ} (hp : p.length ≤ 1048576)
    (hf:∀ y ∈ p,f y=some (s y)∧0≤s y)
    (hL:∀ (i:Nat) (x:Int),L x (i:Int)=if (decide ((i:Int)<(p.length:Int)))=true then ((idx p (i:Int))>>=fun y=>(f y)>>=fun z=>L (QC .i64 (x+z)) (QC .i64 ((i:Int)+1))) else K x) :
    ∀ x:Int,0≤x→x+(p.map s).sum≤9223372036854775807→L x 0=K (x+(p.map s).sum):=by
  have nn:∀ l:List α,(∀ y ∈ l,0≤s y)→0≤(l.map s).sum:=by
    intro l
    induction l with
    | nil=>intro _; simp
    | cons y l ih=>intro h; have h1:=h y (by simp); have h2:=ih fun z hz=>h z (by simp [hz]); simp only [QY,WA]; omega
  have key:∀ i,i≤p.length→∀ x:Int,0≤x→x+((p.drop i).map s).sum≤9223372036854775807→L x (i:Nat)=K (x+((p.drop i).map s).sum):=by
    refine eO ?_ ?_
    · intro x _ _
      rw [hL]; simp
    · intro i hi ih x h0 hx
      obtain ⟨f1,f2⟩:=hf _ (QM hi)
      have hn:=nn (p.drop (i+1)) fun y hy=>(hf y (List.mem_of_mem_drop hy)).2
      rw [QX hi] at hx ⊢
      simp only [QY,WA] at hx ⊢
      rw [hL,bX hi,dX hi (by omega)]
      simp only [dD,hi,decide_true,if_true,f1,QB,QA]
      rw [eX (by omega) (by omega),ih _ (by omega) (by omega),Int.add_assoc]
  intro x h0 hx
  simpa using key 0 (by omega) x h0 (by simpa using hx)
theorem aLv {α:Type} {s:α→Int}:∀ l:List α,(∀ y ∈ l,0≤s y)→0≤(l.map s).sum
  | [],_=>by simp
  | y::l,h=>by have h1:=h y (by simp); have h2:=aLv l fun z hz=>h z (by simp [hz]); simp only [QY,WA]; omega
theorem aEh {α:Type} {s:α→Int} {z:α→Nat}:∀ l:List α,(∀ y ∈ l,s y≤(z y:Int)+1)→(l.map s).sum≤(zL z l:Int)
  | [],_=>by simp [zL]
  | y::l,h=>by
    have h1:=h y (by simp); have h2:=aEh l fun w hw=>h w (by simp [hw])
    unfold zL at *
    simp only [QY,WA,QT] at *; omega
def mx {α:Type} (d:α→Int) (l:List α) (x:Int):Int:=l.foldl (fun b y=>if d y > b then d y else b) x
theorem aX4 {α:Type} {d:α→Int} {n:Int}:∀ (l:List α) (x:Int),mx d l x≤n↔x≤n∧∀ y ∈ l,d y≤n
  | [],x=>by simp [mx]
  | y::l,x=>by
    have:=aX4 (d:=d) (n:=n) l (if d y > x then d y else x)
    unfold mx at *
    rw [WX,this]
    simp only [WF,forall_eq_or_imp]
    split
    · constructor
      · rintro ⟨a,b⟩; exact ⟨by omega,a,b⟩
      · rintro ⟨a,b,c⟩; exact ⟨b,c⟩
    · constructor
      · rintro ⟨a,b⟩; exact ⟨a,by omega,b⟩
      · rintro ⟨a,b,c⟩; exact ⟨a,c⟩
theorem aV1 (a b:Int):pU a b=some (if b > a then b else a):=by
  unfold pU
  by_cases h:b<a
  · have:¬ a<b:=by omega
    simp [h,this]
  · by_cases h2:a<b
    · simp [h,h2]
    · have:a=b:=by omega
      subst this; simp
def nV (p:aQ):List aA:=p.on_.flatMap (fun l=>l)++p.where_++p.order.flatMap (fun k=>[k.expr])++p.items
theorem bIh {α β:Type} {f:α→List β} {z:α→Nat}:∀ l:List α,(∀ y ∈ l,(f y).length≤z y+1)→(l.flatMap f).length≤zL z l
  | [],_=>by simp [zL]
  | y::l,h=>by
    have h1:=h y (by simp); have h2:=bIh l fun w hw=>h w (by simp [hw])
    unfold zL at *
    simp only [WB,QN,QY,WA,QT] at *; omega
theorem aVo (l:List bN):(l.flatMap fun k=>[k.expr])=l.map fun k=>k.expr:=by
  induction l with
  | nil=>rfl
  | cons x l ih=>rw [WB,ih]; rfl
theorem bCa (p:aQ):(nV p).length≤dY p:=by
  have h1:=Y3 p
  have h2:=bIh (f:=fun l:List aA=>l) (z:=zL aZ) p.on_ fun y _=>by have:=zH (z:=aZ) y; omega
  have h3:=zH (z:=aZ) p.where_
  have h4:=zH (z:=aZ) p.items
  unfold nV
  simp only [QN,aVo,List.length_map]
  omega
theorem aZr {p:aQ} {e:aA} (h:e ∈ nV p):aZ e<dY p:=by
  unfold nV at h
  simp only [QZ,WY,XG] at h
  rcases h with ((⟨l,h1,h2⟩ | h) | ⟨k,h1,rfl⟩) | h
  · have:=onZ h1 h2; have:=WD h2; omega
  · have:=bD1 h; have:=WD h; omega
  · have:=aXu h1; have:=WD h1; omega
  · have:=aVn h; have:=WD h; omega
theorem bM9 {s:aA→Int}:∀ l:List (List aA),(∀ r ∈ l,∀ y ∈ r,s y≤(aZ y:Int)+1)→((l.flatMap (fun r=>r)).map s).sum≤(zL (zL aZ) l:Int)
  | [],_=>by simp [zL]
  | r::l,h=>by
    have h1:=aEh (s:=s) (z:=aZ) r (h r (by simp)); have h2:=bM9 (s:=s) l fun w hw=>h w (by simp [hw])
    rw [WB,WT,XH]
    have:(zL (zL aZ) (r::l):Int)=1+zL aZ r+zL (zL aZ) l:=by unfold zL; simp only [QT,QY,WA]; omega
    omega
theorem bKl {s:aA→Int} (p:aQ) (h:∀ y ∈ nV p,s y≤(aZ y:Int)+1):((nV p).map s).sum≤(dY p:Int):=by
  have h1:=Y3 p
  unfold nV at *
  have a1:=bM9 (s:=s) p.on_ fun r hr y hy=>h y (by simp only [QZ,WY]; exact .inl (.inl (.inl ⟨r,hr,hy⟩)))
  have a2:=aEh (s:=s) (z:=aZ) p.where_ fun y hy=>h y (by simp only [QZ]; exact .inl (.inl (.inr hy)))
  have a3:=aEh (s:=fun k:bN=>s k.expr) (z:=fun k=>aZ k.expr) p.order fun y hy=>h y.expr (by rw [aVo]; simp only [QZ,XF]; exact .inl (.inr ⟨y,hy,rfl⟩))
  have a4:=aEh (s:=s) (z:=aZ) p.items fun y hy=>h y (by simp only [QZ]; exact .inr hy)
  rw [aVo]
  simp only [WT,XH,List.map_map]
  have:(p.order.map (s ∘ fun k=>k.expr))=p.order.map fun k:bN=>s k.expr:=rfl
  rw [this]
  unfold zL at a3
  omega
theorem aAf {l m:List aA} (h:l.length+m.length≤4194304):appG 120 l m=some (l++m):=iP (by omega)
theorem parts_eq (p:aQ) (hz:dY p≤1048576):aGs p=some (nV p)∧aH2 p=some (nV p):=by
  have hl:=aNl p
  have hp:=bCa p
  unfold nV at hp
  simp only [QN] at hp
  have o1:∀ acc:List aA,acc.length+(p.order.flatMap fun k=>[k.expr]).length+p.items.length≤4194304→P5 p acc 0=some (acc++(p.order.flatMap fun k=>[k.expr])++p.items):=by
    intro acc ha
    rw [gather (p:=p.order) (f:=fun k=>[k.expr]) (c:=4194304) (G:=fun y acc=>appG 120 acc ([y.expr]:List aA)) (L:=fun acc i=>P5 p acc i) (K:=fun x=>(appG 120 x p.items)>>=fun (y7:List aA)=>some y7) (by omega) (fun y _ acc h=>aAf h) (fun i acc=>by rw [P5]) acc (by omega)]
    rw [aAf (by rw [QN]; omega)]; rfl
  have o2:∀ acc:List aA,acc.length+(p.order.flatMap fun k=>[k.expr]).length+p.items.length≤4194304→O9 p acc 0=some (acc++(p.order.flatMap fun k=>[k.expr])++p.items):=by
    intro acc ha
    rw [gather (p:=p.order) (f:=fun k=>[k.expr]) (c:=4194304) (G:=fun y acc=>appG 120 acc ([y.expr]:List aA)) (L:=fun acc i=>O9 p acc i) (K:=fun x=>(appG 120 x p.items)>>=fun (y7:List aA)=>some y7) (by omega) (fun y _ acc h=>aAf h) (fun i acc=>by rw [O9]) acc (by omega)]
    rw [aAf (by rw [QN]; omega)]; rfl
  constructor
  · rw [aGs,gather (p:=p.on_) (f:=fun l=>l) (c:=4194304) (G:=fun y acc=>appG 120 acc y) (L:=fun acc i=>aEl p acc i) (K:=fun x=>(appG 120 x p.where_)>>=fun (y3:List aA)=>P5 p y3 0) (by omega) (fun y _ acc h=>aAf h) (fun i acc=>by rw [aEl]) [] (by simp only [QU]; omega)]
    rw [aAf (by simp only [WU]; omega)]
    simp only [QB,QA,WU]
    rw [o1 _ (by simp only [QN]; omega)]; rfl
  · rw [aH2,gather (p:=p.on_) (f:=fun l=>l) (c:=4194304) (G:=fun y acc=>appG 120 acc y) (L:=fun acc i=>aDk p acc i) (K:=fun x=>(appG 120 x p.where_)>>=fun (y3:List aA)=>O9 p y3 0) (by omega) (fun y _ acc h=>aAf h) (fun i acc=>by rw [aDk]) [] (by simp only [QU]; omega)]
    rw [aAf (by simp only [WU]; omega)]
    simp only [QB,QA,WU]
    rw [o2 _ (by simp only [QN]; omega)]; rfl
def dE (e:aA):Int:=(aB5 e).getD 0
def sE (e:aA):Int:=(N9 e).getD 0
def dP (p:aQ):Int:=(zT p).getD 0
def sP (p:aQ):Int:=(F3 p).getD 0
def DsE (e:aA):Prop:=aB5 e=some (dE e)∧yL e=some (dE e)∧N9 e=some (sE e)∧yE e=some (sE e)∧0≤sE e∧sE e≤(aZ e:Int)+1
def DsP (p:aQ):Prop:=zT p=some (dP p)∧M6 p=some (dP p)∧F3 p=some (sP p)∧Q7 p=some (sP p)∧0≤sP p∧sP p≤(dY p:Int)
theorem aU4 (l:List aA) (hl:l.length≤1048576) (H:∀ e ∈ l,DsE e) (x:Int):aEb l x 0=some (mx dE l x)∧aEe l x 0=some (mx dE l x):=by
  constructor
  · exact folded (p:=l) (g:=fun y b=>(aB5 y)>>=fun z=>some (if z > b then z else b)) (h:=fun y b=>if dE y > b then dE y else b) (L:=fun b i=>aEb l b i) (K:=fun b=>some b) hl (fun y hy b=>by rw [(H y hy).1]; rfl) (fun i b=>by rw [aEb]; simp only [QB,QV,QA]) x
  · exact folded (p:=l) (g:=fun y b=>(yL y)>>=fun z=>pU b z) (h:=fun y b=>if dE y > b then dE y else b) (L:=fun b i=>aEe l b i) (K:=fun b=>some b) hl (fun y hy b=>by rw [(H y hy).2.1]; exact aV1 _ _) (fun i b=>by rw [aEe]; simp only [QB,QV]) x
theorem aY4 (l:List aA) (hl:l.length≤1048576) (hz:(l.map sE).sum≤4194304) (H:∀ e ∈ l,DsE e):aHf l=some ((l.map sE).sum)∧aDq l 0 0=some ((l.map sE).sum):=by
  constructor
  · rw [aHf,summed (p:=l) (f:=N9) (s:=sE) (L:=fun x i=>aHl l x i) (K:=fun x=>some x) hl (fun y hy=>⟨(H y hy).2.2.1,(H y hy).2.2.2.2.1⟩) (fun i x=>by rw [aHl]) 0 (by omega) (by omega)]
    simp
  · rw [summed (p:=l) (f:=yE) (s:=sE) (L:=fun x i=>aDq l x i) (K:=fun x=>some x) hl (fun y hy=>⟨(H y hy).2.2.2.1,(H y hy).2.2.2.2.1⟩) (fun i x=>by rw [aDq]) 0 (by omega) (by omega)]
    simp
theorem bVm (p:aQ) (hz:dY p≤1048576) (H:∀ e ∈ nV p,DsE e):DsP p:=by
  obtain ⟨p1,p2⟩:=parts_eq p hz
  have hl:=bCa p
  have hs:=bKl (s:=sE) p fun y hy=>(H y hy).2.2.2.2.2
  have hn:=aLv (s:=sE) (nV p) fun y hy=>(H y hy).2.2.2.2.1
  obtain ⟨a1,a2⟩:=aU4 _ (by omega) H 0
  obtain ⟨b1,b2⟩:=aY4 _ (by omega) (by omega) H
  have e1:zT p=some (mx dE (nV p) 0):=by rw [zT,p1]; simp only [QB,QA,aHo,a1]
  have e2:F3 p=some (((nV p).map sE).sum):=by rw [F3,p1]; simp only [QB,QA,b1]
  have d1:dP p=mx dE (nV p) 0:=by unfold dP; rw [e1]; rfl
  have d2:sP p=((nV p).map sE).sum:=by unfold sP; rw [e2]; rfl
  unfold DsP
  rw [d1,d2]
  exact ⟨e1,by rw [M6,p2]; exact a2,e2,by rw [Q7,p2]; exact b2,hn,hs⟩
theorem cFh (e:aA) (hz:aZ e≤1048576) (HK:∀ k ∈ e.kids,DsE k) (HS:∀ p ∈ e.sub,DsP p):DsE e:=by
  have hl:=aOc e
  have hzz:=aFk e
  have s1:=aEh (s:=sE) (z:=aZ) e.kids fun y hy=>(HK y hy).2.2.2.2.2
  have s2:=aEh (s:=sP) (z:=dY) e.sub fun y hy=>by have:=(HS y hy).2.2.2.2.2; omega
  have n1:=aLv (s:=sE) e.kids fun y hy=>(HK y hy).2.2.2.2.1
  have n2:=aLv (s:=sP) e.sub fun y hy=>(HS y hy).2.2.2.2.1
  obtain ⟨a1,-⟩:=aU4 e.kids (by omega) HK 0
  obtain ⟨b1,-⟩:=aY4 e.kids (by omega) (by omega) HK
  have e1:aB5 e=some (QC .i64 (1+mx dP e.sub (mx dE e.kids 0))):=by
    rw [aB5,aHo,a1]
    exact folded (p:=e.sub) (g:=fun y b=>(zT y)>>=fun z=>some (if z > b then z else b)) (h:=fun y b=>if dP y > b then dP y else b) (L:=fun b i=>aEj e b i) (K:=fun b=>some (QC .i64 (1+b))) (by omega) (fun y hy b=>by rw [(HS y hy).1]; rfl) (fun i b=>by rw [aEj]; simp only [QB,QV,QA]) _
  have e2:yL e=some (QC .i64 (1+mx dP e.sub (mx dE e.kids 0))):=by
    rw [yL,folded (p:=e.kids) (g:=fun y b=>(yL y)>>=fun z=>pU b z) (h:=fun y b=>if dE y > b then dE y else b) (L:=fun b i=>M9 e b i) (K:=fun b=>xR e b 0) (by omega) (fun y hy b=>by rw [(HK y hy).2.1]; exact aV1 _ _) (fun i b=>by rw [M9]; simp only [QB,QV]) 0]
    rw [XI 1]
    exact folded (p:=e.sub) (g:=fun y b=>(M6 y)>>=fun z=>pU b z) (h:=fun y b=>if dP y > b then dP y else b) (L:=fun b i=>xR e b i) (K:=fun b=>some (QC .i64 (b+1))) (by omega) (fun y hy b=>by rw [(HS y hy).2.1]; exact aV1 _ _) (fun i b=>by rw [xR]; simp only [QB,QV]) _
  have e3:N9 e=some (1+(e.kids.map sE).sum+(e.sub.map sP).sum):=by
    rw [N9,b1]
    simp only [QB,QA]
    rw [eX (by omega) (by omega)]
    exact summed (p:=e.sub) (f:=F3) (s:=sP) (L:=fun x i=>aEq e x i) (K:=fun x=>some x) (by omega) (fun y hy=>⟨(HS y hy).2.2.1,(HS y hy).2.2.2.2.1⟩) (fun i x=>by rw [aEq]) _ (by omega) (by omega)
  have e4:yE e=some (1+(e.kids.map sE).sum+(e.sub.map sP).sum):=by
    rw [yE,summed (p:=e.kids) (f:=yE) (s:=sE) (L:=fun x i=>G6 e x i) (K:=fun x=>xI e x 0) (by omega) (fun y hy=>⟨(HK y hy).2.2.2.1,(HK y hy).2.2.2.2.1⟩) (fun i x=>by rw [G6]) 1 (by omega) (by omega)]
    exact summed (p:=e.sub) (f:=Q7) (s:=sP) (L:=fun x i=>xI e x i) (K:=fun x=>some x) (by omega) (fun y hy=>⟨(HS y hy).2.2.2.1,(HS y hy).2.2.2.2.1⟩) (fun i x=>by rw [xI]) _ (by omega) (by omega)
  have d1:dE e=QC .i64 (1+mx dP e.sub (mx dE e.kids 0)):=by unfold dE; rw [e1]; rfl
  have d2:sE e=1+(e.kids.map sE).sum+(e.sub.map sP).sum:=by
    have:sE e=(N9 e).getD 0:=rfl
    rw [this,e3]; rfl
  unfold DsE
  rw [← d1] at e1 e2
  rw [← d2] at e3 e4
  exact ⟨e1,e2,e3,e4,by omega,by omega⟩
theorem aS6:∀ n:Nat,(∀ e:aA,aZ e<n→aZ e≤1048576→DsE e)∧(∀ p:aQ,dY p<n→dY p≤1048576→DsP p)
  | 0=>⟨fun _ h=>absurd h (by omega),fun _ h=>absurd h (by omega)⟩
  | n+1=>by
    obtain ⟨i1,i2⟩:=aS6 n
    exact ⟨fun e he hz=>cFh e hz (fun k hk=>i1 k (by have:=aPi hk; have:=WD hk; omega) (by have:=aPi hk; omega)) fun p hp=>i2 p (by have:=aO9 hp; have:=WD hp; omega) (by have:=aO9 hp; omega),
      fun p hp hz=>bVm p hz fun e he=>i1 e (by have:=aZr he; omega) (by have:=aZr he; omega)⟩
theorem bP8 (e:aA) (hz:aZ e≤1048576):DsE e:=(aS6 _).1 e (WS _) hz
theorem bBe (p:aQ) (hz:dY p≤1048576):DsP p:=(aS6 _).2 p (WS _) hz
theorem bMc (c:aP) (hs:aBe c) (p:aQ) (hz:dY p≤1048576):∃ b,aCr c p=some b∧aIh c p=some b:=by
  obtain ⟨a,a1,a2⟩:=bEz c hs
  obtain ⟨b,b1,b2⟩:=bUb c hs
  have hab:a=b:=by rw [QW,a2,b2]
  subst hab
  obtain ⟨d1,d2,d3,d4,-⟩:=bBe p hz
  unfold aCr aIh J9
  simp only [a1,b1,d1,d2,d3,d4,QB,QA]
  cases a with
  | false=>exact ⟨false,by simp,by simp⟩
  | true =>
  obtain ⟨r,r1,r2,r3⟩:=bXx c (bKw (a2.1 rfl)) p [] hz (by intro r hr; simp at hr) (by simp)
  have q1:decide (24<dP p)=!decide (dP p≤24):=by rw [QW]; simp only [WE,decide_eq_true_eq,decide_eq_false_iff_not]; omega
  have q2:decide (200<sP p)=!decide (sP p≤200):=by rw [QW]; simp only [WE,decide_eq_true_eq,decide_eq_false_iff_not]; omega
  rw [r1,r2]
  simp only [q1,QE,beq_self_eq_true,WN,if_true,if_false,QD,QA]
  generalize decide (dP p≤24)=x
  cases x with
  | false=>exact ⟨false,by simp,by simp⟩
  | true =>
  simp only [QE,beq_self_eq_true,WN,if_true,if_false,QD,QA,q2]
  generalize decide (sP p≤200)=y
  cases y with
  | false=>exact ⟨false,by simp,by simp⟩
  | true=>exact ⟨r.2,by simp,by simp⟩
def gH (q:aV):List aL:=q.items.flatMap (fun i=>if i.star then [] else [i.expr])++q.from_.flatMap (fun s=>s.on_)++q.where_++q.order.flatMap (fun k=>[k.expr])
theorem zQ (q:aV):mW q=(q.items.length+yY q.items)+(q.from_.length+wR q.from_)+(q.where_.length+jV q.where_)+(q.order.length+zA q.order):=by
  cases q; simp only [mW]
theorem zE (x:aL):gJ x=(x.kids.length+jV x.kids)+(x.sub.length+wE x.sub):=by
  cases x; simp only [gJ]
theorem aP4:∀ l:List dU,(l.flatMap (fun i=>if i.star then [] else [i.expr])).length≤l.length
  | []=>by simp
  | x::l=>by
    have:=aP4 l
    rw [WB,QN]
    have h1:(if x.star=true then [] else [x.expr]).length≤1:=by cases x.star <;> simp
    simp only [QT]; omega
theorem aOt:∀ l:List bZ,(l.flatMap (fun s=>s.on_)).length≤wR l
  | []=>by simp
  | ⟨a,b,c⟩::l=>by
    have:=aOt l
    rw [WB,QN]
    simp only [wR,aCg]; omega
theorem aOk:∀ l:List eH,(l.flatMap (fun k=>[k.expr])).length=l.length
  | []=>by simp
  | x::l=>by rw [WB,QN,aOk l]; simp; omega
theorem aVc (q:aV) (hz:mW q≤1048576):aCe q=some (gH q):=by
  have h:=zQ q
  have h1:=aP4 q.items
  have h2:=aOt q.from_
  have h3:=aOk q.order
  have app:∀ {l m:List aL},l.length+m.length≤1048576→appG 136 l m=some (l++m):=fun h=>iP (by omega)
  unfold aCe
  rw [gather (p:=q.items) (f:=fun i=>if i.star then [] else [i.expr]) (c:=1048576) (G:=fun y acc=>if (!y.star)=true then appG 136 acc [y.expr] else some acc) (L:=fun acc i=>aHh q acc i) (K:=fun acc=>aAk q acc 0) (by omega) ?_ ?_ [] (by simp only [QU,XJ]; omega)]
  rw [gather (p:=q.from_) (f:=fun s=>s.on_) (c:=1048576) (G:=fun y acc=>appG 136 acc y.on_) (L:=fun acc i=>aAk q acc i) (K:=fun acc=>(appG 136 acc q.where_)>>=fun y7=>X9 q y7 0) (by omega) ?_ ?_ _ (by simp only [QN,QU]; omega)]
  rw [app (by simp only [QN,QU]; omega)]
  simp only [QB,QA]
  rw [gather (p:=q.order) (f:=fun k=>[k.expr]) (c:=1048576) (G:=fun y acc=>appG 136 acc [y.expr]) (L:=fun acc i=>X9 q acc i) (K:=fun acc=>some acc) (by omega) ?_ ?_ _ (by simp only [QN,QU]; omega)]
  · simp [gH]
  · intro y _ acc ha; exact app ha
  · intro i acc; rw [X9]
  · intro y _ acc ha; exact app ha
  · intro i acc; rw [aAk]
  · intro y _ acc ha
    cases hs:y.star
    · simp only [hs,QF,if_true] at ha ⊢; exact app ha
    · simp
  · intro i acc
    rw [aHh]
    simp only [aGk]
    split
    · simp only [QB]
      cases idx q.items (i:Int) with
      | none=>rfl
      | some y=>by_cases hs:y.star=true <;> simp [hs]
    · rfl
theorem aQk (q:aV) (hz:mW q≤1048576):aEi q=some (gH q):=by
  have h:=zQ q
  have h1:=aP4 q.items
  have h2:=aOt q.from_
  have h3:=aOk q.order
  have app:∀ {l m:List aL},l.length+m.length≤1048576→appG 136 l m=some (l++m):=fun h=>iP (by omega)
  unfold aEi
  rw [gather (p:=q.items) (f:=fun i=>if i.star then [] else [i.expr]) (c:=1048576) (G:=fun y acc=>if (!y.star)=true then appG 136 acc [y.expr] else some acc) (L:=fun acc i=>aF8 q acc i) (K:=fun acc=>aBc q acc 0) (by omega) ?_ ?_ [] (by simp only [QU,XJ]; omega)]
  rw [gather (p:=q.from_) (f:=fun s=>s.on_) (c:=1048576) (G:=fun y acc=>appG 136 acc y.on_) (L:=fun acc i=>aBc q acc i) (K:=fun acc=>(appG 136 acc q.where_)>>=fun y7=>Y0 q y7 0) (by omega) ?_ ?_ _ (by simp only [QN,QU]; omega)]
  rw [app (by simp only [QN,QU]; omega)]
  simp only [QB,QA]
  rw [gather (p:=q.order) (f:=fun k=>[k.expr]) (c:=1048576) (G:=fun y acc=>appG 136 acc [y.expr]) (L:=fun acc i=>Y0 q acc i) (K:=fun acc=>some acc) (by omega) ?_ ?_ _ (by simp only [QN,QU]; omega)]
  · simp [gH]
  · intro y _ acc ha; exact app ha
  · intro i acc; rw [Y0]
  · intro y _ acc ha; exact app ha
  · intro i acc; rw [aBc]
  · intro y _ acc ha
    cases hs:y.star
    · simp only [hs,QF,if_true] at ha ⊢; exact app ha
    · simp
  · intro i acc
    rw [aF8]
    simp only [aF0]
    split
    · simp only [QB]
      cases idx q.items (i:Int) with
      | none=>rfl
      | some y=>by_cases hs:y.star=true <;> simp [hs]
    · rfl
theorem aHk {x:aL}:∀ {l:List aL},x ∈ l→gJ x<l.length+jV l
  | y::l,h=>by
    simp only [jV,QT]
    rcases WF.1 h with rfl | h
    · omega
    · have:=aHk h; omega
theorem aPg {x:aV}:∀ {l:List aV},x ∈ l→mW x<l.length+wE l
  | y::l,h=>by
    simp only [wE,QT]
    rcases WF.1 h with rfl | h
    · omega
    · have:=aPg h; omega
theorem bKk {x:dU}:∀ {l:List dU},x ∈ l→aCf x<l.length+yY l
  | y::l,h=>by
    simp only [yY,QT]
    rcases WF.1 h with rfl | h
    · omega
    · have:=bKk h; omega
theorem bKe {x:bZ}:∀ {l:List bZ},x ∈ l→aCg x<l.length+wR l
  | y::l,h=>by
    simp only [wR,QT]
    rcases WF.1 h with rfl | h
    · omega
    · have:=bKe h; omega
theorem bHd {x:eH}:∀ {l:List eH},x ∈ l→aHc x<l.length+zA l
  | y::l,h=>by
    simp only [zA,QT]
    rcases WF.1 h with rfl | h
    · omega
    · have:=bHd h; omega
theorem aMa (q:aV):(gH q).length≤mW q:=by
  have h:=zQ q
  have h1:=aP4 q.items
  have h2:=aOt q.from_
  have h3:=aOk q.order
  simp only [gH,QN]; omega
theorem M4 {q:aV} {x:aL} (hx:x ∈ gH q):gJ x<mW q:=by
  have h:=zQ q
  simp only [gH,QZ,WY] at hx
  rcases hx with ((⟨i,hi,hx⟩ | ⟨s,hs,hx⟩) | hx) | ⟨k,hk,hx⟩
  · have h1:=bKk hi
    have:x=i.expr:=by
      cases hst:i.star <;> simp [hst] at hx
      exact hx
    subst this
    have:gJ i.expr≤aCf i:=by obtain ⟨a,b,c,d⟩:=i; simp only [aCf]; omega
    omega
  · have h1:=bKe hs
    have h2:=aHk hx
    have:s.on_.length+jV s.on_≤aCg s:=by obtain ⟨a,b,c⟩:=s; simp only [aCg]; omega
    omega
  · have h2:=aHk hx
    omega
  · have h1:=bHd hk
    have:x=k.expr:=by simpa using hx
    subst this
    have:gJ k.expr≤aHc k:=by obtain ⟨a,b⟩:=k; simp only [aHc]; omega
    omega
theorem aN3 {α:Type} (z:α→Nat) (l m:List α):((l++m).map z).sum=(l.map z).sum+(m.map z).sum:=by simp
theorem bCw (q:aV):(gH q).length+((gH q).map gJ).sum≤mW q:=by
  have h:=zQ q
  have h1:∀ l:List dU,(l.flatMap (fun i=>if i.star then [] else [i.expr])).length+((l.flatMap (fun i=>if i.star then [] else [i.expr])).map gJ).sum≤l.length+yY l:=by
    intro l
    induction l with
    | nil=>simp
    | cons x l ih =>
      rw [WB,QN,aN3]
      have h1:(if x.star=true then [] else [x.expr]).length+((if x.star=true then [] else [x.expr]).map gJ).sum≤1+aCf x:=by
        obtain ⟨a,b,c,d⟩:=x
        cases a <;> simp [aCf] <;> omega
      simp only [QT,yY]; omega
  have h2:∀ l:List bZ,(l.flatMap (fun s=>s.on_)).length+((l.flatMap (fun s=>s.on_)).map gJ).sum≤l.length+wR l:=by
    intro l
    induction l with
    | nil=>simp
    | cons x l ih =>
      rw [WB,QN,aN3]
      obtain ⟨a,b,c⟩:=x
      simp only [QT,wR,aCg,aPy]; omega
  have h3:∀ l:List eH,(l.flatMap (fun k=>[k.expr])).length+((l.flatMap (fun k=>[k.expr])).map gJ).sum≤l.length+zA l:=by
    intro l
    induction l with
    | nil=>simp
    | cons x l ih =>
      rw [WB,QN,aN3]
      obtain ⟨a,b⟩:=x
      simp only [QT,QU,QY,WO,WA,WP,zA,aHc]; omega
  have k1:=h1 q.items
  have k2:=h2 q.from_
  have k3:=h3 q.order
  have k4:=aPy q.where_
  simp only [gH,QN,aN3]
  omega
theorem aHv {α:Type} {d:α→Int}:∀ {p:List α} {b:Int},0≤b→(∀ y ∈ p,0≤d y)→b+(p.map d).sum≤4611686018427387904→p.foldl (fun b y=>QC .i64 (b+d y)) b=b+(p.map d).sum
  | [],b,_,_,_=>by simp
  | x::p,b,h0,h1,h2=>by
    simp only [QY,WA] at h2 ⊢
    have hx:=h1 x (by simp)
    have hs:0≤(p.map d).sum:=by
      have:∀ l:List α,(∀ y ∈ l,0≤d y)→0≤(l.map d).sum:=by
        intro l
        induction l with
        | nil=>intro _; simp
        | cons a l ih=>intro h; simp only [QY,WA]; have:=h a (by simp); have:=ih fun y hy=>h y (by simp [hy]); omega
      exact this p fun y hy=>h1 y (by simp [hy])
    rw [WX,eX (by omega) (by omega),aHv (by omega) (fun y hy=>h1 y (by simp [hy])) (by omega)]
    omega
theorem aI2 {α:Type} {d:α→Int} {z:α→Nat}:∀ {p:List α},(∀ y ∈ p,0≤d y∧d y≤1+z y)→0≤(p.map d).sum∧(p.map d).sum≤p.length+(p.map z).sum
  | [],_=>by simp
  | x::p,h=>by
    have h1:=h x (by simp)
    have h2:=aI2 (p:=p) fun y hy=>h y (by simp [hy])
    simp only [QY,WA,QT]; omega
theorem bJr {α:Type} {d:α→Int} {z:α→Nat}:∀ {p:List α},(∀ y ∈ p,0≤d y∧d y≤z y)→0≤(p.map d).sum∧(p.map d).sum≤(p.map z).sum
  | [],_=>by simp
  | x::p,h=>by
    have h1:=h x (by simp)
    have h2:=bJr (p:=p) fun y hy=>h y (by simp [hy])
    simp only [QY,WA]; omega
theorem aGu (s:List UInt8):∃ b,lZ s=some b∧Z5 s=some b:=by
  obtain ⟨b,h1,h2⟩:=H9 s
  unfold lZ Z5
  by_cases h:s=[]
  · simp [h]
  · simp [h,h1,h2]
def aK3 (x:aL):Option Bool:=(Y4 x.kids)>>=fun (y13:Bool)=>(if (true&&(y13==true))=true then aCb x.sub else some default)>>=fun (y14:Bool)=>(some (if y13=true then (!y14) else false))>>=fun (y15:Bool)=>some y15
theorem orM {β:Type} {b:Bool} {m:Option Bool} {K:Bool→Option β}:((if (true&&(b==false))=true then m else some (default:Bool)).bind fun y=>(some (if b=true then true else y)).bind K)=((if b=true then some true else m).bind K):=by cases b <;> cases m <;> rfl
theorem orS (b c:Bool):(if b=true then some true else some c)=some (b||c):=by cases b <;> rfl
theorem bSz (x : aL) (f : mJ) (ok : Bool) (hf : D5 x = some (f, ok)) : wY x =
    if (ok&&!(!f.op&&!decide (x.op=0))&&!(!f.not_&&x.not_)&&!(!f.value&&!((decide (x.value.kind=0))&&((decide (x.value.num=0))&&((decide (x.value.text=[]))&&true))))&&!(!f.name&&(!decide (x.qual=[])||!decide (x.name=[])))&&!(decide ((x.kids.length:Int)<f.least)||decide (f.most<(x.kids.length:Int))||!decide ((x.sub.length:Int)=f.subs)))=true then aK3 x else some false:=by
  rw [wY,hf]
  simp only [QB]
  rw [show ∀ K:mJ×Bool→Option Bool,(some (f,ok)).bind K=K (f,ok) from fun _=>rfl]
  simp only [orM]
  simp only [aGq,orB,orS]
  simp only [QA,aK3,QB]
  generalize ((decide (x.value.kind=0))&&((decide (x.value.num=0))&&((decide (x.value.text=[]))&&true)))=zv
  generalize (!f.op&&!decide (x.op=0))=p1
  generalize (!f.not_&&x.not_)=p2
  generalize (!f.value&&!zv)=p3
  generalize (!decide (x.qual=[])||!decide (x.name=[]))=p4
  generalize f.name=fm
  generalize (decide ((x.kids.length:Int)<f.least)||decide (f.most<(x.kids.length:Int))||!decide ((x.sub.length:Int)=f.subs))=l3
  cases ok <;> cases p1 <;> cases p2 <;> cases p3 <;> cases fm <;> cases p4 <;> cases l3 <;> simp
theorem aR8 (x : aL) : qH x = (if ((!decide (x.kind = 2) && (!decide (x.qual = []) || !decide (x.name = []))) || (!decide (x.kind = 1) && !zvE x)) = true then some false else
    if ((!decide (x.kind=3)&&!decide (x.kind=4))&&!decide (x.op=0)||(x.not_&&!(decide (5≤x.kind)&&decide (x.kind≤8))))=true then some false else
    (if (decide (x.kind=1))=true then ((M3 x.value)>>=fun (y10:Bool)=>some (y10&&decide ((QC .i64 ((x.kids.length:Int)+(x.sub.length:Int)))=0)))
     else if (decide (x.kind=2))=true then ((lX x.name)>>=fun (y12:Bool)=>(if y12=true then lZ x.qual else some false)>>=fun (y14:Bool)=>some (y14&&decide ((QC .i64 ((x.kids.length:Int)+(x.sub.length:Int)))=0)))
     else some (if x.kind=3 then (decide (x.op=15)||decide (x.op=16))&&decide ((x.kids.length:Int)=1)&&decide ((x.sub.length:Int)=0)
      else if x.kind=4 then (decide (1≤x.op)&&decide (x.op≤14))&&decide ((x.kids.length:Int)=2)&&decide ((x.sub.length:Int)=0)
      else if x.kind=5 then decide ((x.kids.length:Int)=1)&&decide ((x.sub.length:Int)=0)
      else if x.kind=6 then decide ((x.kids.length:Int)=3)&&decide ((x.sub.length:Int)=0)
      else if x.kind=7 then (decide (2≤(x.kids.length:Int))&&decide ((x.kids.length:Int)≤9))&&decide ((x.sub.length:Int)=0)
      else if x.kind=8 then decide ((x.kids.length:Int)=1)&&decide ((x.sub.length:Int)=1)
      else if x.kind=9 then decide ((x.kids.length:Int)=0)&&decide ((x.sub.length:Int)=1)
      else false))):=by
  unfold qH iX
  simp only [QB]
  simp only [QA]
  simp only [aGq,orB]
  obtain ⟨k,o,no,v,q,nm,ks,sb⟩:=x
  obtain ⟨bl,l1,l2⟩:=aMx v
  obtain ⟨bn,n1,n2⟩:=H9 nm
  obtain ⟨bq,q1,q2⟩:=aGu q
  have hz:zvE ⟨k,o,no,v,q,nm,ks,sb⟩=((decide (v.kind=0))&&((decide (v.num=0))&&((decide (v.text=[]))&&true))):=rfl
  simp only [l1,n1,q1,hz,QA]
  generalize ((decide (v.kind=0))&&((decide (v.num=0))&&((decide (v.text=[]))&&true)))=zv
  generalize decide (q=[])=q0
  generalize decide (nm=[])=n0
  by_cases k1:k=1
  · subst k1; cases q0 <;> cases n0 <;> cases no <;> by_cases o0:o=0 <;> cases bl <;> simp [o0]
  by_cases k2:k=2
  · subst k2; cases zv <;> cases no <;> by_cases o0:o=0 <;> cases bn <;> simp [o0]
  by_cases k3:k=3
  · subst k3; cases q0 <;> cases n0 <;> cases zv <;> cases no <;> simp
  by_cases k4:k=4
  · subst k4; cases q0 <;> cases n0 <;> cases zv <;> cases no <;> simp
  have kk:¬ (k=3∨k=4):=by omega
  by_cases k5:k=5
  · subst k5; cases q0 <;> cases n0 <;> cases zv <;> cases no <;> by_cases o0:o=0 <;> simp [o0]
  by_cases k6:k=6
  · subst k6; cases q0 <;> cases n0 <;> cases zv <;> cases no <;> by_cases o0:o=0 <;> simp [o0]
  by_cases k7:k=7
  · subst k7; cases q0 <;> cases n0 <;> cases zv <;> cases no <;> by_cases o0:o=0 <;> simp [o0]
  by_cases k8:k=8
  · subst k8; cases q0 <;> cases n0 <;> cases zv <;> cases no <;> by_cases o0:o=0 <;> simp [o0]
  by_cases k9:k=9
  · subst k9; cases q0 <;> cases n0 <;> cases zv <;> cases no <;> by_cases o0:o=0 <;> simp [o0]
  have kr:(decide (5≤k)&&decide (k≤8))=false:=by
    by_cases h:5≤k
    · have:¬ k≤8:=by omega
      simp [this]
    · simp [h]
  cases q0 <;> cases n0 <;> cases zv <;> cases no <;> by_cases o0:o=0 <;> simp [o0,k1,k2,k3,k4,k5,k6,k7,k8,k9]
theorem cAj (x:aL) (hk:x.kids.length≤1048576) (hs:x.sub.length≤1048576):∃ b,qH x=some b∧(wY x=if b=true then aK3 x else some false)∧(b=true→x.sub.length≤1):=by
  obtain ⟨bl,l1,l2⟩:=aMx x.value
  obtain ⟨bn,n1,n2⟩:=H9 x.name
  obtain ⟨bq,q1,q2⟩:=aGu x.qual
  have hc:(lX x.name>>=fun (y12:Bool)=>(if y12=true then lZ x.qual else some false))=some (bn&&bq):=by
    rw [n1,q1]; cases bn <;> rfl
  have hw:QC .i64 ((x.kids.length:Int)+(x.sub.length:Int))=(x.kids.length:Int)+(x.sub.length:Int):=eX (by omega) (by omega)
  have hF:=bGv x bl (bn&&bq) l2 hc
  obtain ⟨f,ok,hfo⟩:∃ f ok,D5 x=some (f,ok):=⟨_,_,hF⟩
  have hi:=bSz x f ok hfo
  rw [hfo] at hF
  have hp:=aR8 x
  rw [l1,hw] at hp
  have hc2:((lX x.name)>>=fun (y12:Bool)=>(if y12=true then lZ x.qual else some false)>>=fun (y14:Bool)=>some (y14&&decide ((x.kids.length:Int)+(x.sub.length:Int)=0)))=some ((bn&&bq)&&decide ((x.kids.length:Int)+(x.sub.length:Int)=0)):=by
    rw [n1,q1]; cases bn <;> rfl
  rw [hc2] at hp
  rw [hp,hi]
  have hz:((decide (x.value.kind=0))&&((decide (x.value.num=0))&&((decide (x.value.text=[]))&&true)))=zvE x:=rfl
  rw [hz]
  obtain ⟨k,o,no,v,q,nm,ks,sb⟩:=x
  generalize zvE ⟨k,o,no,v,q,nm,ks,sb⟩=zv
  dsimp only at hk hs hF ⊢
  generalize decide (q=[])=q0
  generalize decide (nm=[])=n0
  generalize (bn&&bq)=bc at hF ⊢
  clear hi hp hc hc2 hw hz l1 l2 n1 n2 q1 q2 hfo
  generalize aK3 _=R
  have b2i:∀ (a b:Bool),a=b→∀ (c:Prop),(a=true→c)→∃ b',(some a:Option Bool)=some b'∧(if b=true then R else some false)=(if b'=true then R else some false)∧(b'=true→c):=by
    rintro a b rfl c h; exact ⟨a,rfl,rfl,h⟩
  have lt0:decide ((ks.length:Int)<0)=false:=by simp
  have hif:∀ (a b:Bool) (X:Bool),(if a=true then some false else if b=true then some false else some X)=some (!a&&(!b&&X)):=by intro a b X; cases a <;> cases b <;> rfl
  have e2:(decide ((0:Int)<(ks.length:Int))||!decide ((sb.length:Int)=0))=!decide ((ks.length:Int)+(sb.length:Int)=0):=by rw [QW]; simp only [WW,WE,decide_eq_true_eq,decide_eq_false_iff_not]; omega
  have eN:∀ n:Int,(decide ((ks.length:Int)<n)||decide (n<(ks.length:Int)))=!decide ((ks.length:Int)=n):=fun n=>by rw [QW]; simp only [WW,WE,decide_eq_true_eq,decide_eq_false_iff_not]; omega
  have e4:(decide ((ks.length:Int)<2)||decide ((9:Int)<(ks.length:Int)))=!(decide (2≤(ks.length:Int))&&decide ((ks.length:Int)≤9)):=by rw [QW]; simp only [WW,WE,Bool.and_eq_false_iff,decide_eq_true_eq,decide_eq_false_iff_not]; omega
  have e0:decide ((0:Int)<(ks.length:Int))=!decide ((ks.length:Int)=0):=by rw [QW]; simp only [WE,decide_eq_true_eq,decide_eq_false_iff_not]; omega
  by_cases k1:k=1
  · subst k1
    simp only [Int.reduceEq,if_true,if_false,QJ,Prod.mk.injEq] at hF
    obtain ⟨rfl,hok⟩:=hF
    rw [hok]
    simp only [Int.reduceEq,decide_true,decide_false,QF,QE,QG,QI,QH,if_true,if_false,QD,QO,QB,QA,Int.reduceLE]
    try dsimp only
    try simp only [Int.reduceEq,decide_true,decide_false,QF,QE,QG,QI,QH,QK,if_true,if_false,QD,QO,QL,QQ,QR,reduceIte,QB,QA,Int.reduceLE,Int.reduceLT]
    simp only [lt0,QL,e2,hif]
    try simp only [e0]
    refine b2i _ _ ?_ _ ?_
    · generalize decide ((ks.length:Int)+(sb.length:Int)=0)=t0
      generalize decide (o=0)=o0
      cases q0 <;> cases n0 <;> cases o0 <;> cases no <;> cases bl <;> cases t0 <;> rfl
    · intro h
      simp only [QP,decide_eq_true_eq] at h
      omega
  by_cases k2:k=2
  · subst k2
    simp only [Int.reduceEq,if_true,if_false,QJ,Prod.mk.injEq] at hF
    obtain ⟨rfl,hok⟩:=hF
    rw [hok]
    simp only [Int.reduceEq,decide_true,decide_false,QF,QE,QG,QI,QH,if_true,if_false,QD,QL,QB,QA,Int.reduceLE]
    try dsimp only
    try simp only [Int.reduceEq,decide_true,decide_false,QF,QE,QG,QI,QH,QK,if_true,if_false,QD,QO,QL,QQ,QR,reduceIte,QB,QA,Int.reduceLE,Int.reduceLT]
    simp only [lt0,QL,e2,hif]
    try simp only [e0]
    refine b2i _ _ ?_ _ ?_
    · generalize decide ((ks.length:Int)+(sb.length:Int)=0)=t0
      generalize decide (o=0)=o0
      cases zv <;> cases o0 <;> cases no <;> cases bc <;> cases t0 <;> rfl
    · intro h
      simp only [QP,decide_eq_true_eq] at h
      omega
  by_cases k3:k=3
  · subst k3
    simp only [Int.reduceEq,if_true,if_false,QJ,Prod.mk.injEq] at hF
    obtain ⟨rfl,hok⟩:=hF
    rw [hok]
    simp only [Int.reduceEq,decide_true,decide_false,QF,QE,QG,QI,QH,if_true,if_false,QD,QL,QB,QA,Int.reduceLE]
    try dsimp only
    try simp only [Int.reduceEq,decide_true,decide_false,QF,QE,QG,QI,QH,QK,if_true,if_false,QD,QO,QL,QQ,QR,reduceIte,QB,QA,Int.reduceLE,Int.reduceLT]
    simp only [eN,hif]
    try simp only [e0]
    refine b2i _ _ ?_ _ ?_
    · generalize decide ((sb.length:Int)=0)=s0
      generalize decide (o=15)=o15
      generalize decide (o=16)=o16
      generalize decide ((ks.length:Int)=1)=c1
      cases q0 <;> cases n0 <;> cases zv <;> cases no <;> cases o15 <;> cases o16 <;> cases c1 <;> cases s0 <;> rfl
    · intro h
      simp only [QP,decide_eq_true_eq] at h
      omega
  by_cases k4:k=4
  · subst k4
    simp only [Int.reduceEq,if_true,if_false,QJ,Prod.mk.injEq] at hF
    obtain ⟨rfl,hok⟩:=hF
    rw [hok]
    simp only [Int.reduceEq,decide_true,decide_false,QF,QE,QG,QI,QH,QK,if_true,if_false,QD,QL,QB,QA,Int.reduceLE]
    try dsimp only
    try simp only [Int.reduceEq,decide_true,decide_false,QF,QE,QG,QI,QH,QK,if_true,if_false,QD,QO,QL,QQ,QR,reduceIte,QB,QA,Int.reduceLE,Int.reduceLT]
    simp only [eN,hif]
    try simp only [e0]
    refine b2i _ _ ?_ _ ?_
    · generalize decide ((sb.length:Int)=0)=s0
      generalize decide (1≤o)=oa
      generalize decide (o≤14)=ob
      generalize decide ((ks.length:Int)=2)=c2
      cases q0 <;> cases n0 <;> cases zv <;> cases no <;> cases oa <;> cases ob <;> cases c2 <;> cases s0 <;> rfl
    · intro h
      simp only [QP,decide_eq_true_eq] at h
      omega
  by_cases k5:k=5
  · subst k5
    simp only [Int.reduceEq,if_true,if_false,QJ,Prod.mk.injEq] at hF
    obtain ⟨rfl,hok⟩:=hF
    rw [hok]
    simp only [Int.reduceEq,decide_true,decide_false,QF,QE,QG,QI,QH,QK,if_true,if_false,QD,QO,QB,QA,Int.reduceLE]
    try dsimp only
    try simp only [Int.reduceEq,decide_true,decide_false,QF,QE,QG,QI,QH,QK,if_true,if_false,QD,QO,QL,QQ,QR,reduceIte,QB,QA,Int.reduceLE,Int.reduceLT]
    simp only [eN,hif]
    try simp only [e0]
    refine b2i _ _ ?_ _ ?_
    · generalize decide ((sb.length:Int)=0)=s0
      generalize decide (o=0)=o0
      generalize decide ((ks.length:Int)=1)=c1
      cases q0 <;> cases n0 <;> cases zv <;> cases no <;> cases o0 <;> cases c1 <;> cases s0 <;> rfl
    · intro h
      simp only [QP,decide_eq_true_eq] at h
      omega
  by_cases k6:k=6
  · subst k6
    simp only [Int.reduceEq,if_true,if_false,QJ,Prod.mk.injEq] at hF
    obtain ⟨rfl,hok⟩:=hF
    rw [hok]
    simp only [Int.reduceEq,decide_true,decide_false,QF,QE,QG,QI,QH,QK,if_true,if_false,QD,QO,QB,QA,Int.reduceLE]
    try dsimp only
    try simp only [Int.reduceEq,decide_true,decide_false,QF,QE,QG,QI,QH,QK,if_true,if_false,QD,QO,QL,QQ,QR,reduceIte,QB,QA,Int.reduceLE,Int.reduceLT]
    simp only [eN,hif]
    try simp only [e0]
    refine b2i _ _ ?_ _ ?_
    · generalize decide ((sb.length:Int)=0)=s0
      generalize decide (o=0)=o0
      generalize decide ((ks.length:Int)=3)=c3
      cases q0 <;> cases n0 <;> cases zv <;> cases no <;> cases o0 <;> cases c3 <;> cases s0 <;> rfl
    · intro h
      simp only [QP,decide_eq_true_eq] at h
      omega
  by_cases k7:k=7
  · subst k7
    simp only [Int.reduceEq,if_true,if_false,QJ,Prod.mk.injEq] at hF
    obtain ⟨rfl,hok⟩:=hF
    rw [hok]
    simp only [Int.reduceEq,decide_true,decide_false,QF,QE,QG,QI,QH,QK,if_true,if_false,QD,QO,QB,QA,Int.reduceLE]
    try dsimp only
    try simp only [Int.reduceEq,decide_true,decide_false,QF,QE,QG,QI,QH,QK,if_true,if_false,QD,QO,QL,QQ,QR,reduceIte,QB,QA,Int.reduceLE,Int.reduceLT]
    simp only [e4,hif]
    try simp only [e0]
    refine b2i _ _ ?_ _ ?_
    · generalize decide ((sb.length:Int)=0)=s0
      generalize decide (o=0)=o0
      generalize (decide (2≤(ks.length:Int))&&decide ((ks.length:Int)≤9))=c29
      cases q0 <;> cases n0 <;> cases zv <;> cases no <;> cases o0 <;> cases c29 <;> cases s0 <;> rfl
    · intro h
      simp only [QP,decide_eq_true_eq] at h
      omega
  by_cases k8:k=8
  · subst k8
    simp only [Int.reduceEq,if_true,if_false,QJ,Prod.mk.injEq] at hF
    obtain ⟨rfl,hok⟩:=hF
    rw [hok]
    simp only [Int.reduceEq,decide_true,decide_false,QF,QE,QG,QI,QH,QK,if_true,if_false,QD,QO,QB,QA,Int.reduceLE]
    try dsimp only
    try simp only [Int.reduceEq,decide_true,decide_false,QF,QE,QG,QI,QH,QK,if_true,if_false,QD,QO,QL,QQ,QR,reduceIte,QB,QA,Int.reduceLE,Int.reduceLT]
    simp only [eN,hif]
    try simp only [e0]
    refine b2i _ _ ?_ _ ?_
    · generalize decide ((sb.length:Int)=1)=s1
      generalize decide (o=0)=o0
      generalize decide ((ks.length:Int)=1)=c1
      cases q0 <;> cases n0 <;> cases zv <;> cases no <;> cases o0 <;> cases c1 <;> cases s1 <;> rfl
    · intro h
      simp only [QP,decide_eq_true_eq] at h
      omega
  by_cases k9:k=9
  · subst k9
    simp only [Int.reduceEq,if_true,if_false,QJ,Prod.mk.injEq] at hF
    obtain ⟨rfl,hok⟩:=hF
    rw [hok]
    simp only [Int.reduceEq,decide_true,decide_false,QF,QG,QH,QK,if_true,if_false,QD,QB,QA,Int.reduceLE]
    try dsimp only
    try simp only [Int.reduceEq,decide_true,decide_false,QF,QE,QG,QI,QH,QK,if_true,if_false,QD,QO,QL,QQ,QR,reduceIte,QB,QA,Int.reduceLE,Int.reduceLT]
    simp only [lt0,QL,hif]
    try simp only [e0]
    refine b2i _ _ ?_ _ ?_
    · generalize decide ((sb.length:Int)=1)=s1
      generalize decide (o=0)=o0
      generalize decide ((ks.length:Int)=0)=c0
      cases q0 <;> cases n0 <;> cases zv <;> cases no <;> cases o0 <;> cases c0 <;> cases s1 <;> rfl
    · intro h
      simp only [QP,decide_eq_true_eq] at h
      omega
  simp only [k1,k2,k3,k4,k5,k6,k7,k8,k9,if_false,QJ,Prod.mk.injEq] at hF
  obtain ⟨rfl,hok⟩:=hF
  rw [hok]
  simp only [k1,k2,k3,k4,k5,k6,k7,k8,k9,decide_false,QF,QG,QD,if_false,ite_self,QI]
  exact ⟨false,rfl,by simp,by simp⟩
theorem bTt:rA=lX:=by
  funext s
  obtain ⟨b,h1,h2⟩:=H9 s
  rw [h1,h2]
theorem bK0:Z5=lZ:=by
  funext s
  obtain ⟨b,h1,h2⟩:=aGu s
  rw [h1,h2]
theorem bIu (x:aL):aFz x=zR x (aL.mk 0 0 false (bH.mk 0 0 []) [] [] [] [])∧∃ b,zR x (aL.mk 0 0 false (bH.mk 0 0 []) [] [] [] [])=some b:=by
  unfold aFz
  rw [aDi,zR]
  have ek:aDc x.kids []=some (decide (x.kids=[])):=by
    rw [aDc,aNf]
    by_cases h:x.kids=[]
    · rw [h,aFj]; simp
    · have : ¬ (x.kids.length : Int) = 0 := by
        have:=WZ.2 h; omega
      simp [h]
  have es:aL6 x.sub []=some (decide (x.sub=[])):=by
    rw [aL6]
    by_cases h:x.sub=[]
    · rw [h,aHy]; simp
    · simp [h]
  have fk:K6 x.kids []=some (decide (x.kids=[])):=by
    rw [K6]
    by_cases h:x.kids=[]
    · rw [h,aH8]; simp
    · simp [h]
  simp only [ek,es,fk,QB,QA]
  have hz:((decide (x.value.kind=0))&&((decide (x.value.num=0))&&((decide (x.value.text=[]))&&true)))=zvE x:=rfl
  rw [hz]
  have l0:x.sub=[]→aFg x (aL.mk 0 0 false (bH.mk 0 0 []) [] [] [] []) 0=some true:=by
    intro h; rw [aFg]; simp [h]
  have hl:decide ((x.sub.length:Int)=(([]:List aV).length:Int))=decide (x.sub=[]):=by
    by_cases h:x.sub=[]
    · simp [h]
    · simp [h]
  rw [hl]
  by_cases hs:x.sub=[]
  · rw [l0 hs]
    simp only [hs,decide_true]
    generalize zvE x=zv
    generalize decide (x.kind=0)=b1
    generalize decide (x.op=0)=b2
    generalize decide (x.qual=[])=b3
    generalize decide (x.name=[])=b4
    generalize decide (x.kids=[])=b5
    generalize x.not_=b6
    cases b1 <;> cases b2 <;> cases b6 <;> cases zv <;> cases b3 <;> cases b4 <;> cases b5 <;> simp
  · simp only [hs,decide_false]
    generalize zvE x=zv
    generalize decide (x.kind=0)=b1
    generalize decide (x.op=0)=b2
    generalize decide (x.qual=[])=b3
    generalize decide (x.name=[])=b4
    generalize decide (x.kids=[])=b5
    generalize x.not_=b6
    cases b1 <;> cases b2 <;> cases b6 <;> cases zv <;> cases b3 <;> cases b4 <;> cases b5 <;> simp
theorem bYj:aFz=fun x=>zR x (aL.mk 0 0 false (bH.mk 0 0 []) [] [] [] []):=funext fun x=>(bIu x).1
theorem bDg (l:List aL) (d:aL→Bool) (hl:l.length≤1048576) (H:∀ y ∈ l,wY y=some (d y)):Y4 l=some (l.all d):=by
  have key:∀ i,i≤l.length→∃ k:Int,aE5 l (i:Nat)=some k∧(!decide (0≤k))=(l.drop i).all d:=by
    refine eO ?_ ?_
    · rw [aE5]
      exact ⟨-1,by simp,by simp⟩
    · intro i hi ih
      rw [aE5,QX hi]
      simp only [dD,bX hi,dX hi (by omega),hi,decide_true,if_true,aNo,H _ (QM hi),QB,QA,WM]
      cases hd:d l[i] with
      | true=>simpa using ih
      | false=>exact ⟨(i:Int),by simp,by simp⟩
  obtain ⟨k,h1,h2⟩:=key 0 (by omega)
  rw [show ((0:Nat):Int)=0 from rfl] at h1
  rw [Y4,aRq,aPn,h1]
  simpa using h2
theorem bEp (l:List aL) (d:aL→Bool) (hl:l.length≤1048576) (H:∀ y ∈ l,lU y=some (d y)):zV l 0=some (l.all d):=by
  have key:∀ i,i≤l.length→zV l (i:Nat)=some ((l.drop i).all d):=by
    refine eO ?_ ?_
    · rw [zV]; simp
    · intro i hi ih
      rw [zV,QX hi]
      simp only [dD,bX hi,dX hi (by omega),hi,decide_true,if_true,H _ (QM hi),QB,QA,WM]
      cases hd:d l[i] with
      | true=>simpa using ih
      | false=>simp
  simpa using key 0 (by omega)
theorem bLt (q:aV) (d:aL→Bool) (hz:mW q≤1048576) (H:∀ y ∈ gH q,lU y=some (d y)∧wY y=some (d y)):aCz q=uR q∧∃ b,uR q=some b:=by
  have hq:=zQ q
  have hle:=aMa q
  have e2:∃ b,zV (gH q) 0=some b∧Y4 (gH q)=some b:=⟨_,bEp _ d (by omega) fun y hy=>(H y hy).1,bDg _ d (by omega) fun y hy=>(H y hy).2⟩
  obtain ⟨b2,r2,f2⟩:=e2
  have e1:∀ i,i≤q.from_.length→aDh q (i:Nat)=yI q (i:Nat)∧∃ b,yI q (i:Nat)=some b:=by
    refine eO ?_ ?_
    · rw [aDh,yI]
      simp [aVc q hz,aQk q hz,r2,f2]
    · intro i hi ih
      obtain ⟨ih1,b,ih2⟩:=ih
      rw [aDh,yI]
      obtain ⟨bn,n1,_⟩:=H9 q.from_[i].table
      obtain ⟨ba,m1,_⟩:=aGu q.from_[i].as_
      simp only [bTt,bK0,dD,bX hi,dX hi (by omega),hi,decide_true,if_true,n1,m1,ih1,ih2,QB,QA]
      refine ⟨trivial,?_⟩
      generalize decide ((1:Int)<(q.from_[i].on_.length:Int))=c1
      generalize decide ((i:Int)=0)=c2
      generalize decide ((0:Int)<(q.from_[i].on_.length:Int))=c3
      cases bn <;> cases ba <;> cases c1 <;> cases c2 <;> cases c3 <;> exact ⟨_,rfl⟩
  have e0:∀ i,i≤q.items.length→aE3 q (i:Nat)=yK q (i:Nat)∧∃ b,yK q (i:Nat)=some b:=by
    refine eO ?_ ?_
    · rw [aE3,yK]
      simpa using e1 0 (by omega)
    · intro i hi ih
      obtain ⟨ih1,b,ih2⟩:=ih
      rw [aE3,yK]
      obtain ⟨bq,m1,_⟩:=aGu q.items[i].qual
      obtain ⟨ba,m2,_⟩:=aGu q.items[i].as_
      obtain ⟨_,bz,m3⟩:=bIu q.items[i].expr
      simp only [bYj,bK0,dD,bX hi,dX hi (by omega),hi,decide_true,if_true,m1,m2,m3,ih1,ih2,QB,QA]
      refine ⟨trivial,?_⟩
      generalize q.items[i].star=s
      cases s <;> cases bq <;> cases ba <;> cases bz <;> by_cases g1:q.items[i].as_=[] <;> by_cases g2:q.items[i].qual=[] <;> simp [g1,g2]
  obtain ⟨k1,b,k2⟩:=e0 0 (by omega)
  rw [show ((0:Nat):Int)=0 from rfl] at k1 k2
  rw [aCz,uR,k1,k2]
  unfold iX
  simp only [QB,QA]
  by_cases a1:(1:Int)≤(q.items.length:Int)
  · have a1':¬ (q.items.length:Int)<1:=by omega
    by_cases a2:(q.items.length:Int)≤12
    · have a2':¬ (12:Int)<(q.items.length:Int):=by omega
      by_cases a3:(1:Int)≤(q.from_.length:Int)
      · have a3':¬ (q.from_.length:Int)<1:=by omega
        by_cases a4:(q.from_.length:Int)≤3
        · have a4':¬ (3:Int)<(q.from_.length:Int):=by omega
          simp only [a1,a1',a2,a2',a3,a3',a4,a4',decide_true,decide_false]
          by_cases a5:(1:Int)<(q.where_.length:Int) <;> by_cases a6:(12:Int)<(q.order.length:Int) <;> by_cases a7:q.limit < -1 <;> simp [a5,a6,a7]
        · have a4':(3:Int)<(q.from_.length:Int):=by omega
          simp only [a1,a1',a2,a2',a3,a3',a4,a4',decide_true,decide_false]; simp
      · have a3':(q.from_.length:Int)<1:=by omega
        simp only [a1,a1',a2,a2',a3,a3',decide_true,decide_false]; simp
    · have a2':(12:Int)<(q.items.length:Int):=by omega
      simp only [a1,a1',a2,a2',decide_true,decide_false]; simp
  · have a1':(q.items.length:Int)<1:=by omega
    simp only [a1,a1',decide_true,decide_false]; simp
theorem right_eq:∀ n:Nat,∀ x:aL,gJ x<n→gJ x≤1048576→∃ b,lU x=some b∧wY x=some b:=by
  intro n
  induction n with
  | zero=>intro x h _; omega
  | succ n ih =>
    intro x hx hz
    have hE:=zE x
    let d:aL→Bool:=fun y=>(lU y).getD false
    have H:∀ y,gJ y<gJ x→lU y=some (d y)∧wY y=some (d y):=by
      intro y hy
      obtain ⟨r,h1,h2⟩:=ih y (by omega) (by omega)
      simp only [d,h1,h2,WJ,and_self]
    have HK:∀ y ∈ x.kids,lU y=some (d y)∧wY y=some (d y):=fun y hy=>H y (by have:=aHk hy; omega)
    have HQ:∀ q ∈ x.sub,aCz q=uR q∧∃ b,uR q=some b:=by
      intro q hq
      have h1:=aPg hq
      exact bLt q d (by omega) fun y hy=>H y (by have:=M4 hy; omega)
    obtain ⟨b,s1,s2,s3⟩:=cAj x (by omega) (by omega)
    rw [lU,s1,s2]
    cases b with
    | false=>exact ⟨false,by simp,by simp⟩
    | true =>
      have hsl:=s3 rfl
      have hall:=bDg x.kids d (by omega) fun y hy=>(HK y hy).2
      -- the one query below
      have tail : ∃ t, (∀ c : Bool, ((if (true && (c == true)) = true then aCb x.sub else some default) >>= fun (y14 : Bool) => (some (if c = true then (!y14) else false)) >>= fun (y15 : Bool) => some y15) = some (c && t)) ∧
          ((if (true&&((decide ((x.sub.length:Int)=0))==false))=true then idx x.sub 0 else some default)>>=fun (y4:aV)=>(if (true&&((decide ((x.sub.length:Int)=0))==false))=true then uR y4 else some default)>>=fun (y5:Bool)=>(some (if (decide ((x.sub.length:Int)=0))=true then true else y5))>>=fun (y6:Bool)=>some y6)=some t:=by
        cases hsub:x.sub with
        | nil =>
          refine ⟨true,?_,by simp⟩
          intro c
          rw [aCb,aIg,aD1]
          cases c <;> simp
        | cons q l =>
          have hl:l=[]:=by
            rw [hsub] at hsl; simp only [QT] at hsl
            exact XB (by omega)
          subst hl
          obtain ⟨g1,t,g2⟩:=HQ q (by rw [hsub]; simp)
          have w1:QC .i64 (0+1)=1:=by decide
          refine ⟨t,?_,by simp [idx,g2]⟩
          intro c
          rw [aCb,aIg,aD1,w1,aD1]
          cases c <;> cases t <;> simp [idx,aL8,g1,g2]
      obtain ⟨t,t1,t2⟩:=tail
      refine ⟨x.kids.all d&&t,?_,?_⟩
      · have key : ∀ i, i ≤ x.kids.length → yD x (i : Nat) = some ((x.kids.drop i).all d && t) := by
          refine eO ?_ ?_
          · rw [yD]
            simp only [dD,WR,decide_false,QD,if_false,t2]
            simp
          · intro i hi ih
            rw [yD,QX hi]
            simp only [dD,bX hi,dX hi (by omega),hi,decide_true,if_true,(HK _ (QM hi)).1,QB,QA,WM]
            cases hd:d x.kids[i] with
            | true=>simpa using ih
            | false=>simp
        simpa using key 0 (by omega)
      · simp only [if_true,aK3,hall,QB,QA]
        exact t1 _
theorem bDj (p:List aL) (d:aL→Int) (hz:p.length+(p.map gJ).sum≤1048576) (H:∀ y ∈ p,xN y=some (d y)∧0≤d y∧d y≤1+gJ y):aEt p=some (p.map d).sum:=by
  have hs:=aI2 (z:=gJ) (d:=d) (p:=p) fun y hy=>(H y hy).2
  rw [aEt]
  rw [folded (p:=p) (g:=fun y b=>(xN y)>>=fun r=>some (QC .i64 (b+r))) (h:=fun y b=>QC .i64 (b+d y)) (L:=fun b i=>aFx p b i) (K:=fun b=>some b) (by omega) ?_ ?_ 0]
  · rw [aHv (by omega) (fun y hy=>(H y hy).2.1) (by omega)]; simp
  · intro y hy b; simp only [(H y hy).1,QB,QA]
  · intro i b; rw [aFx]; simp only [QB,QV,QA]
theorem bIz (q:aV) (d:aL→Int) (hz:mW q≤1048576) (H:∀ y ∈ gH q,xN y=some (d y)∧0≤d y∧d y≤1+gJ y):Y8 q=some ((gH q).map d).sum:=by
  have hl:=bCw q
  rw [Y8,aVc q hz]
  simp only [QB,QA]
  rw [bDj _ d (by omega) H]; rfl
theorem aWb (q:aV) (d:aL→Int) (hz:mW q≤1048576) (H:∀ y ∈ gH q,oW y=some (d y)∧0≤d y∧d y≤1+gJ y):yQ q=some ((gH q).map d).sum:=by
  have hl:=bCw q
  have hs:=aI2 (z:=gJ) (d:=d) (p:=gH q) fun y hy=>(H y hy).2
  rw [yQ,aQk q hz]
  simp only [QB,QA]
  rw [folded (p:=gH q) (g:=fun y b=>(oW y)>>=fun r=>some (QC .i64 (b+r))) (h:=fun y b=>QC .i64 (b+d y)) (L:=fun b i=>aF7 (gH q) b i) (K:=fun b=>some b) (by omega) ?_ ?_ 0]
  · rw [aHv (by omega) (fun y hy=>(H y hy).2.1) (by omega)]; simp
  · intro y hy b; simp only [(H y hy).1,QB,QA]
  · intro i b; rw [aF7]; simp only [QB,QV,QA]
theorem size_eq:∀ n:Nat,∀ x:aL,gJ x<n→gJ x≤1048576→∃ d,oW x=some d∧xN x=some d∧0≤d∧d≤1+gJ x:=by
  intro n
  induction n with
  | zero=>intro x h _; omega
  | succ n ih =>
    intro x hx hz
    have hE:=zE x
    let d:aL→Int:=fun y=>(oW y).getD 0
    have H:∀ y,gJ y<gJ x→oW y=some (d y)∧xN y=some (d y)∧0≤d y∧d y≤1+gJ y:=by
      intro y hy
      obtain ⟨r,h1,h2,h3,h4⟩:=ih y (by omega) (by omega)
      simp only [d,h1,h2,WJ,true_and]
      exact ⟨h3,h4⟩
    let e:aV→Int:=fun q=>((gH q).map d).sum
    have HQ:∀ q ∈ x.sub,yQ q=some (e q)∧Y8 q=some (e q)∧0≤e q∧e q≤mW q:=by
      intro q hq
      have h1:=aPg hq
      have h2:∀ y ∈ gH q,gJ y<gJ x:=fun y hy=>by have:=M4 hy; omega
      have h3:=aI2 (z:=gJ) (d:=d) (p:=gH q) fun y hy=>(H y (h2 y hy)).2.2
      have h4:=bCw q
      exact ⟨aWb q d (by omega) fun y hy=>⟨(H y (h2 y hy)).1,(H y (h2 y hy)).2.2⟩,bIz q d (by omega) fun y hy=>(H y (h2 y hy)).2,h3.1,by show ((gH q).map d).sum≤_; omega⟩
    have HK:∀ y ∈ x.kids,oW y=some (d y)∧xN y=some (d y)∧0≤d y∧d y≤1+gJ y:=fun y hy=>H y (by have:=aHk hy; omega)
    have hk:=aI2 (z:=gJ) (d:=d) (p:=x.kids) fun y hy=>(HK y hy).2.2
    have hq:=bJr (z:=mW) (d:=e) (p:=x.sub) fun y hy=>(HQ y hy).2.2
    have hk':=aPy x.kids
    have hq':=bJd x.sub
    refine ⟨1+(x.kids.map d).sum+(x.sub.map e).sum,?_,?_,by omega,by omega⟩
    · rw [oW]
      rw [folded (p:=x.kids) (g:=fun y b=>(oW y)>>=fun r=>some (QC .i64 (b+r))) (h:=fun y b=>QC .i64 (b+d y)) (L:=fun b i=>R6 x b i) (K:=fun b=>xU x b 0) (by omega) ?_ ?_ 1]
      · rw [aHv (by omega) (fun y hy=>(HK y hy).2.2.1) (by omega)]
        rw [folded (p:=x.sub) (g:=fun y b=>(yQ y)>>=fun r=>some (QC .i64 (b+r))) (h:=fun y b=>QC .i64 (b+e y)) (L:=fun b i=>xU x b i) (K:=fun b=>some b) (by omega) ?_ ?_ _]
        · rw [aHv (by omega) (fun y hy=>(HQ y hy).2.2.1) (by omega)]
        · intro y hy b; simp only [(HQ y hy).1,QB,QA]
        · intro i b; rw [xU]; simp only [QB,QV,QA]
      · intro y hy b; simp only [(HK y hy).1,QB,QA]
      · intro i b; rw [R6]; simp only [QB,QV,QA]
    · rw [xN,bDj x.kids d (by omega) fun y hy=>(HK y hy).2]
      simp only [QB,QA]
      rw [eX (by omega) (by omega)]
      rw [folded (p:=x.sub) (g:=fun y b=>(Y8 y)>>=fun r=>some (QC .i64 (b+r))) (h:=fun y b=>QC .i64 (b+e y)) (L:=fun b i=>aE9 x b i) (K:=fun b=>some b) (by omega) ?_ ?_ _]
      · rw [aHv (by omega) (fun y hy=>(HQ y hy).2.2.1) (by omega)]
      · intro y hy b; simp only [(HQ y hy).2.1,QB,QA]
      · intro i b; rw [aE9]; simp only [QB,QV,QA]
theorem aVu (a b:Int):pU a b=some (if b > a then b else a):=by
  unfold pU
  by_cases h:b<a
  · simp [h]; omega
  · by_cases h2:b > a
    · simp [h,h2]
    · simp [h,h2]; omega
def mxE (b r:Int):Int:=if r > b then r else b
theorem aZn (q:aV) (d:aL→Int) (hz:mW q≤1048576) (H:∀ y ∈ gH q,nN y=some (d y)):D6 q=some ((gH q).foldl (fun b y=>mxE b (d y)) 0):=by
  have hl:=aMa q
  rw [D6,aQk q hz]
  simp only [QB,QA]
  refine folded (p:=gH q) (g:=fun y b=>(nN y)>>=fun r=>pU b r) (h:=fun y b=>mxE b (d y)) (L:=fun b i=>aFa (gH q) b i) (K:=fun b=>some b) (by omega) ?_ ?_ 0
  · intro y hy b; simp only [H y hy,QB,QA,aVu,mxE]
  · intro i b; rw [aFa]; simp only [QB,QV]
theorem bD3 (q:aV) (d:aL→Int) (hz:mW q≤1048576) (H:∀ y ∈ gH q,wZ y=some (d y)):aA0 q=some ((gH q).foldl (fun b y=>mxE b (d y)) 0):=by
  have hl:=aMa q
  rw [aA0,aVc q hz]
  simp only [QB,QA]
  rw [aO4]
  rw [folded (p:=gH q) (g:=fun y b=>(wZ y)>>=fun r=>some (mxE b r)) (h:=fun y b=>mxE b (d y)) (L:=fun b i=>aGb (gH q) b i) (K:=fun b=>some b) (by omega) ?_ ?_ 0]
  · rfl
  · intro y hy b; simp only [H y hy,QB,QA]
  · intro i b; rw [aGb]; simp only [QB,QV,QA,mxE]
theorem bD5:∀ n:Nat,∀ x:aL,gJ x<n→gJ x≤1048576→∃ d,nN x=some d∧wZ x=some d:=by
  intro n
  induction n with
  | zero=>intro x h _; omega
  | succ n ih =>
    intro x hx hz
    have hE:=zE x
    let d:aL→Int:=fun y=>(nN y).getD 0
    have H:∀ y,gJ y<gJ x→nN y=some (d y)∧wZ y=some (d y):=by
      intro y hy
      obtain ⟨r,h1,h2⟩:=ih y (by omega) (by omega)
      simp only [d,h1,h2,WJ,and_self]
    let e:aV→Int:=fun q=>(gH q).foldl (fun b y=>mxE b (d y)) 0
    have HQ:∀ q ∈ x.sub,D6 q=some (e q)∧aA0 q=some (e q):=by
      intro q hq
      have h1:=aPg hq
      exact ⟨aZn q d (by omega) fun y hy=>(H y (by have:=M4 hy; omega)).1,bD3 q d (by omega) fun y hy=>(H y (by have:=M4 hy; omega)).2⟩
    have HK:∀ y ∈ x.kids,nN y=some (d y)∧wZ y=some (d y):=fun y hy=>H y (by have:=aHk hy; omega)
    refine ⟨QC .i64 (x.sub.foldl (fun b y=>mxE b (e y)) (x.kids.foldl (fun b y=>mxE b (d y)) 0)+1),?_,?_⟩
    · rw [nN]
      rw [folded (p:=x.kids) (g:=fun y b=>(nN y)>>=fun r=>pU b r) (h:=fun y b=>mxE b (d y)) (L:=fun b i=>S9 x b i) (K:=fun b=>xJ x b 0) (by omega) ?_ ?_ 0]
      · rw [folded (p:=x.sub) (g:=fun y b=>(D6 y)>>=fun r=>pU b r) (h:=fun y b=>mxE b (e y)) (L:=fun b i=>xJ x b i) (K:=fun b=>some (QC .i64 (b+1))) (by omega) ?_ ?_ _]
        · intro y hy b; simp only [(HQ y hy).1,QB,QA,aVu,mxE]
        · intro i b; rw [xJ]; simp only [QB,QV]
      · intro y hy b; simp only [(HK y hy).1,QB,QA,aVu,mxE]
      · intro i b; rw [S9]; simp only [QB,QV]
    · rw [wZ]
      rw [folded (p:=x.kids) (g:=fun y b=>(wZ y)>>=fun r=>some (mxE b r)) (h:=fun y b=>mxE b (d y)) (L:=fun b i=>aFt x b i) (K:=fun b=>aAy x b 0) (by omega) ?_ ?_ 0]
      · rw [folded (p:=x.sub) (g:=fun y b=>(aA0 y)>>=fun r=>some (mxE b r)) (h:=fun y b=>mxE b (e y)) (L:=fun b i=>aAy x b i) (K:=fun b=>some (QC .i64 (1+b))) (by omega) ?_ ?_ _]
        · rw [XI]
        · intro y hy b; simp only [(HQ y hy).2,QB,QA]
        · intro i b; rw [aAy]; simp only [QB,QV,QA,mxE]
      · intro y hy b; simp only [(HK y hy).2,QB,QA]
      · intro i b; rw [aFt]; simp only [QB,QV,QA,mxE]
theorem bMm (q:aV) (hz:mW q≤1048576):∃ c,X7 q=some c∧aCc q=some c:=by
  let d:aL→Bool:=fun y=>(lU y).getD false
  have H:∀ y ∈ gH q,lU y=some (d y)∧wY y=some (d y):=by
    intro y hy
    have:=M4 hy
    obtain ⟨r,h1,h2⟩:=right_eq _ y (WS _) (by omega)
    simp only [d,h1,h2,WJ,and_self]
  obtain ⟨g1,b,g2⟩:=bLt q d hz H
  let dd:aL→Int:=fun y=>(nN y).getD 0
  have HD:∀ y ∈ gH q,nN y=some (dd y)∧wZ y=some (dd y):=by
    intro y hy
    have:=M4 hy
    obtain ⟨r,h1,h2⟩:=bD5 _ y (WS _) (by omega)
    simp only [dd,h1,h2,WJ,and_self]
  have t1:=aZn q dd hz fun y hy=>(HD y hy).1
  have t2:=bD3 q dd hz fun y hy=>(HD y hy).2
  let ds:aL→Int:=fun y=>(oW y).getD 0
  have HS:∀ y ∈ gH q,oW y=some (ds y)∧xN y=some (ds y)∧0≤ds y∧ds y≤1+gJ y:=by
    intro y hy
    have hlt:=M4 hy
    obtain ⟨r,h1,h2,h3,h4⟩:=size_eq _ y (WS _) (by omega)
    simp only [ds,h1,h2,WJ,true_and]
    exact ⟨h3,h4⟩
  have s1:=aWb q ds hz fun y hy=>⟨(HS y hy).1,(HS y hy).2.2⟩
  have s2:=bIz q ds hz fun y hy=>(HS y hy).2
  have e:∃ c,X7 q=some c∧aCc q=some c:=by
    rw [X7,aCc]
    unfold J9
    simp only [g1,g2,s1,s2,t1,t2,QB,QA]
    generalize List.foldl (fun b y=>mxE b (dd y)) 0 (gH q)=t
    generalize (List.map ds (gH q)).sum=s
    by_cases p:s≤200 <;> by_cases p2:t≤24 <;> cases b <;> simp [p,p2]
  exact e
theorem bB2 {α β:Type} {f:α→β}:∀ l:List α,l.flatMap (fun x=>[f x])=l.map f
  | []=>rfl
  | x::l=>by rw [WB,bB2 l]; rfl
def aliasOf (x:bZ):List UInt8:=if x.as_=[] then x.table else x.as_
theorem bJf (x:bZ):aH0 x=some (aliasOf x):=by unfold aH0 aliasOf; by_cases h:x.as_=[] <;> simp [h]
def aG0 (c:aP) (s:List UInt8):Int:=(sN c s).getD 0
def I8 (c:aP):List bZ→List (List UInt8)→List bJ→bF×Int×List UInt8
  | [],_,names=>(⟨names⟩,0,[])
  | x :: l, seen, names => if aG0 c x.table < 0 then (⟨[]⟩, 1, x.table) else if aliasOf x ∈ seen then (⟨[]⟩, 2, aliasOf x) else
      I8 c l (seen++[aliasOf x]) (names++(c.tables[(aG0 c x.table).toNat]?.getD default).cols.map fun k=>⟨aliasOf x,k.name,k.type⟩)
theorem bDh (c:aP) (hc:nH c) (s:List UInt8):∃ k:Int,sN c s=some k∧M8 c s=some k∧aG0 c s=k∧(k<0∨∃ t,c.tables[k.toNat]?=some t∧0≤k∧k.toNat<c.tables.length∧t.name=s∧t.cols.length≤4∧1≤s.length):=by
  obtain ⟨h1,k,h2⟩:=bBv c s (by have:=hc.2; omega)
  refine ⟨k,h2,h1.trans h2,by unfold aG0; rw [h2]; rfl,?_⟩
  have key:∀ i,i≤c.tables.length→∃ k:Int,xD s c (i:Nat)=some k∧(k<0∨∃ t,c.tables[k.toNat]?=some t∧0≤k∧t.name=s):=by
    refine eO ?_ ?_
    · exact ⟨-1,by rw [xD]; simp,.inl (by omega)⟩
    · intro i hi ih
      rw [xD]
      have:=hc.2
      simp only [dD,bX hi,dX hi (by omega),hi,decide_true,if_true,QB,QA]
      by_cases e:c.tables[i].name=s
      · exact ⟨(i:Int),by simp [e],.inr ⟨c.tables[i],by simp [hi],by omega,e⟩⟩
      · simp only [e,decide_false,QD,if_false]; exact ih
  obtain ⟨k',e1,e2⟩:=key 0 (by omega)
  have e0:sN c s=some k':=by rw [sN]; exact e1
  rw [h2] at e0
  obtain rfl:k=k':=by simpa using e0
  rcases e2 with h | ⟨t,ht,h0,hn⟩
  · exact .inl h
  · have hl:=(List.getElem?_eq_some_iff.1 ht).1
    obtain ⟨t',ht',hp,_⟩:=hc.1 _ hl
    rw [ht] at ht'
    obtain rfl:t=t':=by simpa using ht'
    exact .inr ⟨t,ht,h0,hl,hn,hp.2.2.2,by have:=hp.2.1.1; rw [hn] at this; exact this⟩
theorem bV9 (l q : List bZ) (c : aP) (k : Int) (a : List UInt8) (i : Int) (t : bI) (names : List bJ) (hq : q.length ≤ 1048576) (hidx : idx c.tables k = some t) :
    Z9 l k a i q c names 0=if a ∈ q.map aliasOf then some (⟨[]⟩,2,a) else zK l a i t c 0 names:=by
  have key:∀ j,j≤q.length→Z9 l k a i q c names (j:Nat)=if a ∈ (q.drop j).map aliasOf then some (⟨[]⟩,2,a) else zK l a i t c 0 names:=by
    refine eO ?_ ?_
    · rw [Z9,List.drop_length]; simp [hidx]
    · intro j hj ihj
      rw [Z9]
      simp only [dD,bX hj,dX hj (by omega),hj,decide_true,if_true,QB,QA,bJf]
      rw [QX hj,QY]
      by_cases e:aliasOf q[j]=a
      · simp [e]
      · simp only [e,decide_false,QD,if_false,ihj,WF,eq_comm (a:=a),false_or]
  exact key 0 (by omega)
theorem bNm (c:aP) (hc:nH c) (l:List bZ) (hl:l.length≤1048576):aFi c l=some (I8 c l [] []):=by
  have key:∀ i,i≤l.length→∀ names,names.length≤4 * i→aAh l c (i:Nat) names=some (I8 c (l.drop i) ((l.take i).map aliasOf) names):=by
    refine eO ?_ ?_
    · intro names _
      rw [aAh]; simp [I8]
    · intro i hi ih names hn
      rw [aAh]
      obtain ⟨k,_,t2,t3,t4⟩:=bDh c hc l[i].table
      have hsub:rF l 0 (i:Int)=some (l.take i):=by unfold rF; rw [if_pos (by omega)]; simp
      simp only [dD,bX hi,hi,decide_true,if_true,QB,QA,t2,bJf,hsub]
      rw [QX hi,I8,t3]
      by_cases hk:k<0
      · simp [hk]
      · obtain ⟨t,ht,h0,hkl,_,h4,_⟩:=t4.resolve_left hk
        simp only [hk,decide_false,QD,if_false]
        have hidx:idx c.tables k=some t:=by unfold idx; rw [if_pos h0]; exact ht
        have hloop:zK l (aliasOf l[i]) (i:Int) t c 0 names=some (I8 c (l.drop (i+1)) ((l.take (i+1)).map aliasOf) (names++t.cols.map fun k=>⟨aliasOf l[i],k.name,k.type⟩)):=by
          have hg:=gather (p:=t.cols) (f:=fun k:dL=>[(⟨aliasOf l[i],k.name,k.type⟩:bJ)]) (G:=fun y acc=>appG 40 acc [(⟨aliasOf l[i],y.name,y.type⟩:bJ)]) (L:=fun acc j=>zK l (aliasOf l[i]) (i:Int) t c j acc) (K:=fun acc=>aAh l c (QC .i64 ((i:Int)+1)) acc) (c:=8388608) (by omega) (fun y _ acc ha=>by rw [iP]; simp at ha ⊢; omega)
            (fun j acc=>by rw [zK]) names (by rw [bB2]; simp; omega)
          rw [hg,bB2,dX hi (by omega),ih _ (by simp; omega)]
        have:=bV9 l (l.take i) c k (aliasOf l[i]) (i:Int) t names (by simp; omega) hidx
        rw [this,hloop]
        by_cases hm:aliasOf l[i] ∈ (l.take i).map aliasOf
        · rw [if_pos hm,if_pos hm]
        · rw [if_neg hm,if_neg hm,ht,WJ,List.take_add_one,WT]
          simp [hi]
  have:=key 0 (by omega) [] (by simp)
  simpa [aFi] using this
def hit (q n:List UInt8) (x:bJ):Bool:=if x.name=n then (if q=[] then true else decide (x.qual=q)) else false
def mtI (q n:List UInt8):List bJ→Int→List Int
  | [],_=>[]
  | x::l,i=>if hit q n x=true then i::mtI q n l (i+1) else mtI q n l (i+1)
theorem bDe (s:bF) (q n:List UInt8) (hl:s.names.length≤4194304):aDw s q n=some (mtI q n s.names 0):=by
  have key:∀ i,i≤s.names.length→∀ acc:List Int,acc.length≤i→aD3 q n s acc (i:Nat)=some (acc++mtI q n (s.names.drop i) (i:Int)):=by
    refine eO ?_ ?_
    · intro acc _; rw [aD3]; simp [mtI]
    · intro i hi ih acc ha
      rw [aD3,QX hi]
      simp only [dD,bX hi,hi,decide_true,if_true,QB,QA,mtI,hit]
      have hn:∀ acc:List Int,acc.length≤i+1→aCq q n s (i:Int) acc=some (acc++mtI q n (s.names.drop (i+1)) ((i:Int)+1)):=fun acc h=>by
        rw [aCq,dX hi (by omega),ih acc h]; rfl
      by_cases h1:s.names[i].name=n
      · by_cases h2:q=[]
        · simp only [h1,h2,decide_true,if_true,beq_self_eq_true,QH,QA]
          rw [iP (by simp; omega),QA,← h2,hn _ (by simp; omega)]; simp
        · by_cases h3:s.names[i].qual=q
          · simp only [h1,h2,h3,decide_true,decide_false,if_true,if_false,beq_self_eq_true,QH,QD,QA]
            rw [iP (by simp; omega),QA,hn _ (by simp; omega)]; simp
          · simp only [h1,h2,h3,decide_true,decide_false,if_true,if_false,beq_self_eq_true,QH,QD,QA]
            rw [hn _ (by omega)]
      · simp [h1,hn acc (by omega)]
  have:=key 0 (by omega) [] (by simp)
  simpa [aDw] using this
theorem aRs (a:Int):0≤QC .i64 ((BitVec.ofInt (WI .i64) a &&& BitVec.ofInt (WI .i64) 255).toNat:Int)∧QC .i64 ((BitVec.ofInt (WI .i64) a &&& BitVec.ofInt (WI .i64) 255).toNat:Int)≤255:=by
  have h:(BitVec.ofInt (WI .i64) a &&& BitVec.ofInt (WI .i64) 255).toNat≤255:=by
    rw [BitVec.toNat_and]
    exact WV Nat.and_le_right (by decide)
  rw [eX (by omega) (by omega)]
  omega
def okCur (c:aB):Prop:=0≤c.i∧c.i≤(c.b.length:Int)∧c.b.length≤1048576
theorem aCu (c:aB) (h:okCur c):∃ x c',yT c=some (x,c')∧0≤x∧x≤255∧okCur c':=by
  obtain ⟨h1,h2,h3⟩:=h
  unfold yT aL4
  by_cases hi:c.i<(c.b.length:Int)
  · have e : ∃ v, idx c.b c.i = some v := by
      unfold idx
      rw [if_pos h1]
      exact ⟨_,WC (by omega)⟩
    obtain ⟨v,hv⟩:=e
    rw [if_pos (by simpa using hi),hv]
    simp only [QB,QA]
    refine ⟨_,_,rfl,(aRs _).1,(aRs _).2,?_⟩
    refine ⟨?_,?_,h3⟩
    · show 0≤QC .i64 (c.i+1); rw [eX (by omega) (by omega)]; omega
    · show QC .i64 (c.i+1)≤(c.b.length:Int); rw [eX (by omega) (by omega)]; omega
  · rw [if_neg (by simpa using hi)]
    exact ⟨_,_,rfl,(aRs _).1,(aRs _).2,h1,h2,h3⟩
theorem bG1 {a b:Int} (h0:0≤a) (hb:0<b):∃ r,aGh a b=some r∧0≤r∧r<b:=by
  unfold aGh
  rw [if_neg (by omega)]
  exact ⟨_,rfl,Int.tmod_nonneg _ h0,Int.tmod_lt_of_pos _ hb⟩
theorem aE1 (c:aB) (n:Int) (h:okCur c):∃ x c',fT c n=some (x,c')∧0≤x∧(0<n→x<n)∧okCur c':=by
  unfold fT
  by_cases h0:n≤0
  · rw [if_pos (by simpa using h0)]; exact ⟨0,c,rfl,by omega,by omega,h⟩
  rw [if_neg (by simpa using h0)]
  by_cases h1:n≤256
  · rw [if_pos (by simpa using h1)]
    obtain ⟨x,c1,e1,a1,b1,o1⟩:=aCu c h
    obtain ⟨r,er,r0,r1⟩:=bG1 a1 (b:=n) (by omega)
    simp only [e1,QB,QA,er]
    exact ⟨r,c1,rfl,r0,fun _=>r1,o1⟩
  · rw [if_neg (by simpa using h1)]
    obtain ⟨x1,c1,e1,a1,b1,o1⟩:=aCu c h
    obtain ⟨x2,c2,e2,a2,b2,o2⟩:=aCu c1 o1
    obtain ⟨x3,c3,e3,a3,b3,o3⟩:=aCu c2 o2
    obtain ⟨x4,c4,e4,a4,b4,o4⟩:=aCu c3 o3
    simp only [e1,e2,e3,e4,QB,QA]
    rw [eX (n:=x1 * 16777216) (by omega) (by omega),eX (n:=x2 * 65536) (by omega) (by omega),eX (n:=x3 * 256) (by omega) (by omega),eX (n:=x1 * 16777216+x2 * 65536) (by omega) (by omega),eX (n:=x1 * 16777216+x2 * 65536+x3 * 256) (by omega) (by omega),eX (n:=x1 * 16777216+x2 * 65536+x3 * 256+x4) (by omega) (by omega)]
    obtain ⟨r,er,r0,r1⟩:=bG1 (a:=x1 * 16777216+x2 * 65536+x3 * 256+x4) (by omega) (b:=n) (by omega)
    rw [er]
    exact ⟨r,c4,rfl,r0,fun _=>r1,o4⟩
theorem bNx (c:aB) (n:Int) (h:okCur c):∃ x c',gU c n=some (x,c')∧okCur c':=by
  obtain ⟨x,c1,e1,_,_,o1⟩:=aE1 c n h
  unfold gU
  simp only [e1,QB,QA]
  exact ⟨_,_,rfl,o1⟩
theorem aGv {α:Type} {l:List α} {x:Int} (h0:0≤x) (h1:x<(l.length:Int)):∃ v,v ∈ l∧idx l x=some v:=by
  unfold idx
  rw [if_pos h0]
  exact ⟨_,QM (by omega),WC (by omega)⟩
theorem bHv (c:aB) (l:List (List UInt8)) (hl:0<l.length) (h:okCur c):∃ x c',tV c l=some (x,c')∧x ∈ l∧okCur c':=by
  obtain ⟨x,c1,e1,h0,h1,o1⟩:=aE1 c l.length h
  obtain ⟨v,hv,ev⟩:=aGv h0 (h1 (by omega))
  unfold tV
  simp only [e1,ev,QB,QA]
  exact ⟨_,_,rfl,hv,o1⟩
theorem aUu (c:aB) (l:List Int) (hl:0<l.length) (h:okCur c):∃ x c',I5 c l=some (x,c')∧x ∈ l∧okCur c':=by
  obtain ⟨x,c1,e1,h0,h1,o1⟩:=aE1 c l.length h
  obtain ⟨v,hv,ev⟩:=aGv h0 (h1 (by omega))
  unfold I5
  simp only [e1,ev,QB,QA]
  exact ⟨_,_,rfl,hv,o1⟩
theorem cBb (p:List Int) (hp:p.length≤1048576):∃ c,aJw p=some c∧okCur c:=by
  unfold aJw
  have key:∀ i,i≤p.length→∀ h,∃ c,X6 p h (i:Nat)=some c∧okCur c:=by
    refine eO ?_ ?_
    · intro h
      rw [X6]
      refine ⟨⟨p,0,h⟩,by simp,?_⟩
      exact ⟨by show (0:Int)≤0; omega,by show (0:Int)≤(p.length:Int); omega,hp⟩
    · intro i hi ih h
      rw [X6]
      by_cases h4:(i:Int)<4000
      · simp only [dD,hi,h4,decide_true,if_true,bX hi,dX hi (by omega),QB,QA]
        exact ih _
      · simp only [dD,hi,h4,decide_true,decide_false,if_true,QD,if_false]
        exact ⟨⟨p,0,h⟩,rfl,by show (0:Int)≤0; omega,by show (0:Int)≤(p.length:Int); omega,hp⟩
  exact key 0 (by omega) _
theorem cCe (l:List Int) (h:∀ v ∈ l,0≤v∧v<256):∃ s,ofBytes l=some s:=by
  unfold ofBytes
  rw [if_pos (by simpa using h)]
  exact ⟨_,rfl⟩
def Yes {α:Type} (m:Option α) (Q:α→Prop):Prop:=∃ r,m=some r∧Q r
theorem Yes.bind {α β:Type} {m:Option α} {k:α→Option β} {Q:α→Prop} {R:β→Prop} (h:Yes m Q) (hk:∀ x,Q x→Yes (k x) R):Yes (m>>=k) R:=by
  obtain ⟨x,e,hx⟩:=h
  obtain ⟨r,e2,hr⟩:=hk x hx
  exact ⟨r,by rw [e]; exact e2,hr⟩
theorem Yes.some {α:Type} {x:α} {Q:α→Prop} (h:Q x):Yes (some x) Q:=⟨x,rfl,h⟩
theorem Yes.mono {α:Type} {m:Option α} {Q R:α→Prop} (h:Yes m Q) (hk:∀ x,Q x→R x):Yes m R:=by
  obtain ⟨x,e,hx⟩:=h; exact ⟨x,e,hk x hx⟩
theorem Yes.ite {α:Type} {c:Prop} [Decidable c] {m m':Option α} {Q:α→Prop} (h:c→Yes m Q) (h':¬ c→Yes m' Q):Yes (if c then m else m') Q:=by
  split
  · exact h (by assumption)
  · exact h' (by assumption)
theorem fU (c:aB) (n:Int) (h:okCur c):Yes (fT c n) fun r=>0≤r.1∧(0<n→r.1<n)∧okCur r.2:=by
  obtain ⟨x,c',e,h1,h2,h3⟩:=aE1 c n h; exact ⟨_,e,h1,h2,h3⟩
theorem jS (c:aB) (n:Int) (h:okCur c):Yes (gU c n) fun r=>okCur r.2:=by
  obtain ⟨x,c',e,h1⟩:=bNx c n h; exact ⟨_,e,h1⟩
theorem R8 (p:Bool) (b:Bool) (c:aB) (n:Int) (h:okCur c):Yes (if (true&&(p==b))=true then gU c n else some ((default:Bool),c)) fun r=>okCur r.2:=Yes.ite (fun _=>jS c n h) fun _=>Yes.some h
theorem aUe (c:aB) (l:List (List UInt8)) (hl:0<l.length) (h:okCur c):Yes (tV c l) fun r=>okCur r.2:=by
  obtain ⟨x,c',e,_,h1⟩:=bHv c l hl h; exact ⟨_,e,h1⟩
theorem bDa (c:aB) (l:List Int) (hl:0<l.length) (h:okCur c):Yes (I5 c l) fun r=>okCur r.2:=by
  obtain ⟨x,c',e,_,h1⟩:=aUu c l hl h; exact ⟨_,e,h1⟩
theorem jZ {α:Type} {b:Nat} {l m:List α} (h:(l.length+m.length) * b≤140737488355328):Yes (appG b l m) fun r=>r=l++m:=⟨_,iP h,rfl⟩
theorem aBk (c:aB) (l:List (List UInt8)) (hl:0<l.length) (h:okCur c):Yes (tV c l) fun r=>r.1 ∈ l∧okCur r.2:=by
  obtain ⟨x,c',e,h0,h1⟩:=bHv c l hl h; exact ⟨_,e,h0,h1⟩
theorem aLh (c:aB) (h:okCur c):Yes (V7 c) fun r=>r.1.length≤8∧okCur r.2:=by
  unfold V7
  refine Yes.bind (jS _ _ h) fun r k=>Yes.ite (fun _=>?_) fun _=>?_
  · refine Yes.bind (aBk _ _ (by decide) k) fun r ⟨hm,k⟩=>Yes.some ⟨?_,k⟩
    have:∀ v ∈ ([[97,32,98],[102,114,111,109],[83,101,108,101,99,116],[49,120],[113,34,113],[0],[34],[105,116,39,115],[120,46,121],[45]]:List (List UInt8)),v.length≤8:=by decide
    exact this _ hm
  · refine Yes.bind (aBk _ _ (by decide) k) fun r ⟨hm,k⟩=>Yes.some ⟨?_,k⟩
    have:∀ v ∈ ([[97],[98],[99],[116],[117],[118],[105,100],[110,97,109,101],[65],[95,120,49]]:List (List UInt8)),v.length≤8:=by decide
    exact this _ hm
theorem rV (c:aB) (h:okCur c):Yes (sI c) fun r=>okI r.1∧okCur r.2:=by
  obtain ⟨x,c1,e1,_,_,o1⟩:=aE1 c 3 h
  obtain ⟨y,c2,e2,hy,o2⟩:=aUu c1 [0,1,(-1),63,64,(-64),(-65),127,128,16383,16384,9223372036854775807,(-9223372036854775808),4611686018427387904] (by decide) o1
  obtain ⟨z,c3,e3,z0,z1,o3⟩:=aE1 c1 1000000 o1
  obtain ⟨w,c4,e4,w0,w1,o4⟩:=aE1 c1 20 o1
  have hyI:okI y:=by
    have:∀ v ∈ ([0,1,(-1),63,64,(-64),(-65),127,128,16383,16384,9223372036854775807,(-9223372036854775808),4611686018427387904]:List Int),-9223372036854775808≤v∧v≤9223372036854775807:=by decide
    exact this y hy
  have hz:=z1 (by decide)
  have hw:=w1 (by decide)
  unfold sI
  simp only [e1,e2,e3,e4,QB,QA]
  split
  · exact ⟨_,rfl,hyI,o2⟩
  split
  · refine ⟨_,rfl,?_,o3⟩
    unfold okI; dsimp only; rw [eX (by omega) (by omega)]; omega
  · refine ⟨_,rfl,?_,o4⟩
    unfold okI; dsimp only; omega
def okV (B:Nat) (r:bH×aB):Prop:=okGValue r.1∧r.1.text.length≤B∧okCur r.2
theorem okV_mk {B:Nat} {k n:Int} {t:List UInt8} {c:aB} (h1:okI k) (h2:okI n) (h3:t.length≤B) (hB:B≤1000) (h:okCur c):okV B (⟨k,n,t⟩,c):=⟨⟨h1,h2,by unfold okS; dsimp only; omega⟩,h3,h⟩
theorem okI_small {n:Int} (h0 : -1000≤n) (h1:n≤1000):okI n:=by unfold okI; omega
theorem bK2 (c:aB) (h:okCur c):Yes (aFv c) (okV 4):=by
  unfold aFv
  refine Yes.bind (fU _ _ h) fun r ⟨_,_,k⟩=>Yes.ite (fun _=>?_) fun _=>Yes.ite (fun _=>?_) fun _=>Yes.ite (fun _=>?_) fun _=>Yes.ite (fun _=>?_) fun _=>?_
  · exact Yes.some (okV_mk (okI_small (by omega) (by omega)) (okI_small (by omega) (by omega)) (by simp) (by omega) k)
  · refine Yes.bind (aBk _ _ (by decide) k) fun r ⟨hm,k⟩=>?_
    have:∀ v ∈ ([[],[97],[98],[105,116,39,115],[97,98],[255]]:List (List UInt8)),v.length≤4:=by decide
    exact Yes.bind (Q:=fun v=>v=⟨2,0,r.1⟩) ⟨_,rfl,rfl⟩ fun v hv=>Yes.some (by subst hv; exact okV_mk (okI_small (by omega) (by omega)) (okI_small (by omega) (by omega)) (this _ hm) (by omega) k)
  · refine Yes.bind (jS _ _ k) fun r k=>?_
    have:Yes (aFo r.1) fun v=>okI v.kind∧okI v.num∧v.text=[]:=by
      cases r.1
      · exact ⟨_,rfl,okI_small (by decide) (by decide),okI_small (by decide) (by decide),rfl⟩
      · exact ⟨_,rfl,okI_small (by decide) (by decide),okI_small (by decide) (by decide),rfl⟩
    refine Yes.bind this fun v ⟨h1,h2,h3⟩=>Yes.some ?_
    obtain ⟨a,b,t⟩:=v
    dsimp only at h1 h2 h3
    subst h3
    exact okV_mk h1 h2 (by simp) (by omega) k
  · refine Yes.bind (rV _ k) fun r ⟨h1,k⟩=>?_
    exact Yes.bind (Q:=fun v=>v=⟨1,r.1,[]⟩) ⟨_,rfl,rfl⟩ fun v hv=>Yes.some (by subst hv; exact okV_mk (okI_small (by omega) (by omega)) h1 (by simp) (by omega) k)
  · refine Yes.bind (fU _ _ k) fun r ⟨h0,h1,k⟩=>?_
    have:=h1 (by decide)
    exact Yes.bind (Q:=fun v=>v=⟨1,QC .i64 (r.1 - 2),[]⟩) ⟨_,rfl,rfl⟩ fun v hv=>Yes.some (by subst hv; exact okV_mk (okI_small (by omega) (by omega)) (by rw [eX (by omega) (by omega)]; exact okI_small (by omega) (by omega)) (by simp) (by omega) k)
theorem bZo (c:aB) (h:okCur c):Yes (aFh c) (okV 4):=by
  unfold aFh aJ2
  refine Yes.bind (bK2 _ h) fun r ⟨⟨h1,h2,h3⟩,h4,k⟩=>Yes.bind (Q:=fun _=>True) ⟨_,rfl,trivial⟩ fun b _=>Yes.ite (fun _=>Yes.some ?_) fun _=>Yes.some ?_
  · exact okV_mk h1 (by unfold okI; omega) h4 (by omega) k
  · exact okV_mk h1 h2 h4 (by omega) k
theorem okLX_of {l:List aA} (h:∀ y ∈ l,okGPExpr y):okLGPExpr l:=by
  induction l with
  | nil=>unfold okLGPExpr; trivial
  | cons x l ih=>unfold okLGPExpr; exact ⟨h x (by simp),ih fun y hy=>h y (WQ _ hy)⟩
theorem okLP_of {l:List aQ} (h:∀ y ∈ l,okGPlan y):okLGPlan l:=by
  induction l with
  | nil=>unfold okLGPlan; trivial
  | cons x l ih=>unfold okLGPlan; exact ⟨h x (by simp),ih fun y hy=>h y (WQ _ hy)⟩
theorem okLK_of {l:List bN} (h:∀ y ∈ l,okGPExpr y.expr):okLGPSort l:=by
  induction l with
  | nil=>unfold okLGPSort; trivial
  | cons x l ih =>
    unfold okLGPSort
    refine ⟨?_,ih fun y hy=>h y (WQ _ hy)⟩
    have:=h x (by simp)
    obtain ⟨a,b⟩:=x
    unfold okGPSort; exact ⟨this,trivial⟩
theorem okLLX_of {l:List (List aA)} (h:∀ y ∈ l,y.length≤1048576∧∀ x ∈ y,okGPExpr x):okLLGPExpr l:=by
  induction l with
  | nil=>unfold okLLGPExpr; trivial
  | cons x l ih =>
    unfold okLLGPExpr
    have:=h x (by simp)
    exact ⟨⟨by omega,okLX_of this.2⟩,ih fun y hy=>h y (WQ _ hy)⟩
theorem mkE {a b:Int} {q:Bool} {v:bH} {u t:Int} {ks:List aA} {ss:List aQ} (h1:okI a) (h2:okI b) (h3:okGValue v) (h4:okI u) (h5:okI t) (k1:ks.length≤1048576) (k2:∀ y ∈ ks,okGPExpr y) (s1:ss.length≤1048576) (s2:∀ y ∈ ss,okGPlan y):okGPExpr (aA.mk a b q v u t ks ss):=by
  unfold okGPExpr
  exact ⟨h1,h2,trivial,h3,h4,h5,⟨by omega,okLX_of k2⟩,by omega,okLP_of s2⟩
theorem sS (a b:Int) (q:Bool) (v:bH) (u t:Int) (ks:List aA) (ss:List aQ):aZ (aA.mk a b q v u t ks ss)=v.text.length+zL aZ ks+zL dY ss:=by
  obtain ⟨v0,v1,v2⟩:=v
  simp only [aZ,aTj,Z8,aYw,zL]
theorem oZ {α:Type} {z:α→Nat} {B n:Nat}:∀ {l:List α},l.length≤n→(∀ y ∈ l,z y≤B)→zL z l≤n * (1+B):=by
  have key:∀ l:List α,(∀ y ∈ l,z y≤B)→zL z l≤l.length * (1+B):=fun l=>by
    induction l with
    | nil=>simp [zL]
    | cons x l ih =>
      intro h
      have h1:=ih fun y hy=>h y (WQ _ hy)
      have h2:=h x (by simp)
      simp only [zL,QT,QY,WA,Nat.add_mul,Nat.one_mul] at h1 ⊢
      omega
  intro l hl h
  exact WV (key l h) (Nat.mul_le_mul_right _ hl)
def FE (B:Nat) (x:aA):Prop:=okGPExpr x∧aZ x≤B
def okE (B:Nat) (r:aA×aB):Prop:=FE B r.1∧okCur r.2
def okKs (B:Nat) (r:List aA×aB):Prop:=(r.1.length≤3∧∀ y ∈ r.1,FE B y)∧okCur r.2
theorem cF8 (B : Nat) (d : Int) (m : Int) (hm : m ≤ 3) (H : ∀ c, okCur c → Yes (rH c (QC .i64 (d - 1))) (okE B)) :
    ∀ (k:Nat) (i:Int) b j h (l:List aA),m≤k+i→0≤i→i≤3→(l.length:Int)≤i→(∀ y ∈ l,FE B y)→okCur ⟨b,j,h⟩→Yes (aDr d m i b j h l) (okKs B):=by
  intro k
  induction k with
  | zero =>
    intro i b j h l h1 h2 h3 h4 h5 h6
    rw [aDr,if_neg (by simp; omega)]
    exact Yes.some ⟨⟨by show l.length≤3; omega,h5⟩,h6⟩
  | succ k ih =>
    intro i b j h l h1 h2 h3 h4 h5 h6
    rw [aDr]
    refine Yes.ite (fun hi=>?_) fun _=>Yes.some ⟨⟨by show l.length≤3; omega,h5⟩,h6⟩
    have hi':i<m:=by simpa using hi
    refine Yes.bind (H _ h6) fun r ⟨hz,hr⟩=>Yes.bind (jZ (by simp; omega)) fun y hy=>?_
    subst hy
    rw [eX (by omega) (by omega)]
    refine ih _ _ _ _ _ (by omega) (by omega) (by omega) (by simp; omega) (fun y hy=>?_) hr
    rcases QZ.1 hy with hy | hy
    · exact h5 y hy
    · have:y=r.1:=by simpa using hy
      rw [this]; exact hz
theorem bC3 (B:Nat) (d:Int) (m:Int) (hm:m≤3) (H:∀ c,okCur c→Yes (rH c (QC .i64 (d - 1))) (okE B)) (c:aB) (h:okCur c):Yes (vX c d m) (okKs B):=by
  rw [vX]
  exact cF8 B d m hm H m.toNat 0 c.b c.i c.h [] (by omega) (by omega) (by omega) (by simp) (by simp) h
def okP (B:Nat) (r:aQ×aB):Prop:=(okGPlan r.1∧dY r.1≤40+8 * B∧0<r.1.items.length)∧okCur r.2
def pT (n:Int) (t:List Int):Prop:=(t.length:Int)≤n∧∀ x ∈ t,okI x
def pO (n:Int) (B:Nat) (o:List (List aA)):Prop:=(o.length:Int)≤n∧∀ l ∈ o,l.length≤1∧∀ y ∈ l,FE B y
def pL (n:Int) (B:Nat) (l:List aA):Prop:=(l.length:Int)≤n∧∀ y ∈ l,FE B y
def pN (n:Int) (l:List (List UInt8)):Prop:=(l.length:Int)≤n∧∀ s ∈ l,s.length≤8
def pK (B:Nat) (l:List bN):Prop:=l.length≤1∧∀ k ∈ l,FE B k.expr
theorem mem1 {α:Type} {x:α} {p:α→Prop} (hx:p x):∀ y ∈ [x],p y:=fun y hy=>by
  have:y=x:=by simpa using hy
  rw [this]; exact hx
theorem nQ {α:Type} {l:List α} {x:α} {p:α→Prop} (h:∀ y ∈ l,p y) (hx:p x):∀ y ∈ l++[x],p y:=fun y hy=>by
  rcases QZ.1 hy with hy | hy
  · exact h y hy
  · have:y=x:=by simpa using hy
    rw [this]; exact hx
theorem mkP {B : Nat} {t : List Int} {o : List (List aA)} {w i : List aA} {r : List bN} {n : List (List UInt8)} {d : Bool} {l : Int} (ht : pT 2 t) (ho : pO 2 B o) (hw : pL 3 B w) (hr : pK B r) (hi : pL 2 B i) (hn : pN 2 n) (hl : okI l) (hi0 : 0 < i.length) :
    okGPlan (aQ.mk t o w r i n d l)∧dY (aQ.mk t o w r i n d l)≤40+8 * B∧0<(aQ.mk t o w r i n d l).items.length:=by
  obtain ⟨t1,t2⟩:=ht
  obtain ⟨o1,o2⟩:=ho
  obtain ⟨w1,w2⟩:=hw
  obtain ⟨r1,r2⟩:=hr
  obtain ⟨i1,i2⟩:=hi
  obtain ⟨n1,n2⟩:=hn
  refine ⟨?_,?_,hi0⟩
  · unfold okGPlan
    exact ⟨⟨by omega,t2⟩,⟨by omega,okLLX_of fun y hy=>⟨by have:=(o2 y hy).1; omega,fun x hx=>((o2 y hy).2 x hx).1⟩⟩,⟨by omega,okLX_of fun y hy=>(w2 y hy).1⟩,⟨by omega,okLK_of fun y hy=>(r2 y hy).1⟩,⟨by omega,okLX_of fun y hy=>(i2 y hy).1⟩,⟨by omega,fun s hs=>by have:=n2 s hs; unfold okS; omega⟩,trivial,hl⟩
  · have e1:dY (aQ.mk t o w r i n d l)=zL z0 t+zL (zL aZ) o+zL aZ w+zL qD r+zL aZ i+zL WL n:=by simp only [dY,Z8,aKm,aKl,zL]
    have a1:=oZ (z:=z0) (B:=0) (n:=2) (l:=t) (by omega) (fun _ _=>by simp [z0])
    have a2:=oZ (z:=zL aZ) (B:=1 * (1+B)) (n:=2) (l:=o) (by omega) (fun y hy=>oZ (o2 y hy).1 fun x hx=>((o2 y hy).2 x hx).2)
    have a3:=oZ (z:=aZ) (B:=B) (n:=3) (l:=w) (by omega) (fun y hy=>(w2 y hy).2)
    have a4:=oZ (z:=qD) (B:=B) (n:=1) (l:=r) (by omega) (fun y hy=>by have:=(r2 y hy).2; obtain ⟨p,q⟩:=y; simpa only [qD] using this)
    have a5:=oZ (z:=aZ) (B:=B) (n:=2) (l:=i) (by omega) (fun y hy=>(i2 y hy).2)
    have a6:=oZ (z:=WL) (B:=8) (n:=2) (l:=n) (by omega) n2
    rw [e1]; omega
theorem bI2 {B:Nat} {d:Int} (H:∀ c,okCur c→Yes (rH c d) (okE B)) (HK:∀ c,okCur c→Yes (vX c (QC .i64 (d+1)) 1) (okKs B)) (c:aB) (h:okCur c):Yes (aBn c d) (okP B):=by
  have J4:∀ y1 (w:List aA) n i o t b j g r,pL 3 B w→pN 2 n→pL 2 B i→0<i.length→pO 2 B o→pT 2 t→pK B r→okCur ⟨b,j,g⟩→Yes (aFp y1 w n i o t b j g r) (okP B):=fun y1 w n i o t b j g r hw hn hi hi0 ho ht hr k=>by
    unfold aFp aJc
    refine Yes.bind (jS _ _ k) fun q k=>Yes.ite (fun _=>?_) fun _=>?_
    · exact Yes.bind (rV _ k) fun q ⟨hq,k⟩=>Yes.some ⟨mkP ht ho hw hr hi hn hq hi0,k⟩
    · exact Yes.some ⟨mkP ht ho hw hr hi hn (okI_small (by omega) (by omega)) hi0,k⟩
  have J3:∀ y1 n i o t b j g (w:List aA),pL 3 B w→pN 2 n→pL 2 B i→0<i.length→pO 2 B o→pT 2 t→okCur ⟨b,j,g⟩→Yes (aE8 d y1 n i o t (b,j,g,w)) (okP B):=fun y1 n i o t b j g w hw hn hi hi0 ho ht k=>by
    rw [aE8]
    refine Yes.bind (jS _ _ k) fun q k=>Yes.ite (fun _=>?_) fun _=>?_
    · refine Yes.bind (H _ k) fun q ⟨hq,k⟩=>Yes.bind (jS _ _ k) fun q2 k=>Yes.bind (jZ (by simp)) fun z hz=>?_
      subst hz
      exact J4 _ _ _ _ _ _ _ _ _ _ hw hn hi hi0 ho ht ⟨by simp,mem1 (p:=fun (k:bN)=>FE B k.expr) hq⟩ k
    · exact J4 _ _ _ _ _ _ _ _ _ _ hw hn hi hi0 ho ht ⟨by simp,by simp⟩ k
  have L2:∀ (y12:Int×aB) y1 o t,0≤y12.1→y12.1<2→pO 2 B o→pT 2 t→∀ (m:Nat) (x:Int) b j g n i,2≤m+x→0≤x→x≤2→pN x n→pL x B i→x≤i.length→okCur ⟨b,j,g⟩→Yes (Y2 d y12 y1 o t x (b,j,g,n,i)) (okP B):=by
    intro y12 y1 o t y0 y2 ho ht m
    have e0:QC .i64 (1+y12.1)=1+y12.1:=eX (by omega) (by omega)
    have fin:∀ (x:Int) b j g n i,¬ x<1+y12.1→x≤2→pN x n→pL x B i→x≤i.length→okCur ⟨b,j,g⟩→Yes (Y2 d y12 y1 o t x (b,j,g,n,i)) (okP B):=by
      intro x b j g n i hx h2 hn hi hi0 k
      have hi0':0<i.length:=by omega
      rw [Y2,e0,if_neg (by simpa using hx)]
      have hn2:pN 2 n:=⟨by have:=hn.1; omega,hn.2⟩
      have hi2:pL 2 B i:=⟨by have:=hi.1; omega,hi.2⟩
      refine Yes.bind (jS _ _ k) fun q k=>Yes.ite (fun _=>?_) fun _=>?_
      · exact Yes.bind (HK _ k) fun q ⟨⟨q1,q2⟩,k⟩=>J3 _ _ _ _ _ _ _ _ _ ⟨by omega,q2⟩ hn2 hi2 hi0' ho ht k
      · exact J3 _ _ _ _ _ _ _ _ _ ⟨by simp,by simp⟩ hn2 hi2 hi0' ho ht k
    induction m with
    | zero=>intro x b j g n i h1 h2 h3 hn hi hi0 k; exact fin x b j g n i (by omega) h3 hn hi hi0 k
    | succ m ih =>
      intro x b j g n i h1 h2 h3 hn hi hi0 k
      by_cases hx:x<1+y12.1
      · rw [Y2,e0,if_pos (by simpa using hx)]
        have l1:=hn.1
        have l2:=hi.1
        refine Yes.bind (H _ k) fun q ⟨hq,k⟩=>Yes.bind (jZ (by simp; omega)) fun z hz=>Yes.bind (aLh _ k) fun s ⟨hs,k⟩=>Yes.bind (jZ (by simp; omega)) fun z2 hz2=>?_
        subst hz hz2
        rw [eX (by omega) (by omega)]
        exact ih _ _ _ _ _ _ (by omega) (by omega) (by omega) ⟨by simp; omega,nQ hn.2 hs⟩ ⟨by simp; omega,nQ hi.2 hq⟩ (by simp; omega) k
      · exact fin x b j g n i hx h3 hn hi hi0 k
  have L0:∀ (y2:Int×aB) y1,0≤y2.1→y2.1<2→∀ (m:Nat) (x:Int) b j g o t,2≤m+x→0≤x→x≤2→pO x B o→pT x t→okCur ⟨b,j,g⟩→Yes (aA4 d y2 y1 x b j (g,o,t)) (okP B):=by
    intro y2 y1 y0 yl m
    have e0:QC .i64 (1+y2.1)=1+y2.1:=eX (by omega) (by omega)
    have fin:∀ (x:Int) b j g o t,¬ x<1+y2.1→x≤2→pO x B o→pT x t→okCur ⟨b,j,g⟩→Yes (aA4 d y2 y1 x b j (g,o,t)) (okP B):=by
      intro x b j g o t hx h2 ho ht k
      rw [aA4,e0,if_neg (by simpa using hx)]
      refine Yes.bind (fU _ _ k) fun q ⟨q0,q1,k⟩=>?_
      exact L2 q y1 o t q0 (q1 (by decide)) ⟨by have:=ho.1; omega,ho.2⟩ ⟨by have:=ht.1; omega,ht.2⟩ 2 0 _ _ _ _ _ (by omega) (by omega) (by omega) ⟨by simp,by simp⟩ ⟨by simp,by simp⟩ (by simp) k
    induction m with
    | zero=>intro x b j g o t h1 h2 h3 ho ht k; exact fin x b j g o t (by omega) h3 ho ht k
    | succ m ih =>
      intro x b j g o t h1 h2 h3 ho ht k
      by_cases hx:x<1+y2.1
      · rw [aA4,e0,if_pos (by simpa using hx)]
        have l1:=ho.1
        have l2:=ht.1
        have J1:∀ (q:Int) (w:List aA) b j g,okI q→w.length≤1→(∀ y ∈ w,FE B y)→okCur ⟨b,j,g⟩→Yes (aHe d y2 x y1 (t++[q]) o (b,j,g,w)) (okP B):=fun q w b j g hq hw1 hw2 k=>by
          rw [aHe]
          refine Yes.bind (jZ (by simp; omega)) fun z hz=>?_
          subst hz
          rw [eX (by omega) (by omega)]
          exact ih _ _ _ _ _ _ (by omega) (by omega) (by omega) ⟨by simp; omega,nQ ho.2 ⟨hw1,hw2⟩⟩ ⟨by simp; omega,nQ ht.2 hq⟩ k
        refine Yes.bind (fU _ _ k) fun q ⟨q0,q1,k⟩=>Yes.bind (jZ (by simp; omega)) fun z hz=>Yes.bind (R8 _ _ _ _ k) fun q2 k=>Yes.bind (Q:=fun _=>True) ⟨_,rfl,trivial⟩ fun _ _=>?_
        have hq:=q1 (by decide)
        subst hz
        refine Yes.ite (fun _=>?_) fun _=>?_
        · refine Yes.bind (H _ k) fun e ⟨he,k⟩=>Yes.bind (jZ (by simp)) fun z hz=>?_
          subst hz
          exact J1 _ _ _ _ _ (okI_small (by omega) (by omega)) (by simp) (mem1 he) k
        · exact J1 _ _ _ _ _ (okI_small (by omega) (by omega)) (by simp) (by simp) k
      · exact fin x b j g o t hx h3 ho ht k
  rw [aBn]
  refine Yes.bind (jS _ _ h) fun y1 k=>Yes.bind (fU _ _ k) fun y2 ⟨q0,q1,k⟩=>?_
  exact L0 y2 y1 q0 (q1 (by decide)) 2 0 _ _ _ _ _ (by omega) (by omega) (by omega) ⟨by simp,by simp⟩ ⟨by simp,by simp⟩ k
def Zb:Nat→Nat
  | 0=>10
  | n+1=>60+11 * Zb n
theorem okV_E {B:Nat} {r:bH×aB} {a b u t:Int} {q:Bool} (h:okV B r) (h1:okI a) (h2:okI b) (h4:okI u) (h5:okI t):FE B (aA.mk a b q r.1 u t [] []) :=
  ⟨mkE h1 h2 h.1 h4 h5 (by simp) (by simp) (by simp) (by simp),by rw [sS]; have:=h.2.1; simp [zL]; omega⟩
theorem aQ2:okGValue ⟨0,0,[]⟩:=⟨okI_small (by decide) (by decide),okI_small (by decide) (by decide),by unfold okS; simp⟩
theorem bJt (n:Int) (h0 : -1000≤n) (h1:n≤1000):okI (QC .i64 n):=by rw [eX (by omega) (by omega)]; exact okI_small h0 h1
theorem aL0 {B:Nat} {a b u t:Int} {q:Bool} {ks:List aA} (h1:okI a) (h2:okI b) (h4:okI u) (h5:okI t) (hk:ks.length≤3∧∀ y ∈ ks,FE B y):FE (60+11 * B) (aA.mk a b q ⟨0,0,[]⟩ u t ks []) :=
  ⟨mkE h1 h2 aQ2 h4 h5 (by omega) (fun y hy=>(hk.2 y hy).1) (by simp) (by simp),by rw [sS]; have:=oZ (z:=aZ) hk.1 fun y hy=>(hk.2 y hy).2; simp only [zL,QU,WO,WP] at this ⊢; omega⟩
theorem bLj {B:Nat} {a b u t:Int} {q:Bool} {ks:List aA} {p:aQ} (h1:okI a) (h2:okI b) (h4:okI u) (h5:okI t) (hk:ks.length≤3∧∀ y ∈ ks,FE B y) (hp:okGPlan p∧dY p≤40+8 * B∧0<p.items.length):FE (60+11 * B) (aA.mk a b q ⟨0,0,[]⟩ u t ks [p]) :=
  ⟨mkE h1 h2 aQ2 h4 h5 (by omega) (fun y hy=>(hk.2 y hy).1) (by simp) (mem1 hp.1),by rw [sS]; have:=oZ (z:=aZ) hk.1 fun y hy=>(hk.2 y hy).2; have:=hp.2.1; simp only [zL,QU,QT,QY,WO,WA,WP] at *; omega⟩
theorem bLp (c:aB) (h:okCur c) (B:Nat) (hB:10≤B):Yes ((gU c 2)>>=fun (y3:Bool×aB)=>if y3.1=true then ((fT y3.2 3)>>=fun (y4:Int×aB)=>(fT y4.2 4)>>=fun (y5:Int×aB)=>some ((aA.mk 2 0 false (bH.mk 0 0 []) y4.1 y5.1 ([]:List aA) ([]:List aQ)),y5.2)) else ((aFh y3.2)>>=fun (y6:bH×aB)=>some ((aA.mk 1 0 false y6.1 0 0 ([]:List aA) ([]:List aQ)),y6.2))) (okE B):=by
  have o:∀ n:Int,-1000≤n→n≤1000→okI n:=fun n h0 h1=>okI_small h0 h1
  refine Yes.bind (jS _ _ h) fun r k=>Yes.ite (fun _=>?_) fun _=>?_
  · refine Yes.bind (fU _ _ k) fun r ⟨a0,a1,k⟩=>Yes.bind (fU _ _ k) fun r2 ⟨b0,b1,k⟩=>Yes.some ⟨⟨?_,?_⟩,k⟩
    · have:=a1 (by decide); have:=b1 (by decide)
      exact mkE (o _ (by omega) (by omega)) (o _ (by omega) (by omega)) aQ2 (o _ (by omega) (by omega)) (o _ (by omega) (by omega)) (by simp) (by simp) (by simp) (by simp)
    · rw [sS]; simp [zL]
  · refine Yes.bind (bZo _ k) fun r hr=>Yes.some ⟨?_,hr.2.2⟩
    have:=okV_E (B:=4) (q:=false) hr (o 1 (by omega) (by omega)) (o 0 (by omega) (by omega)) (o 0 (by omega) (by omega)) (o 0 (by omega) (by omega))
    refine ⟨this.1,?_⟩
    have h2:=this.2
    show aZ (aA.mk 1 0 false r.1 0 0 [] [])≤B
    omega
theorem bF9 (n:Nat):10≤Zb n:=by cases n <;> simp only [Zb] <;> omega
theorem bHf:∀ (n:Nat) (d:Int) (c:aB),-100≤d→d≤n→n≤4→okCur c→Yes (rH c d) (okE (Zb n)):=by
  intro n
  have o:∀ n:Int,-1000≤n→n≤1000→okI n:=fun n h0 h1=>okI_small h0 h1
  induction n with
  | zero =>
    intro d c hd0 hd _ h
    rw [rH]
    refine Yes.bind (R8 _ _ _ _ h) fun r k=>Yes.bind (Q:=fun q=>q=true) ⟨_,rfl,by rw [if_pos (by simpa using hd)]⟩ fun q hq=>?_
    rw [if_pos hq]
    exact bLp _ k _ (XK _)
  | succ n ih =>
    intro d c hd0 hd hn h
    have hB:Zb (n+1)=60+11 * Zb n:=rfl
    rw [rH]
    refine Yes.bind (R8 _ _ _ _ h) fun r k=>Yes.bind (Q:=fun q=>q=true∨0<d) ⟨_,rfl,?_⟩ fun q hq=>Yes.ite (fun _=>bLp _ k _ (bF9 _)) fun hq2=>?_
    · by_cases h0:d≤0
      · exact .inl (by rw [if_pos (by simpa using h0)])
      · exact .inr (by omega)
    · have h0:0<d:=hq.resolve_left hq2
      rw [hB]
      have e1:QC .i64 (d - 1)=d - 1:=eX (by omega) (by omega)
      have K:∀ m c,m≤3→okCur c→Yes (vX c d m) (okKs (Zb n)):=fun m c hm k=>bC3 (Zb n) d m hm (fun c k=>by rw [e1]; exact ih _ c (by omega) (by omega) (by omega) k) c k
      have P2:∀ c,1<d→okCur c→Yes (aBn c (QC .i64 (d - 2))) (okP (Zb n)):=fun c h2 k=>by
        rw [eX (n:=d - 2) (by omega) (by omega)]
        have H:∀ c,okCur c→Yes (rH c (d - 2)) (okE (Zb n)):=fun c k=>ih _ c (by omega) (by omega) (by omega) k
        exact bI2 H (fun c k=>bC3 (Zb n) _ 1 (by omega) (fun c k=>by rw [eX (n:=d - 2+1) (by omega) (by omega),eX (by omega) (by omega)]; have:=H c k; rwa [show d - 2+1 - 1=d - 2 by omega]) c k) c k
      have J0:∀ y:Int×aB,okCur y.2→Yes (aDg d y) (okE (60+11 * Zb n)):=fun y k=>by
        rw [aDg]
        exact Yes.bind (fU _ _ k) fun r ⟨a0,a1,k⟩=>Yes.bind (K 2 _ (by omega) k) fun r2 ⟨hk,k⟩=>Yes.some ⟨aL0 (o _ (by omega) (by omega)) (bJt _ (by omega) (by have:=a1 (by decide); omega)) (o _ (by omega) (by omega)) (o _ (by omega) (by omega)) hk,k⟩
      refine Yes.bind (fU _ _ k) fun r ⟨_,_,k⟩=>Yes.ite (fun _=>?_) fun _=>Yes.ite (fun _=>?_) fun _=>Yes.ite (fun _=>?_) fun _=>Yes.ite (fun _=>?_) fun _=>Yes.ite (fun _=>?_) fun _=>Yes.ite (fun _=>?_) fun _=>J0 _ k
      · exact Yes.bind (fU _ _ k) fun r ⟨a0,a1,k⟩=>Yes.bind (K 1 _ (by omega) k) fun r2 ⟨hk,k⟩=>Yes.some ⟨aL0 (o _ (by omega) (by omega)) (bJt _ (by omega) (by have:=a1 (by decide); omega)) (o _ (by omega) (by omega)) (o _ (by omega) (by omega)) hk,k⟩
      · exact Yes.bind (jS _ _ k) fun r k=>Yes.bind (K 1 _ (by omega) k) fun r2 ⟨hk,k⟩=>Yes.some ⟨aL0 (o _ (by omega) (by omega)) (o _ (by omega) (by omega)) (o _ (by omega) (by omega)) (o _ (by omega) (by omega)) hk,k⟩
      · exact Yes.bind (jS _ _ k) fun r k=>Yes.bind (K 3 _ (by omega) k) fun r2 ⟨hk,k⟩=>Yes.some ⟨aL0 (o _ (by omega) (by omega)) (o _ (by omega) (by omega)) (o _ (by omega) (by omega)) (o _ (by omega) (by omega)) hk,k⟩
      · exact Yes.bind (jS _ _ k) fun r k=>Yes.bind (K 3 _ (by omega) k) fun r2 ⟨hk,k⟩=>Yes.some ⟨aL0 (o _ (by omega) (by omega)) (o _ (by omega) (by omega)) (o _ (by omega) (by omega)) (o _ (by omega) (by omega)) hk,k⟩
      · refine Yes.ite (fun h2=>?_) fun _=>J0 _ k
        exact Yes.bind (jS _ _ k) fun r k=>Yes.bind (K 1 _ (by omega) k) fun r2 ⟨hk,k⟩=>Yes.bind (P2 _ (by simpa using h2) k) fun r3 ⟨hp,k⟩=>Yes.some ⟨bLj (o _ (by omega) (by omega)) (o _ (by omega) (by omega)) (o _ (by omega) (by omega)) (o _ (by omega) (by omega)) hk hp,k⟩
      · refine Yes.ite (fun h2=>?_) fun _=>J0 _ k
        exact Yes.bind (P2 _ (by simpa using h2) k) fun r3 ⟨hp,k⟩=>Yes.some ⟨bLj (o _ (by omega) (by omega)) (o _ (by omega) (by omega)) (o _ (by omega) (by omega)) (o _ (by omega) (by omega)) ⟨by simp,by simp⟩ hp,k⟩
def FZ (B:Nat) (r:aA×aB):Prop:=aZ r.1≤B∧okCur r.2
def KZ (B m:Nat) (r:List aA×aB):Prop:=(r.1.length≤m∧∀ y ∈ r.1,aZ y≤B)∧okCur r.2
def PZ (B:Nat) (r:aQ×aB):Prop:=dY r.1≤40+8 * B∧okCur r.2
theorem cEg (c:aB) (ty:Int) (h:okCur c):Yes (aL3 c ty) fun r=>r.1.text.length≤4∧okCur r.2:=by
  unfold aL3
  refine Yes.bind (jS _ _ h) fun r k=>Yes.ite (fun _=>Yes.some ⟨by simp,k⟩) fun _=>Yes.ite (fun _=>?_) fun _=>Yes.ite (fun _=>?_) fun _=>?_
  · refine Yes.bind (aBk _ _ (by decide) k) fun r ⟨hm,k⟩=>?_
    have:∀ v ∈ ([[],[97],[98],[97,98]]:List (List UInt8)),v.length≤4:=by decide
    exact Yes.bind (Q:=fun v=>v.text.length≤4) ⟨_,rfl,this _ hm⟩ fun v hv=>Yes.some ⟨hv,k⟩
  · refine Yes.bind (jS _ _ k) fun r k=>Yes.bind (Q:=fun v:bH=>v.text.length≤4) ?_ fun v hv=>Yes.some ⟨hv,k⟩
    unfold aFo
    exact Yes.ite (fun _=>Yes.some (by simp)) fun _=>Yes.some (by simp)
  · exact Yes.bind (rV _ k) fun r ⟨_,k⟩=>Yes.bind (Q:=fun v:bH=>v.text.length≤4) ⟨_,rfl,by simp⟩ fun v hv=>Yes.some ⟨hv,k⟩
theorem bFp (c:aB) (ty:Int) (h:okCur c):Yes (aCa c ty) fun r=>r.1.text.length≤4∧okCur r.2:=by
  unfold aCa aI9
  exact Yes.bind (cEg c ty h) fun r ⟨h1,k⟩=>Yes.ite (fun _=>Yes.bind (bDa _ _ (by decide) k) fun q k=>Yes.some ⟨h1,k⟩) fun _=>Yes.some ⟨h1,k⟩
theorem bVr (c:aB) (env:List (List Int)) (hv:mR env) (hl:env.length≤4194304) (ty:Int) (h:okCur c):Yes (aHn c env ty) (FZ 10):=by
  have key:∀ i,i≤env.length→∀ x b0 b3 b4 (t:List UInt8) u a b j g,t.length≤4→okCur ⟨b,j,g⟩→Yes (aD2 env ty x (i:Nat) b0 b3 b4 (t,u,a,b,j,g)) (FZ 10):=by
    refine eO ?_ ?_
    · intro x b0 b3 b4 t u a b j g ht k
      rw [aD2,if_neg (by simp)]
      refine Yes.some ⟨?_,k⟩
      rw [sS]; simp [zL]; omega
    · intro i hi ih x b0 b3 b4 t u a b j g ht k
      rw [aD2,if_pos (by simpa using hi)]
      have hr:=(hv _ (QM hi)).1
      have inner:∀ m,m≤env[i].length→∀ x b0 b3 b4 (t:List UInt8) u a b j g,t.length≤4→okCur ⟨b,j,g⟩→Yes (aDe env ty (i:Nat) x (m:Nat) b0 b3 b4 (t,u,a,b,j,g)) (FZ 10):=by
        refine eO ?_ ?_
        · intro x b0 b3 b4 t u a b j g ht k
          rw [aDe]
          simp only [bX hi,dD,WR,decide_false,QD,if_false,dX hi (by omega),QB,QA]
          exact ih _ _ _ _ _ _ _ _ _ _ ht k
        · intro m hm im x b0 b3 b4 t u a b j g ht k
          have J2:∀ x b0 b3 b4 (t:List UInt8) u a b j g,t.length≤4→okCur ⟨b,j,g⟩→Yes (aAd env ty (i:Nat) (m:Nat) x b0 b3 b4 (t,u,a,b,j,g)) (FZ 10):=by
            intro x b0 b3 b4 t u a b j g ht k
            rw [aAd,dX hm (by omega)]
            exact im _ _ _ _ _ _ _ _ _ _ ht k
          rw [aDe]
          simp only [bX hi,dD,hm,decide_true,if_true,bX hm,QB,QA]
          refine Yes.ite (fun _=>?_) fun _=>J2 _ _ _ _ _ _ _ _ _ _ ht k
          exact Yes.bind (jS _ _ k) fun r k=>Yes.ite (fun _=>J2 _ _ _ _ _ _ _ _ _ _ (by simp) k) fun _=>J2 _ _ _ _ _ _ _ _ _ _ ht k
      simpa using inner 0 (by omega) x b0 b3 b4 t u a b j g ht k
  unfold aHn
  refine Yes.bind (bFp c ty h) fun r ⟨h1,k⟩=>?_
  simpa using key 0 (by omega) _ _ _ _ _ _ _ _ _ _ h1 k
theorem cAc (B:Nat) (cat:aP) (env:List (List Int)) (ty d:Int) (m:Int) (hm:m≤4) (H:∀ c,okCur c→Yes (tZ c cat env ty (QC .i64 (d - 1))) (FZ B)) (c:aB) (h:okCur c):Yes (pI c cat env ty d m) (KZ B 4):=by
  have key:∀ (k:Nat) (i:Int) b j h (l:List aA),m≤k+i→0≤i→i≤4→(l.length:Int)≤i→(∀ y ∈ l,aZ y≤B)→okCur ⟨b,j,h⟩→Yes (D8 env ty d m cat i (b,j,h,l)) (KZ B 4):=by
    intro k
    induction k with
    | zero =>
      intro i b j h l h1 h2 h3 h4 h5 h6
      rw [D8,if_neg (by simp; omega)]
      exact Yes.some ⟨⟨by show l.length≤4; omega,h5⟩,h6⟩
    | succ k ih =>
      intro i b j h l h1 h2 h3 h4 h5 h6
      rw [D8]
      refine Yes.ite (fun hi=>?_) fun _=>Yes.some ⟨⟨by show l.length≤4; omega,h5⟩,h6⟩
      have hi':i<m:=by simpa using hi
      refine Yes.bind (H _ h6) fun r ⟨hz,hr⟩=>Yes.bind (jZ (by simp; omega)) fun y hy=>?_
      subst hy
      rw [eX (by omega) (by omega)]
      exact ih _ _ _ _ _ (by omega) (by omega) (by omega) (by simp; omega) (nQ h5 hz) hr
  rw [pI]
  exact key m.toNat 0 c.b c.i c.h [] (by omega) (by omega) (by omega) (by simp) (by simp) h
def qO (n:Int) (B:Nat) (o:List (List aA)):Prop:=(o.length:Int)≤n∧∀ l ∈ o,l.length≤1∧∀ y ∈ l,aZ y≤B
def qL (n:Int) (B:Nat) (l:List aA):Prop:=(l.length:Int)≤n∧∀ y ∈ l,aZ y≤B
def qK (B:Nat) (l:List bN):Prop:=l.length≤1∧∀ k ∈ l,aZ k.expr≤B
theorem aP9 {B:Nat} {t:List Int} {o:List (List aA)} {w i:List aA} {r:List bN} {n:List (List UInt8)} {d:Bool} {l:Int} (ht:t.length≤2) (ho:qO 2 B o) (hw:qL 1 B w) (hr:qK B r) (hi:qL 2 B i) (hn:pN 2 n):dY (aQ.mk t o w r i n d l)≤40+8 * B:=by
  obtain ⟨o1,o2⟩:=ho
  obtain ⟨w1,w2⟩:=hw
  obtain ⟨r1,r2⟩:=hr
  obtain ⟨i1,i2⟩:=hi
  obtain ⟨n1,n2⟩:=hn
  have e1:dY (aQ.mk t o w r i n d l)=zL z0 t+zL (zL aZ) o+zL aZ w+zL qD r+zL aZ i+zL WL n:=by simp only [dY,Z8,aKm,aKl,zL]
  have a1:=oZ (z:=z0) (B:=0) (n:=2) (l:=t) (by omega) (fun _ _=>by simp [z0])
  have a2:=oZ (z:=zL aZ) (B:=1 * (1+B)) (n:=2) (l:=o) (by omega) (fun y hy=>oZ (o2 y hy).1 fun x hx=>(o2 y hy).2 x hx)
  have a3:=oZ (z:=aZ) (B:=B) (n:=1) (l:=w) (by omega) (fun y hy=>w2 y hy)
  have a4:=oZ (z:=qD) (B:=B) (n:=1) (l:=r) (by omega) (fun y hy=>by have:=r2 y hy; obtain ⟨p,q⟩:=y; simpa only [qD] using this)
  have a5:=oZ (z:=aZ) (B:=B) (n:=2) (l:=i) (by omega) (fun y hy=>i2 y hy)
  have a6:=oZ (z:=WL) (B:=8) (n:=2) (l:=n) (by omega) n2
  rw [e1]; omega
theorem aRf {cat:aP} (hc:qJ cat) {env:List (List Int)} (hv:mR env) {l:List Int} (hl:l.length≤1000):mR ((gN cat [] l).1::env):=by
  obtain ⟨a,b⟩:=aM8 cat hc l [] (by simp)
  exact aT6 (by simp only [QU] at b; omega) a hv
theorem bWv {B : Nat} {d : Int} {cat : aP} (hc : qJ cat) (env : List (List Int)) (hv : mR env) (hl : env.length ≤ 1000) (types : List Int) (hty : types.length ≤ 2)
    (H:∀ c ty env',mR env'→env'.length=env.length+1→okCur c→Yes (tZ c cat env' ty d) (FZ B)) (c:aB) (h:okCur c):Yes (yR c cat env types d) (PZ B):=by
  have J4:∀ y1 (w:List aA) n i o t b j g r,qL 1 B w→pN 2 n→qL 2 B i→qO 2 B o→t.length≤2→qK B r→okCur ⟨b,j,g⟩→Yes (aC1 y1 w n i o t b j g r) (PZ B):=fun y1 w n i o t b j g r hw hn hi ho ht hr k=>by
    unfold aC1 aGi
    refine Yes.bind (jS _ _ k) fun q k=>Yes.ite (fun _=>?_) fun _=>?_
    · exact Yes.bind (fU _ _ k) fun q ⟨_,_,k⟩=>Yes.some ⟨aP9 ht ho hw hr hi hn,k⟩
    · exact Yes.some ⟨aP9 ht ho hw hr hi hn,k⟩
  have J3:∀ env' y1 n i o t b j g (w:List aA),mR env'→env'.length=env.length+1→qL 1 B w→pN 2 n→qL 2 B i→qO 2 B o→t.length≤2→okCur ⟨b,j,g⟩→Yes (aBw d env' cat y1 n i (o,t,b,j,g,w)) (PZ B):=fun env' y1 n i o t b j g w he hel hw hn hi ho ht k=>by
    rw [aBw]
    refine Yes.bind (jS _ _ k) fun q k=>Yes.ite (fun _=>?_) fun _=>?_
    · refine Yes.bind (fU _ _ k) fun q ⟨_,_,k⟩=>Yes.bind (H _ _ _ he hel k) fun q ⟨hq,k⟩=>Yes.bind (jS _ _ k) fun q2 k=>Yes.bind (jZ (by simp)) fun z hz=>?_
      subst hz
      exact J4 _ _ _ _ _ _ _ _ _ _ hw hn hi ho ht ⟨by simp,mem1 (p:=fun (k:bN)=>aZ k.expr≤B) hq⟩ k
    · exact J4 _ _ _ _ _ _ _ _ _ _ hw hn hi ho ht ⟨by simp,by simp⟩ k
  have L2:∀ env' y1 o t,mR env'→env'.length=env.length+1→qO 2 B o→t.length≤2→∀ x,x≤types.length→∀ b j g n i,pN x n→qL x B i→okCur ⟨b,j,g⟩→Yes (F4 types d env' cat y1 o t ((x:Nat),b,j,g,n,i)) (PZ B):=by
    intro env' y1 o t he hel ho ht
    refine eO ?_ ?_
    · intro b j g n i hn hi k
      rw [F4,if_neg (by simp)]
      have hn2:pN 2 n:=⟨by have:=hn.1; omega,hn.2⟩
      have hi2:qL 2 B i:=⟨by have:=hi.1; omega,hi.2⟩
      refine Yes.bind (jS _ _ k) fun q k=>Yes.ite (fun _=>?_) fun _=>?_
      · exact Yes.bind (H _ _ _ he hel k) fun q ⟨hq,k⟩=>J3 _ _ _ _ _ _ _ _ _ _ he hel ⟨by simp,mem1 hq⟩ hn2 hi2 ho ht k
      · exact J3 _ _ _ _ _ _ _ _ _ _ he hel ⟨by simp,by simp⟩ hn2 hi2 ho ht k
    · intro x hx ih b j g n i hn hi k
      rw [F4,if_pos (by simpa using hx)]
      have l1:=hn.1
      have l2:=hi.1
      simp only [bX hx,dX hx (by omega),QB,QA]
      refine Yes.bind (H _ _ _ he hel k) fun q ⟨hq,k⟩=>Yes.bind (jZ (by simp; omega)) fun z hz=>Yes.bind (aBk _ _ (by decide) k) fun s ⟨hs,k⟩=>Yes.bind (jZ (by simp; omega)) fun z2 hz2=>?_
      subst hz hz2
      have hs8:s.1.length≤8:=by
        have:∀ v ∈ ([[97],[98],[99],[120],[121,32,122],[99,49]]:List (List UInt8)),v.length≤8:=by decide
        exact this _ hs
      exact ih _ _ _ _ _ ⟨by simp; omega,nQ hn.2 hs8⟩ ⟨by simp; omega,nQ hi.2 hq⟩ k
  have L0:∀ (y2:Int×aB) y1,0≤y2.1→y2.1<2→∀ (m:Nat) (x:Int) b j g o (t:List Int),2≤m+x→0≤x→x≤2→qO x B o→(t.length:Int)≤x→okCur ⟨b,j,g⟩→Yes (wS env types d y2 cat y1 (x,b,j,g,o,t)) (PZ B):=by
    intro y2 y1 y0 yl m
    have e0:QC .i64 (1+y2.1)=1+y2.1:=eX (by omega) (by omega)
    have fin:∀ (x:Int) b j g o (t:List Int),¬ x<1+y2.1→x≤2→qO x B o→(t.length:Int)≤x→okCur ⟨b,j,g⟩→Yes (wS env types d y2 cat y1 (x,b,j,g,o,t)) (PZ B):=by
      intro x b j g o t hx h2 ho ht k
      rw [wS]
      dsimp only
      rw [e0,if_neg (by simpa using hx),(T9 cat hc t (by omega)).2]
      simp only [QB,QA]
      rw [(aB8 _ env (by omega)).2]
      simp only [QA]
      exact L2 _ y1 o t (aRf hc hv (by omega)) (by simp) ⟨by have:=ho.1; omega,ho.2⟩ (by omega) 0 (by omega) _ _ _ _ _ ⟨by simp,by simp⟩ ⟨by simp,by simp⟩ k
    induction m with
    | zero=>intro x b j g o t h1 h2 h3 ho ht k; exact fin x b j g o t (by omega) h3 ho ht k
    | succ m ih =>
      intro x b j g o t h1 h2 h3 ho ht k
      by_cases hx:x<1+y2.1
      · rw [wS]
        dsimp only
        rw [e0,if_pos (by simpa using hx)]
        have l1:=ho.1
        have J1:∀ (q:Int) (w:List aA) b j g,w.length≤1→(∀ y ∈ w,aZ y≤B)→okCur ⟨b,j,g⟩→Yes (aAu env types d y2 x cat y1 (t++[q],o,b,j,g,w)) (PZ B):=fun q w b j g hw1 hw2 k=>by
          rw [aAu]
          refine Yes.bind (jZ (by simp; omega)) fun z hz=>?_
          subst hz
          rw [eX (by omega) (by omega)]
          exact ih _ _ _ _ _ _ (by omega) (by omega) (by omega) ⟨by simp; omega,nQ ho.2 ⟨hw1,hw2⟩⟩ (by simp; omega) k
        refine Yes.bind (fU _ _ k) fun q ⟨q0,q1,k⟩=>Yes.bind (jZ (by simp; omega)) fun z hz=>?_
        subst hz
        rw [(T9 cat hc (t++[q.1]) (by simp; omega)).2]
        simp only [QB,QA]
        refine Yes.bind (R8 _ _ _ _ k) fun q2 k=>?_
        refine Yes.ite (fun _=>?_) fun _=>?_
        · rw [(aB8 _ env (by omega)).2]
          simp only [QA]
          refine Yes.bind (H _ _ _ (aRf hc hv (by simp; omega)) (by simp) k) fun e ⟨he,k⟩=>Yes.bind (jZ (by simp)) fun z hz=>?_
          subst hz
          exact J1 _ _ _ _ _ (by simp) (mem1 he) k
        · exact J1 _ _ _ _ _ (by simp) (by simp) k
      · exact fin x b j g o t hx h3 ho ht k
  rw [yR]
  refine Yes.bind (jS _ _ h) fun y1 k=>Yes.bind (fU _ _ k) fun y2 ⟨q0,q1,k⟩=>?_
  exact L0 y2 y1 q0 (q1 (by decide)) 2 0 _ _ _ _ _ (by omega) (by omega) (by omega) ⟨by simp,by simp⟩ (by simp) k
theorem O3 {B:Nat} {a b u t:Int} {q:Bool} {ks:List aA} (hk:ks.length≤4∧∀ y ∈ ks,aZ y≤B):aZ (aA.mk a b q ⟨0,0,[]⟩ u t ks [])≤60+11 * B:=by
  rw [sS]; have:=oZ (z:=aZ) hk.1 hk.2; simp only [zL,QU,WO,WP] at this ⊢; omega
theorem bHc {B:Nat} {a b u t:Int} {q:Bool} {ks:List aA} {p:aQ} (hk:ks.length≤1∧∀ y ∈ ks,aZ y≤B) (hp:dY p≤40+8 * B):aZ (aA.mk a b q ⟨0,0,[]⟩ u t ks [p])≤60+11 * B:=by
  rw [sS]; have:=oZ (z:=aZ) hk.1 hk.2; simp only [zL,QU,QT,QY,WO,WA,WP] at *; omega
theorem bNd (B:Nat) (cat:aP) (env:List (List Int)) (ty d:Int) (H:∀ c,okCur c→Yes (tZ c cat env ty (QC .i64 (d - 1))) (FZ B)) (c:aB) (h:okCur c):Yes (pI c cat env ty d 1) (KZ B 1):=by
  rw [pI,D8,if_pos (by simp)]
  refine Yes.bind (H _ h) fun r ⟨hz,hr⟩=>Yes.bind (jZ (by simp)) fun y hy=>?_
  subst hy
  rw [D8,if_neg (by decide)]
  exact Yes.some ⟨⟨by simp,by simpa using hz⟩,hr⟩
theorem bDk (c:aB) (env:List (List Int)) (hv:mR env) (hl:env.length≤4194304) (ty:Int) (h:okCur c) (B:Nat) (hB:10≤B):Yes ((gU c 3)>>=fun (y3:Bool×aB)=>if y3.1=true then ((aCa y3.2 ty)>>=fun (y4:bH×aB)=>some ((aA.mk 1 0 false y4.1 0 0 ([]:List aA) ([]:List aQ)),y4.2)) else ((aHn y3.2 env ty)>>=fun (y5:aA×aB)=>some (y5.1,y5.2))) (FZ B):=by
  refine Yes.bind (jS _ _ h) fun r k=>Yes.ite (fun _=>?_) fun _=>?_
  · refine Yes.bind (bFp _ _ k) fun r ⟨h1,k⟩=>Yes.some ⟨?_,k⟩
    dsimp only
    rw [sS]; simp [zL]; omega
  · exact Yes.bind (bVr _ env hv hl ty k) fun r ⟨h1,k⟩=>Yes.some ⟨by show aZ r.1≤B; omega,k⟩
theorem cEu {cat:aP} (hc:qJ cat):∀ (n:Nat) (d:Int) (c:aB) (ty:Int) (env:List (List Int)),-100≤d→d≤n→n≤4→mR env→env.length+n≤1000→okCur c→Yes (tZ c cat env ty d) (FZ (Zb n)):=by
  intro n
  induction n with
  | zero =>
    intro d c ty env hd0 hd _ hv hl h
    rw [tZ]
    refine Yes.bind (R8 _ _ _ _ h) fun r k=>Yes.bind (Q:=fun q=>q=true) ⟨_,rfl,by rw [if_pos (by simpa using hd)]⟩ fun q hq=>?_
    rw [if_pos hq]
    exact bDk _ env hv (by omega) ty k _ (XK _)
  | succ n ih =>
    intro d c ty env hd0 hd hn hv hl h
    have hB:Zb (n+1)=60+11 * Zb n:=rfl
    rw [tZ]
    refine Yes.bind (R8 _ _ _ _ h) fun r k=>Yes.bind (Q:=fun q=>q=true∨0<d) ⟨_,rfl,?_⟩ fun q hq=>Yes.ite (fun _=>bDk _ env hv (by omega) ty k _ (bF9 _)) fun hq2=>?_
    · by_cases h0:d≤0
      · exact .inl (by rw [if_pos (by simpa using h0)])
      · exact .inr (by omega)
    have h0:0<d:=hq.resolve_left hq2
    rw [hB]
    have e1:QC .i64 (d - 1)=d - 1:=eX (by omega) (by omega)
    have K:∀ m c ty,m≤4→okCur c→Yes (pI c cat env ty d m) (KZ (Zb n) 4):=fun m c ty hm k=>cAc (Zb n) cat env ty d m hm (fun c k=>by rw [e1]; exact ih _ c ty env (by omega) (by omega) (by omega) hv (by omega) k) c k
    have K1:∀ c ty,okCur c→Yes (pI c cat env ty d 1) (KZ (Zb n) 1):=fun c ty k=>bNd (Zb n) cat env ty d (fun c k=>by rw [e1]; exact ih _ c ty env (by omega) (by omega) (by omega) hv (by omega) k) c k
    have P2:∀ c (t:Int),1<d→okCur c→Yes (yR c cat env [t] (QC .i64 (d - 2))) (PZ (Zb n)):=fun c t h2 k=>by
      rw [eX (n:=d - 2) (by omega) (by omega)]
      exact bWv hc env hv (by omega) [t] (by simp) (fun c ty env' he hel k=>ih _ c ty env' (by omega) (by omega) (by omega) he (by omega) k) c k
    have J1:∀ (y1 y3:Int×aB),okCur y3.2→Yes (aCn env d y1 cat y3) (FZ (60+11 * Zb n)):=fun y1 y3 k=>by
      rw [aCn]
      exact Yes.bind (fU _ _ k) fun r ⟨_,_,k⟩=>Yes.bind (K 2 _ _ (by omega) k) fun r2 ⟨hk,k⟩=>Yes.some ⟨O3 hk,k⟩
    have J0:∀ (y1:Int×aB) (y2:Bool×aB) (y3:Int×aB) x,okCur y3.2→Yes (aH3 env d y1 y2 y3 cat x) (FZ (60+11 * Zb n)):=fun y1 y2 y3 x k=>by
      rw [aH3]
      refine Yes.ite (fun _=>?_) fun _=>Yes.ite (fun _=>?_) fun _=>Yes.ite (fun _=>?_) fun _=>Yes.ite (fun _=>?_) fun _=>Yes.ite (fun _=>?_) fun _=>Yes.ite (fun _=>?_) fun _=>Yes.ite (fun _=>?_) fun _=>J1 _ _ k
      · exact Yes.bind (fU _ _ k) fun r ⟨_,_,k⟩=>Yes.bind (K 2 _ _ (by omega) k) fun r2 ⟨hk,k⟩=>Yes.some ⟨O3 hk,k⟩
      · exact Yes.bind (K 1 _ _ (by omega) k) fun r2 ⟨hk,k⟩=>Yes.some ⟨O3 hk,k⟩
      · exact Yes.bind (K 1 _ _ (by omega) k) fun r2 ⟨hk,k⟩=>Yes.some ⟨O3 hk,k⟩
      · exact Yes.bind (K 3 _ _ (by omega) k) fun r2 ⟨hk,k⟩=>Yes.some ⟨O3 hk,k⟩
      · refine Yes.bind (fU _ _ k) fun r ⟨r0,r1,k⟩=>?_
        have:=r1 (by decide)
        exact Yes.bind (K _ _ _ (by rw [eX (by omega) (by omega)]; omega) k) fun r2 ⟨hk,k⟩=>Yes.some ⟨O3 hk,k⟩
      · refine Yes.ite (fun h2=>?_) fun _=>J1 _ _ k
        exact Yes.bind (K1 _ _ k) fun r2 ⟨hk,k⟩=>Yes.bind (P2 _ _ (by simpa using h2) k) fun r3 ⟨hp,k⟩=>Yes.some ⟨bHc hk hp,k⟩
      · refine Yes.ite (fun h2=>?_) fun _=>J1 _ _ k
        exact Yes.bind (P2 _ _ (by simpa using h2) k) fun r3 ⟨hp,k⟩=>Yes.some ⟨bHc ⟨by simp,by simp⟩ hp,k⟩
    refine Yes.ite (fun _=>?_) fun _=>Yes.ite (fun _=>?_) fun _=>?_
    · refine Yes.bind (jS _ _ k) fun r k=>Yes.ite (fun _=>?_) fun _=>?_
      · exact Yes.bind (K 1 _ _ (by omega) k) fun r2 ⟨hk,k⟩=>Yes.some ⟨O3 hk,k⟩
      · exact Yes.bind (fU _ _ k) fun r ⟨_,_,k⟩=>Yes.bind (K 2 _ _ (by omega) k) fun r2 ⟨hk,k⟩=>Yes.some ⟨O3 hk,k⟩
    · exact Yes.bind (K 2 _ _ (by omega) k) fun r2 ⟨hk,k⟩=>Yes.some ⟨O3 hk,k⟩
    · refine Yes.bind (Q:=FZ (60+11 * Zb n)) ?_ fun r hr=>Yes.some hr
      rw [aQ4]
      exact Yes.bind (fU _ _ k) fun y1 ⟨_,_,k⟩=>Yes.bind (jS _ _ k) fun y2 k=>Yes.bind (fU _ _ k) fun y3 ⟨_,_,k⟩=>Yes.ite (fun _=>J0 _ _ _ _ k) fun _=>J0 _ _ _ _ k
def CR (c:aP):Prop:=(1≤c.tables.length∧c.tables.length≤3)∧∀ t ∈ c.tables,(1≤t.cols.length∧t.cols.length≤3)∧∀ x ∈ rQ t,okT x
theorem CR.cat {c:aP} (h:CR c):qJ c:=⟨by have:=h.1; omega,fun t ht=>⟨by have:=(h.2 t ht).1; omega,(h.2 t ht).2⟩⟩
def okCR (r:aP×aB):Prop:=CR r.1∧okCur r.2
theorem cDc (n s:List UInt8):wC ⟨n,[]⟩ s=some (-1):=by unfold wC; rw [xA]; simp
theorem aOu {i:Nat} (h:i≤1000):QC .i64 ((i:Int)+1)=((i+1:Nat):Int):=by rw [eX (by omega) (by omega)]; omega
theorem bVf (y1:Int×aB) (h0:0≤y1.1) (h3:y1.1<3):∀ (k i:Nat) b j h (T:List bI),3≤k+i→i≤3→T.length=i→(∀ t ∈ T,(1≤t.cols.length∧t.cols.length≤3)∧∀ x ∈ rQ t,okT x)→okCur ⟨b,j,h⟩→Yes (W9 y1 i T b j h) okCR:=by
  intro k
  induction k with
  | zero =>
    intro i b j h T h1 h2 hT hC hc
    rw [W9,if_neg (by rw [decide_eq_true_eq,eX (by omega) (by omega)]; omega)]
    exact Yes.some ⟨⟨⟨by dsimp only; omega,by dsimp only; omega⟩,hC⟩,hc⟩
  | succ k ih =>
    intro i b j h T h1 h2 hT hC hc
    rw [W9]
    by_cases hi:(i:Int)<QC .i64 (1+y1.1)
    case neg =>
      rw [if_neg (by rw [decide_eq_true_eq]; exact hi)]
      rw [eX (by omega) (by omega)] at hi
      exact Yes.some ⟨⟨⟨by dsimp only; omega,by dsimp only; omega⟩,hC⟩,hc⟩
    rw [if_pos (decide_eq_true hi)]
    rw [eX (by omega) (by omega)] at hi
    have hi3:i<([[116],[117],[118]]:List (List UInt8)).length:=by show i<3; omega
    rw [bX hi3]
    simp only [QB,QA]
    refine Yes.bind (fU _ _ hc) fun y3 ⟨k0,k1,hc3⟩=>?_
    have k1:=k1 (by omega)
    generalize ([[116],[117],[118]]:List (List UInt8))[i]=y2
    have fin:∀ b j h (C:List dL),(1≤C.length∧C.length≤3)→(∀ x ∈ C.map dL.type,okT x)→okCur ⟨b,j,h⟩→Yes (appG 40 T ([(bI.mk y2 C)]:List bI)>>=fun y14=>W9 y1 (QC .i64 ((i:Int)+1)) y14 b j h) okCR:=by
      intro b j h C hl ht hc
      refine Yes.bind (jZ (by simp; omega)) fun y e=>?_
      subst e
      rw [aOu (by omega)]
      exact ih (i+1) _ _ _ _ (by omega) (by omega) (by simp; omega) (nQ hC ⟨hl,ht⟩) hc
    have inner:∀ (m x:Nat) b j h (C:List dL),3≤m+x→x≤3→C.length≤x→(1≤x→1≤C.length)→(∀ x ∈ C.map dL.type,okT x)→okCur ⟨b,j,h⟩→Yes (aE2 y1 i y3 T y2 x (C,b,j,h)) okCR:=by
      intro m
      induction m with
      | zero =>
        intro x b j h C m1 m2 hl hl1 ht hc
        rw [aE2,if_neg (by rw [decide_eq_true_eq,eX (by omega) (by omega)]; omega)]
        exact fin b j h C ⟨hl1 (by omega),by omega⟩ ht hc
      | succ m ihm =>
        intro x b j h C m1 m2 hl hl1 ht hc
        rw [aE2]
        by_cases hx:(x:Int)<QC .i64 (1+y3.1)
        case neg =>
          rw [if_neg (by rw [decide_eq_true_eq]; exact hx)]
          rw [eX (by omega) (by omega)] at hx
          exact fin b j h C ⟨hl1 (by omega),by omega⟩ ht hc
        rw [if_pos (decide_eq_true hx)]
        rw [eX (by omega) (by omega)] at hx
        have J3:∀ b j h (C:List dL),C.length≤x+1→1≤C.length→(∀ x ∈ C.map dL.type,okT x)→okCur ⟨b,j,h⟩→Yes (aDz y1 i y3 x T y2 (b,j,h,C)) okCR:=by
          intro b j h C hl hl1 ht hc
          rw [aDz,aOu (by omega)]
          exact ihm (x+1) _ _ _ _ (by omega) (by omega) hl (fun _=>hl1) ht hc
        have J2:∀ (y8:Int×aB) (nm:List UInt8) b j h,okT y8.1→okCur ⟨b,j,h⟩→Yes (aGn y1 i y3 x T y2 C (y8,nm,b,j,h)) okCR:=by
          intro y8 nm b j h h8 hc
          rw [aGn]
          obtain ⟨_,r,hr⟩:=aOh ⟨y2,C⟩ nm (by dsimp only; omega)
          rw [hr]
          simp only [QB,QA]
          refine Yes.ite (fun _=>?_) fun hn=>?_
          · refine Yes.bind (jZ (by simp; omega)) fun y e=>?_
            subst e
            refine J3 _ _ _ _ (by simp; omega) (by simp) ?_ hc
            rw [WT]
            exact nQ ht h8
          · refine J3 _ _ _ _ (by omega) ?_ ht hc
            cases C with
            | cons _ _=>simp
            | nil =>
              rw [cDc] at hr
              simp only [QJ] at hr
              subst hr
              simp at hn
        refine Yes.bind (aUe _ _ (by decide) hc) fun y7 hc=>?_
        obtain ⟨v,c',e,hv,hc⟩:=aUu y7.2 [1,1,2,3] (by decide) hc
        have h8:okT v:=by
          have:∀ v ∈ ([1,1,2,3]:List Int),0≤v∧v≤3:=by decide
          exact this v hv
        rw [e]
        simp only [QB,QA]
        refine Yes.bind (jS _ _ hc) fun y9 hc=>?_
        refine Yes.ite (fun _=>?_) fun _=>J2 _ _ _ _ _ h8 hc
        exact Yes.bind (aLh _ hc) fun y10 ⟨_,hc⟩=>J2 _ _ _ _ _ h8 hc
    exact inner 3 0 _ _ _ _ (by omega) (by omega) (by simp) (by omega) (by simp) hc3
theorem bQz (c:aB) (h:okCur c):Yes (aJ0 c) okCR:=by
  unfold aJ0
  refine Yes.bind (fU _ _ h) fun y1 ⟨k0,k1,hc⟩=>?_
  exact bVf y1 k0 (k1 (by omega)) 3 0 _ _ _ _ (by omega) (by omega) rfl (by simp) hc
theorem cFr (n:Nat) (h:n≤9):∃ t,O5 (n:Int)=some t∧t.length≤9:=by
  have go:∀ k:Nat,k≤9→k≠0→WG (k:Int) 10=k∧QC .i64 (WH (k:Int) 10)=0∧QC .u8 (QC .i64 (48+(k:Int)))=48+(k:Int):=by
    intro k hk h0
    have e1:WG (k:Int) 10=k:=by rw [Int.tmod_eq_emod_of_nonneg (by omega)]; omega
    have e2:WH (k:Int) 10=0:=by rw [Int.tdiv_eq_ediv_of_nonneg (by omega)]; omega
    refine ⟨e1,by rw [e2]; rfl,?_⟩
    rw [eX (by omega) (by omega)]
    unfold QC
    simp only [WI,XL]
    simp; omega
  by_cases h0:n=0
  · subst h0; exact ⟨[48],rfl,by simp⟩
  obtain ⟨e1,e2,e3⟩:=go n h h0
  have hb:ofBytes [48+(n:Int)]=some [UInt8.ofNat (48+(n:Int)).toNat]:=by
    unfold ofBytes
    rw [if_pos (by simp; omega)]
    rfl
  refine ⟨[UInt8.ofNat (48+(n:Int)).toNat],?_,by simp⟩
  unfold O5
  rw [if_neg (by simpa using h0),O0,if_pos (by simpa using h0),e1,if_neg (by simp),aC4,e2,e3,hb]
  simp only [QB,QA]
  have hc:lM [UInt8.ofNat (48+(n:Int)).toNat] []=some [UInt8.ofNat (48+(n:Int)).toNat]:=by unfold lM; rw [if_pos (by simp [maxLen])]; rfl
  rw [hc]
  simp only [QA]
  rw [O0]
  simp
  try omega
theorem bEk (p:Int) (hp:p≤1000):∀ (n:Nat) (x:List Int) (i:Int) (b:List Int) (j h:Int),p≤n+i→0≤i→x.length=i.toNat→i≤1000→(∀ v ∈ x,0≤v∧v<256)→okCur ⟨b,j,h⟩→∃ y c',xO p x i b j h=some (y,c')∧(∀ v ∈ y,0≤v∧v<256)∧okCur c':=by
  intro n
  induction n with
  | zero =>
    intro x i b j h h1 h2 h3 _ h5 h4
    rw [xO,if_neg (by simp; omega)]
    exact ⟨_,_,rfl,h5,h4⟩
  | succ n ih =>
    intro x i b j h h1 h2 h3 hi0 h5 h4
    rw [xO]
    by_cases hi:i<p
    · rw [if_pos (by simpa using hi)]
      obtain ⟨v,c',e1,_,_,e4⟩:=aCu ⟨b,j,h⟩ h4
      simp only [e1,QB,QA]
      rw [iP (by simp; omega),eX (by omega) (by omega)]
      simp only [QA]
      refine ih (x++[QC .u8 v]) (i+1) c'.b c'.i c'.h (by omega) (by omega) (by simp [h3]; omega) (by omega) ?_ e4
      intro u hu
      rcases QZ.1 hu with hu | hu
      · exact h5 u hu
      · have:u=QC .u8 v:=by simpa using hu
        rw [this]; simp [QC,WI,XL]; omega
    · rw [if_neg (by simpa using hi)]
      exact ⟨_,_,rfl,h5,h4⟩
theorem cEk (c:aB) (h:okCur c):Yes (V7 c) fun r=>okCur r.2:=(aLh c h).mono fun _ k=>k.2
theorem bJq (c:aB) (h:okCur c):Yes (E9 c) fun r=>okCur r.2:=by
  unfold E9
  refine Yes.bind (fU _ _ h) fun r ⟨_,_,k⟩=>Yes.ite (fun _=>?_) fun _=>Yes.ite (fun _=>?_) fun _=>Yes.ite (fun _=>?_) fun _=>?_
  · exact Yes.bind (aUe _ _ (by decide) k) fun r k=>Yes.some k
  · refine Yes.bind (Q:=fun l:List (List UInt8)=>l.length=29) ⟨_,rfl,by decide⟩ fun l hl=>Yes.bind (fU _ _ k) fun r ⟨h0,h1,k⟩=>?_
    obtain ⟨v,_,hv⟩:=aGv (l:=l) h0 (by rw [hl]; exact h1 (by decide))
    exact Yes.bind (Q:=fun _=>True) ⟨v,hv,trivial⟩ fun _ _=>Yes.some k
  · refine Yes.bind (fU _ _ k) fun r ⟨h0,h1,k⟩=>?_
    have h1':=h1 (by decide)
    obtain ⟨y,c3,e3,l3,k3⟩:=bEk r.1 (by omega) 5 [] 0 r.2.b r.2.i r.2.h (by omega) (by omega) rfl (by omega) (by simp) k
    obtain ⟨s,hs⟩:=cCe y l3
    exact Yes.bind (Q:=fun z=>z=(y,c3)) ⟨_,e3,rfl⟩ fun z hz=>Yes.bind (Q:=fun _=>True) ⟨s,by rw [hz]; exact hs,trivial⟩ fun _ _=>Yes.some (by rw [hz]; exact k3)
  · exact Yes.bind (cEk _ k) fun r k=>Yes.some k
def okD (r:aP×aB):Prop:=(r.1.tables.length≤5∧∀ t ∈ r.1.tables,t.cols.length≤4)∧okCur r.2
def okC (r:aP×aB):Prop:=(1≤r.1.tables.length∧r.1.tables.length≤3∧∀ t ∈ r.1.tables,t.cols.length≤3)∧okCur r.2
theorem bTm (y1:Int×aB) (h0:0≤y1.1) (h3:y1.1<3):∀ (k i:Nat) b j h (T:List bI) (N:List (List UInt8)),N.length=3→3≤k+i→i≤3→T.length=i→(∀ t ∈ T,t.cols.length≤3)→okCur ⟨b,j,h⟩→Yes (aA9 y1 i b j h T N) okC:=by
  intro k
  induction k with
  | zero =>
    intro i b j h T N hN h1 h2 hT hC hc
    rw [aA9,if_neg (by rw [decide_eq_true_eq,eX (by omega) (by omega)]; omega)]
    exact Yes.some ⟨⟨by dsimp only; omega,by dsimp only; omega,hC⟩,hc⟩
  | succ k ih =>
    intro i b j h T N hN h1 h2 hT hC hc
    rw [aA9]
    by_cases hi:(i:Int)<QC .i64 (1+y1.1)
    case neg =>
      rw [if_neg (by rw [decide_eq_true_eq]; exact hi)]
      rw [eX (by omega) (by omega)] at hi
      exact Yes.some ⟨⟨by dsimp only; omega,by dsimp only; omega,hC⟩,hc⟩
    rw [if_pos (decide_eq_true hi)]
    rw [eX (by omega) (by omega)] at hi
    have hi3:i<N.length:=by omega
    rw [bX hi3]
    simp only [QB,QA]
    refine Yes.bind (fU _ _ hc) fun y3 ⟨k0,k1,hc3⟩=>?_
    have k1:=k1 (by omega)
    generalize N[i]=y2
    have fin:∀ b j h (C:List dL),C.length≤3→okCur ⟨b,j,h⟩→Yes (appG 40 T ([(bI.mk y2 C)]:List bI)>>=fun y14=>aA9 y1 (QC .i64 ((i:Int)+1)) b j h y14 (N.set ((i:Int)).toNat y2)) okC:=by
      intro b j h C hl hc
      refine Yes.bind (jZ (by simp; omega)) fun y e=>?_
      subst e
      rw [aOu (by omega)]
      exact ih (i+1) _ _ _ _ _ (by simpa using hN) (by omega) (by omega) (by simp; omega) (nQ hC hl) hc
    have inner:∀ (m x:Nat) b j h (C:List dL),3≤m+x→x≤3→C.length≤x→okCur ⟨b,j,h⟩→Yes (aDu y1 i y3 y2 T N (x,b,j,h,C)) okC:=by
      intro m
      induction m with
      | zero =>
        intro x b j h C m1 m2 hl hc
        rw [aDu,if_neg (by rw [decide_eq_true_eq,eX (by omega) (by omega)]; omega)]
        exact fin b j h C (by omega) hc
      | succ m ihm =>
        intro x b j h C m1 m2 hl hc
        rw [aDu]
        by_cases hx:(x:Int)<QC .i64 (1+y3.1)
        case neg =>
          rw [if_neg (by rw [decide_eq_true_eq]; exact hx)]
          exact fin b j h C (by omega) hc
        rw [if_pos (decide_eq_true hx)]
        rw [eX (by omega) (by omega)] at hx
        have J3:∀ b j h (C:List dL),C.length≤x+1→okCur ⟨b,j,h⟩→Yes (aEd y1 i y3 x y2 b (j,h,T,N,C)) okC:=by
          intro b j h C hl hc
          rw [aEd,aOu (by omega)]
          exact ihm (x+1) _ _ _ _ (by omega) (by omega) hl hc
        have J2:∀ (y8:Int×aB) (nm:List UInt8) b j h,okCur ⟨b,j,h⟩→Yes (aGc y1 i y3 x y2 y8 C (T,N,nm,b,j,h)) okC:=by
          intro y8 nm b j h hc
          rw [aGc]
          obtain ⟨_,r,hr⟩:=aOh ⟨y2,C⟩ nm (by dsimp only; omega)
          rw [hr]
          simp only [QB,QA]
          refine Yes.ite (fun _=>?_) fun _=>J3 _ _ _ _ (by omega) hc
          refine Yes.bind (jZ (by simp; omega)) fun y e=>?_
          subst e
          exact J3 _ _ _ _ (by simp; omega) hc
        refine Yes.bind (aUe _ _ (by decide) hc) fun y7 hc=>?_
        refine Yes.bind (bDa _ _ (by decide) hc) fun y8 hc=>?_
        refine Yes.bind (jS _ _ hc) fun y9 hc=>?_
        refine Yes.ite (fun _=>?_) fun _=>J2 _ _ _ _ _ hc
        exact Yes.bind (aLh _ hc) fun y10 ⟨_,hc⟩=>J2 _ _ _ _ _ hc
    exact inner 3 0 _ _ _ _ (by omega) (by omega) (by simp) hc3
theorem bSv (c:aB) (h:okCur c):Yes (aJt c) okC:=by
  unfold aJt
  refine Yes.bind (fU _ _ h) fun y1 ⟨k0,k1,hc⟩=>?_
  exact bTm y1 k0 (k1 (by omega)) 3 0 _ _ _ _ _ (by simp) (by omega) (by omega) rfl (by simp) hc
theorem cFc:∀ (k:Nat) b j h (T:List bI),5≤k+T.length→T.length≤5→(∀ t ∈ T,t.cols.length≤4)→okCur ⟨b,j,h⟩→Yes (aAi b j h T) okD:=by
  intro k
  induction k with
  | zero =>
    intro b j h T h1 h2 hC hc
    rw [aAi]
    refine Yes.bind (fU _ _ hc) fun y ⟨k0,k1,hc⟩=>?_
    have k1:=k1 (by omega)
    rw [if_neg (by rw [decide_eq_true_eq,eX (by omega) (by omega)]; omega)]
    exact Yes.some ⟨⟨h2,hC⟩,hc⟩
  | succ k ih =>
    intro b j h T h1 h2 hC hc
    rw [aAi]
    refine Yes.bind (fU _ _ hc) fun y ⟨k0,k1,hc⟩=>?_
    have k1:=k1 (by omega)
    by_cases hi:(T.length:Int)<QC .i64 (4+y.1)
    case neg =>
      rw [if_neg (by rw [decide_eq_true_eq]; exact hi)]
      exact Yes.some ⟨⟨h2,hC⟩,hc⟩
    rw [if_pos (decide_eq_true hi)]
    rw [eX (by omega) (by omega)] at hi
    obtain ⟨t,ht,hl⟩:=cFr T.length (by omega)
    rw [ht]
    simp only [QB,QA]
    have hcat:lM [120] t=some ([120]++t):=by unfold lM; rw [if_pos (by simp [maxLen]; omega)]
    rw [hcat]
    simp only [QA]
    rw [iP (by simp; omega)]
    simp only [QA]
    exact ih _ _ _ _ (by simp; omega) (by simp; omega) (nQ hC (by simp)) hc
theorem aV8 {T:List bI} {x:bI} {n:Nat} (hT:∀ t ∈ T,t.cols.length≤4) (hx:x.cols.length≤4):∀ t ∈ T.set n x,t.cols.length≤4:=fun t ht=>by
  rcases List.mem_or_eq_of_mem_set ht with h | rfl
  · exact hT t h
  · exact hx
theorem bS4 (c:aB) (h:okCur c):Yes (aK0 c) okD:=by
  have J0:∀ b j h (T:List bI),T.length≤5→(∀ t ∈ T,t.cols.length≤4)→okCur ⟨b,j,h⟩→Yes (D9 T b j h) okD:=fun b j h T h1 h2 hc=>Yes.some ⟨⟨h1,h2⟩,hc⟩
  unfold aK0
  refine Yes.bind (bSv _ h) fun y1 ⟨⟨l1,l3,lc⟩,hc⟩=>?_
  have lc4:∀ t ∈ y1.1.tables,t.cols.length≤4:=fun t ht=>WV (lc t ht) (by omega)
  have e0:idx y1.1.tables 0=some y1.1.tables[0]:=bX (i:=0) (by omega)
  have h0:y1.1.tables[0].cols.length≤3:=lc _ (QM (by omega))
  refine Yes.bind (fU _ _ hc) fun y2 ⟨_,_,hc⟩=>Yes.ite (fun _=>?_) fun _=>Yes.ite (fun _=>?_) fun _=>Yes.ite (fun _=>?_) fun _=>Yes.ite (fun _=>?_) fun _=>Yes.ite (fun _=>?_) fun _=>Yes.ite (fun _=>?_) fun _=>?_
  · rw [e0]
    simp only [QB,QA]
    rw [iP (by simp; omega)]
    simp only [QA]
    refine J0 _ _ _ _ (by simp; omega) (fun t ht=>?_) hc
    rcases QZ.1 ht with ht | ht
    · exact lc4 t ht
    · rw [XG] at ht; subst ht; omega
  · rw [e0]
    simp only [QB,QA]
    refine Yes.bind (bJq _ hc) fun y6 hc=>Yes.bind (fU _ _ hc) fun y7 ⟨_,_,hc⟩=>?_
    rw [iP (by simp; omega)]
    simp only [QB,QA]
    exact J0 _ _ _ _ (by simp; omega) (aV8 lc4 (by simp; omega)) hc
  · refine Yes.bind (bJq _ hc) fun y9 hc=>?_
    rw [e0]
    simp only [QB,QA]
    exact J0 _ _ _ _ (by simp; omega) (aV8 lc4 (by simp; omega)) hc
  · rw [e0]
    simp only [QB,QA]
    exact J0 _ _ _ _ (by simp; omega) (aV8 lc4 (by simp)) hc
  · exact J0 _ _ _ _ (by simp) (by simp) hc
  · exact cFc 5 _ _ _ _ (by omega) (by omega) lc4 hc
  · exact J0 _ _ _ _ (by omega) lc4 hc
theorem aKc:mR []:=fun r hr=>by simp at hr
theorem CR.small {c:aP} (h:CR c):aBe c:=⟨by have:=h.1; omega,fun t ht=>by have:=(h.2 t ht).1; omega⟩
theorem aJ8 {a b:List UInt8} (h:a.length+b.length≤1073741824):lM a b=some (a++b):=by
  unfold lM; rw [if_pos (WV h (by decide))]
theorem bQb {d:Nat} (h:d<10) (x4:List UInt8):ofBytes ([(QC .u8 (QC .i64 (48+(d:Int))))]:List Int)=some [UInt8.ofNat (48+d)]:=by
  match d,h with
  | 0,_=>rfl
  | 1,_=>rfl
  | 2,_=>rfl
  | 3,_=>rfl
  | 4,_=>rfl
  | 5,_=>rfl
  | 6,_=>rfl
  | 7,_=>rfl
  | 8,_=>rfl
  | 9,_=>rfl
theorem bSe (p0 : Int) : ∀ n : Nat, n ≤ 9223372036854775808 → ∀ out : List UInt8, out.length + Lib.nDigits n ≤ 1000 → ∀ x0 : Int, (x0 = n ∨ x0 = -(n : Int)) →
    O0 p0 x0 out=some ((if p0<0 then [45] else [])++((if n=0 then [] else Lib.decDigits n)++out)):=by
  intro n
  induction n using Nat.strongRecOn with
  | ind n ih =>
    intro hn out ho x0 hx
    rw [O0]
    by_cases h0:n=0
    · subst h0
      have:x0=0:=by omega
      subst this
      have hc:lM [45] out=some (45::out):=aJ8 (by simp; omega)
      by_cases hp:p0<0 <;> simp [hp,hc]
    · have hx0:x0≠0:=by omega
      have hdiv:WH x0 10=((n / 10:Nat):Int)∨WH x0 10 = -((n / 10:Nat):Int):=by
        rcases hx with rfl | rfl
        · left; simp [WH]
        · right; rw [Int.neg_tdiv]; simp [WH]
      have hdd:QC .i64 (WH x0 10)=WH x0 10:=eX (by omega) (by omega)
      have hm:WG x0 10=((n % 10:Nat):Int)∨WG x0 10 = -((n % 10:Nat):Int):=by
        rcases hx with rfl | rfl
        · left; simp [WG]
        · right; rw [Int.neg_tmod]; simp [WG]
      have hlt:n % 10<10:=Nat.mod_lt _ (by omega)
      have hnd:Lib.nDigits (n / 10)≤Lib.nDigits n:=by
        by_cases hs:n<10
        · have:n / 10=0:=by omega
          rw [this,Lib.nDigits_small (by omega)]; exact Lib.nDigits_pos _
        · rw [Lib.nDigits_big hs]; omega
      have hnd1:n / 10≠0→Lib.nDigits (n / 10)+1=Lib.nDigits n:=fun h=>by rw [← Lib.nDigits_big (u:=n) (by omega)]
      have hpos:=Lib.nDigits_pos n
      have key:aC4 x0 p0 out ((n % 10:Nat):Int)=some ((if p0<0 then [45] else [])++(Lib.decDigits n++out)):=by
        rw [aC4,bQb hlt out]
        simp only [QB,QA]
        rw [aJ8 (by simp; omega)]
        simp only [QA]
        rw [hdd]
        by_cases hs:n / 10=0
        · have hz:WH x0 10=0:=by omega
          have hn10:n<10:=by omega
          rw [hz,O0]
          have hmod:n % 10=n:=Nat.mod_eq_of_lt hn10
          have hc:lM [45] ([UInt8.ofNat (48+n % 10)]++out)=some (45::([UInt8.ofNat (48+n % 10)]++out)):=aJ8 (by simp; omega)
          rw [Lib.decDigits_one hn10]
          by_cases hp:p0<0
          · simp [hp,hmod] at hc ⊢
            rw [hc]
          · simp [hp,hmod]
        · rw [ih (n / 10) (by omega) (by omega) _ (by have:=hnd1 hs; simp; omega) _ hdiv,if_neg hs]
          conv=>rhs; rw [Lib.decDigits,dif_neg (by omega)]
          simp
      rw [if_pos (by simp [hx0]),if_neg h0]
      by_cases hneg:WG x0 10<0
      · rw [if_pos (by simp [hneg])]
        have e:QC .i64 (0 - WG x0 10)=((n % 10:Nat):Int):=by rw [eX (by omega) (by omega)]; omega
        rw [e,key]
      · rw [if_neg (by simp [hneg])]
        have e:WG x0 10=((n % 10:Nat):Int):=by omega
        rw [e,key]
theorem bHw (n:Int) (h1 : -9223372036854775808≤n) (h2:n≤9223372036854775807):O5 n=some (Lib.itoa n):=by
  unfold O5
  by_cases h0:n=0
  · subst h0; simp; rw [Lib.itoa]; simp; rw [Lib.decDigits_one (by omega)]; rfl
  · have hl:Lib.nDigits n.natAbs≤20:=Lib.nDigits_le20 _ (by omega)
    rw [if_neg (by simp [h0]),bSe n n.natAbs (by omega) [] (by simp; omega) n (by omega),if_neg (show ¬ n.natAbs=0 by omega)]
    unfold Lib.itoa
    by_cases hn:n<0
    · simp [hn]
    · have:n.natAbs=n.toNat:=by omega
      simp [hn,this]
end Go.Ab
