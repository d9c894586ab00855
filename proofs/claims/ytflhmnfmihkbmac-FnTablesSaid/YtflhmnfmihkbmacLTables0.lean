/- What the functions compute,in plain Lean. -/
import Derived.Test.YtflhmnfmihkbmacFTables
namespace Go.Ab
open Go
structure kH where
  op:Bool
  not_:Bool
  value:Bool
  name:Bool
  least:Int
  most:Int
  subs:Int
instance:Inhabited kH:=⟨(kH.mk false false false false 0 0 0)⟩
def xB (p0:(List UInt8)):Option Bool :=
  (some (if (decide (1≤(p0.length:Int)))=true then (decide ((p0.length:Int)≤20)) else false))>>=fun (y1:Bool)=>some y1
def M9 (p0:(List UInt8)):Option Bool :=
  (if (true&&((decide (p0=[]))==false))=true then xB p0 else some default)>>=fun (y1:Bool)=>(some (if (decide (p0=[]))=true then true else y1))>>=fun (y2:Bool)=>some y2
mutual
def aIo (p1:(List aA)) (p0:(List aA)) (x17:Int):Option Bool :=
  if (decide (x17<(p0.length:Int)))=true then ((idx p0 x17)>>=fun (y1:aA)=>(idx p1 x17)>>=fun (y2:aA)=>(aAn y1 y2)>>=fun (y3:Bool)=>if (!y3)=true then (some false) else (aIo p1 p0 (IntKind.wrap .i64 (x17+1)))) else (some true)
  partial_fixpoint
def aJj (p0:(List aA)) (p1:(List aA)):Option Bool :=
  if (!decide ((p0.length:Int)=(p1.length:Int)))=true then (some false) else (aIo p1 p0 0)
  partial_fixpoint
def G7 (p0:(List aA)) (p1:(List aA)):Option Bool :=
  (aJj p0 p1)>>=fun (y1:Bool)=>some y1
  partial_fixpoint
def bUk (p0:bI) (p1:bI):Option Bool :=
  (some (if (decide (p0.table=p1.table))=true then (decide (p0.as_=p1.as_)) else false))>>=fun (y1:Bool)=>(if (true&&(y1==true))=true then G7 p0.on_ p1.on_ else some default)>>=fun (y2:Bool)=>(some (if y1=true then y2 else false))>>=fun (y3:Bool)=>some y3
  partial_fixpoint
def aP0 (p1:(List bI)) (p0:(List bI)) (x17:Int):Option Bool :=
  if (decide (x17<(p0.length:Int)))=true then ((idx p0 x17)>>=fun (y1:bI)=>(idx p1 x17)>>=fun (y2:bI)=>(bUk y1 y2)>>=fun (y3:Bool)=>if (!y3)=true then (some false) else (aP0 p1 p0 (IntKind.wrap .i64 (x17+1)))) else (some true)
  partial_fixpoint
def aQ3 (p0:(List bI)) (p1:(List bI)):Option Bool :=
  if (!decide ((p0.length:Int)=(p1.length:Int)))=true then (some false) else (aP0 p1 p0 0)
  partial_fixpoint
def bR0 (p0:dU) (p1:dU):Option Bool :=
  (if (true&&((p0.desc==p1.desc)==true))=true then aAn p0.expr p1.expr else some default)>>=fun (y1:Bool)=>(some (if (p0.desc==p1.desc)=true then y1 else false))>>=fun (y2:Bool)=>some y2
  partial_fixpoint
def aQ4 (p1:(List dU)) (p0:(List dU)) (x17:Int):Option Bool :=
  if (decide (x17<(p0.length:Int)))=true then ((idx p0 x17)>>=fun (y1:dU)=>(idx p1 x17)>>=fun (y2:dU)=>(bR0 y1 y2)>>=fun (y3:Bool)=>if (!y3)=true then (some false) else (aQ4 p1 p0 (IntKind.wrap .i64 (x17+1)))) else (some true)
  partial_fixpoint
def aQ8 (p0:(List dU)) (p1:(List dU)):Option Bool :=
  if (!decide ((p0.length:Int)=(p1.length:Int)))=true then (some false) else (aQ4 p1 p0 0)
  partial_fixpoint
def bIy (p0:bH) (p1:bH):Option Bool :=
  (some (if (p0.star==p1.star)=true then (decide (p0.qual=p1.qual)) else false))>>=fun (y1:Bool)=>(some (if y1=true then (decide (p0.as_=p1.as_)) else false))>>=fun (y2:Bool)=>(if (true&&(y2==true))=true then aAn p0.expr p1.expr else some default)>>=fun (y3:Bool)=>(some (if y2=true then y3 else false))>>=fun (y4:Bool)=>some y4
  partial_fixpoint
def aLt (p1:(List bH)) (p0:(List bH)) (x17:Int):Option Bool :=
  if (decide (x17<(p0.length:Int)))=true then ((idx p0 x17)>>=fun (y1:bH)=>(idx p1 x17)>>=fun (y2:bH)=>(bIy y1 y2)>>=fun (y3:Bool)=>if (!y3)=true then (some false) else (aLt p1 p0 (IntKind.wrap .i64 (x17+1)))) else (some true)
  partial_fixpoint
def aOo (p0:(List bH)) (p1:(List bH)):Option Bool :=
  if (!decide ((p0.length:Int)=(p1.length:Int)))=true then (some false) else (aLt p1 p0 0)
  partial_fixpoint
def aN0 (p0:aQ) (p1:aQ):Option Bool :=
  (some (if (p0.distinct==p1.distinct)=true then (decide (p0.limit=p1.limit)) else false))>>=fun (y1:Bool)=>(if (true&&(y1==true))=true then aOo p0.items p1.items else some default)>>=fun (y2:Bool)=>(some (if y1=true then y2 else false))>>=fun (y3:Bool)=>(if (true&&(y3==true))=true then aQ3 p0.from_ p1.from_ else some default)>>=fun (y4:Bool)=>(some (if y3=true then y4 else false))>>=fun (y5:Bool)=>(if (true&&(y5==true))=true then G7 p0.where_ p1.where_ else some default)>>=fun (y6:Bool)=>(some (if y5=true then y6 else false))>>=fun (y7:Bool)=>(if (true&&(y7==true))=true then aQ8 p0.order p1.order else some default)>>=fun (y8:Bool)=>(some (if y7=true then y8 else false))>>=fun (y9:Bool)=>some y9
  partial_fixpoint
def aPz (p1:(List aQ)) (p0:(List aQ)) (x17:Int):Option Bool :=
  if (decide (x17<(p0.length:Int)))=true then ((idx p0 x17)>>=fun (y1:aQ)=>(idx p1 x17)>>=fun (y2:aQ)=>(aN0 y1 y2)>>=fun (y3:Bool)=>if (!y3)=true then (some false) else (aPz p1 p0 (IntKind.wrap .i64 (x17+1)))) else (some true)
  partial_fixpoint
def aO7 (p0:(List aQ)) (p1:(List aQ)):Option Bool :=
  if (!decide ((p0.length:Int)=(p1.length:Int)))=true then (some false) else (aPz p1 p0 0)
  partial_fixpoint
def aAn (p0:aA) (p1:aA):Option Bool :=
  (some (if (decide (p0.kind=p1.kind))=true then (decide (p0.op=p1.op)) else false))>>=fun (y1:Bool)=>(some (if y1=true then (p0.not_==p1.not_) else false))>>=fun (y2:Bool)=>(some (if y2=true then ((decide (p0.value.kind=p1.value.kind))&&((decide (p0.value.num=p1.value.num))&&((decide (p0.value.text=p1.value.text))&&true))) else false))>>=fun (y3:Bool)=>(some (if y3=true then (decide (p0.qual=p1.qual)) else false))>>=fun (y4:Bool)=>(some (if y4=true then (decide (p0.name=p1.name)) else false))>>=fun (y5:Bool)=>(if (true&&(y5==true))=true then G7 p0.kids p1.kids else some default)>>=fun (y6:Bool)=>(some (if y5=true then y6 else false))>>=fun (y7:Bool)=>(if (true&&(y7==true))=true then aO7 p0.sub p1.sub else some default)>>=fun (y8:Bool)=>(some (if y7=true then y8 else false))>>=fun (y9:Bool)=>some y9
  partial_fixpoint
end
def aFh (p0:aA):Option Bool :=
  (aAn p0 (aA.mk 0 0 false (bN.mk 0 0 []) [] [] ([]:List aA) ([]:List aQ)))>>=fun (y1:Bool)=>some y1
def aJi (p0:bN):Option Bool :=
  if (decide (p0.kind=0))=true then ((some (if (decide (p0.num=0))=true then (decide (p0.text=[])) else false))>>=fun (y1:Bool)=>some y1) else (if (decide (p0.kind=1))=true then (some (decide (p0.text=[]))) else (if (decide (p0.kind=2))=true then ((some (if (decide (p0.num=0))=true then (decide ((p0.text.length:Int)≤200)) else false))>>=fun (y2:Bool)=>some y2) else (if (decide (p0.kind=3))=true then ((some (if (decide (p0.num=0))=true then true else (decide (p0.num=1))))>>=fun (y3:Bool)=>(some (if y3=true then (decide (p0.text=[])) else false))>>=fun (y4:Bool)=>some y4) else (some false))))
def aD1 (p0:bN):Option Bool :=
  (aJi p0)>>=fun (y1:Bool)=>(if (true&&(y1==true))=true then some (if (!decide (p0.kind=1))=true then true else (decide (0≤p0.num))) else some default)>>=fun (y2:Bool)=>(some (if y1=true then y2 else false))>>=fun (y3:Bool)=>(some (if y3=true then (decide ((p0.text.length:Int)≤40)) else false))>>=fun (y4:Bool)=>some y4
def aC8 (p0:aA):Option (kH×Bool) :=
  if (decide (p0.kind=1))=true then ((aD1 p0.value)>>=fun (y1:Bool)=>some ((kH.mk false false true false 0 0 0),y1)) else (if (decide (p0.kind=2))=true then ((xB p0.name)>>=fun (y2:Bool)=>(if ((true&&(y2==true))&&((decide (p0.qual=[]))==false))=true then xB p0.qual else some default)>>=fun (y3:Bool)=>(if (true&&(y2==true))=true then some (if (decide (p0.qual=[]))=true then true else y3) else some default)>>=fun (y4:Bool)=>(some (if y2=true then y4 else false))>>=fun (y5:Bool)=>some ((kH.mk false false false true 0 0 0),y5)) else (if (decide (p0.kind=3))=true then ((some (if (decide (p0.op=15))=true then true else (decide (p0.op=16))))>>=fun (y6:Bool)=>some ((kH.mk true false false false 1 1 0),y6)) else (if (decide (p0.kind=4))=true then ((some (if (decide (1≤p0.op))=true then (decide (p0.op≤14)) else false))>>=fun (y7:Bool)=>some ((kH.mk true false false false 2 2 0),y7)) else (if (decide (p0.kind=5))=true then (some ((kH.mk false true false false 1 1 0),true)) else (if (decide (p0.kind=6))=true then (some ((kH.mk false true false false 3 3 0),true)) else (if (decide (p0.kind=7))=true then (some ((kH.mk false true false false 2 9 0),true)) else (if (decide (p0.kind=8))=true then (some ((kH.mk false true false false 1 1 1),true)) else (if (decide (p0.kind=9))=true then (some ((kH.mk false false false false 0 0 1),true)) else (some ((kH.mk false false false false 0 0 0),false))))))))))
mutual
def aAx (p0:aQ) (x92:Int):Option Bool :=
  if (decide (x92<(p0.from_.length:Int)))=true then ((idx p0.from_ x92)>>=fun (y17:bI)=>(xB y17.table)>>=fun (y18:Bool)=>(if (true&&((!y18)==false))=true then M9 y17.as_ else some default)>>=fun (y19:Bool)=>(some (if (!y18)=true then true else (!y19)))>>=fun (y20:Bool)=>(some (if y20=true then true else (decide (1<(y17.on_.length:Int)))))>>=fun (y21:Bool)=>(if (true&&(y21==false))=true then some (if (decide (x92=0))=true then (decide (0<(y17.on_.length:Int))) else false) else some default)>>=fun (y22:Bool)=>(some (if y21=true then true else y22))>>=fun (y23:Bool)=>if y23=true then (some false) else (aAx p0 (IntKind.wrap .i64 (x92+1)))) else ((qY p0)>>=fun (y24:(List aA))=>(V5 y24)>>=fun (y25:Bool)=>some y25)
  partial_fixpoint
def aAi (p0:aQ) (x49:Int):Option Bool :=
  if (decide (x49<(p0.items.length:Int)))=true then ((idx p0.items x49)>>=fun (y7:bH)=>(if (true&&(y7.star==true))=true then M9 y7.qual else some default)>>=fun (y8:Bool)=>(if (true&&(y7.star==true))=true then some (if (!y8)=true then true else (!decide (y7.as_=[]))) else some default)>>=fun (y9:Bool)=>(if ((true&&(y7.star==true))&&(y9==false))=true then aFh y7.expr else some default)>>=fun (y10:Bool)=>(if (true&&(y7.star==true))=true then some (if y9=true then true else (!y10)) else some default)>>=fun (y11:Bool)=>(some (if y7.star=true then y11 else false))>>=fun (y12:Bool)=>(if (((true&&(y12==false))&&((!y7.star)==true))&&((!decide (y7.qual=[]))==false))=true then M9 y7.as_ else some default)>>=fun (y13:Bool)=>(if ((true&&(y12==false))&&((!y7.star)==true))=true then some (if (!decide (y7.qual=[]))=true then true else (!y13)) else some default)>>=fun (y14:Bool)=>(if (true&&(y12==false))=true then some (if (!y7.star)=true then y14 else false) else some default)>>=fun (y15:Bool)=>(some (if y12=true then true else y15))>>=fun (y16:Bool)=>if y16=true then (some false) else (aAi p0 (IntKind.wrap .i64 (x49+1)))) else (aAx p0 0)
  partial_fixpoint
def aGd (p0:aQ):Option Bool :=
  (some (if (decide ((p0.items.length:Int)<1))=true then true else (decide (12<(p0.items.length:Int)))))>>=fun (y1:Bool)=>(some (if y1=true then true else (decide ((p0.from_.length:Int)<1))))>>=fun (y2:Bool)=>(some (if y2=true then true else (decide (3<(p0.from_.length:Int)))))>>=fun (y3:Bool)=>(some (if y3=true then true else (decide (1<(p0.where_.length:Int)))))>>=fun (y4:Bool)=>(some (if y4=true then true else (decide (12<(p0.order.length:Int)))))>>=fun (y5:Bool)=>(some (if y5=true then true else (decide (p0.limit<(-1)))))>>=fun (y6:Bool)=>if y6=true then (some false) else (aAi p0 0)
  partial_fixpoint
def aSe (p0:aQ):Option Bool :=
  (aGd p0)>>=fun (y1:Bool)=>some (!y1)
  partial_fixpoint
def aBf (p0:(List aQ)) (x8:Int):Option Int :=
  if (decide (x8<(p0.length:Int)))=true then ((idx p0 x8)>>=fun (y1:aQ)=>(aSe y1)>>=fun (y2:Bool)=>if y2=true then (some x8) else (aBf p0 (IntKind.wrap .i64 (x8+1)))) else (some (-1))
  partial_fixpoint
def aQs (p0:(List aQ)):Option Int :=
  aBf p0 0
  partial_fixpoint
def aBd (p0:(List aQ)):Option Bool :=
  (aQs p0)>>=fun (y1:Int)=>some (decide (0≤y1))
  partial_fixpoint
def rP (p0:aA):Option Bool :=
  (aC8 p0)>>=fun (y1:kH×Bool)=>(if (true&&((!y1.2)==false))=true then some (if (!y1.1.op)=true then (!decide (p0.op=0)) else false) else some default)>>=fun (y2:Bool)=>(some (if (!y1.2)=true then true else y2))>>=fun (y3:Bool)=>(if (true&&(y3==false))=true then some (if (!y1.1.not_)=true then p0.not_ else false) else some default)>>=fun (y4:Bool)=>(some (if y3=true then true else y4))>>=fun (y5:Bool)=>(if (true&&(y5==false))=true then some (if (!y1.1.value)=true then (!((decide (p0.value.kind=0))&&((decide (p0.value.num=0))&&((decide (p0.value.text=[]))&&true)))) else false) else some default)>>=fun (y6:Bool)=>(some (if y5=true then true else y6))>>=fun (y7:Bool)=>(if ((true&&(y7==false))&&((!y1.1.name)==true))=true then some (if (!decide (p0.qual=[]))=true then true else (!decide (p0.name=[]))) else some default)>>=fun (y8:Bool)=>(if (true&&(y7==false))=true then some (if (!y1.1.name)=true then y8 else false) else some default)>>=fun (y9:Bool)=>(some (if y7=true then true else y9))>>=fun (y10:Bool)=>if y10=true then (some false) else ((some (if (decide ((p0.kids.length:Int)<y1.1.least))=true then true else (decide (y1.1.most<(p0.kids.length:Int)))))>>=fun (y11:Bool)=>(some (if y11=true then true else (!decide ((p0.sub.length:Int)=y1.1.subs))))>>=fun (y12:Bool)=>if y12=true then (some false) else ((V5 p0.kids)>>=fun (y13:Bool)=>(if (true&&(y13==true))=true then aBd p0.sub else some default)>>=fun (y14:Bool)=>(some (if y13=true then (!y14) else false))>>=fun (y15:Bool)=>some y15))
  partial_fixpoint
def aTf (p0:aA):Option Bool :=
  (rP p0)>>=fun (y1:Bool)=>some (!y1)
  partial_fixpoint
def aAj (p0:(List aA)) (x8:Int):Option Int :=
  if (decide (x8<(p0.length:Int)))=true then ((idx p0 x8)>>=fun (y1:aA)=>(aTf y1)>>=fun (y2:Bool)=>if y2=true then (some x8) else (aAj p0 (IntKind.wrap .i64 (x8+1)))) else (some (-1))
  partial_fixpoint
def aZc (p0:(List aA)):Option Int :=
  aAj p0 0
  partial_fixpoint
def aT7 (p0:(List aA)):Option Bool :=
  (aZc p0)>>=fun (y1:Int)=>some (decide (0≤y1))
  partial_fixpoint
def V5 (p0:(List aA)):Option Bool :=
  (aT7 p0)>>=fun (y1:Bool)=>some (!y1)
  partial_fixpoint
end
mutual
def aCj (p0:aQ):Option Int :=
  (qY p0)>>=fun (y1:(List aA))=>(aZ1 y1)>>=fun (y2:Int)=>some y2
  partial_fixpoint
def aCx (p0:aA) (dX:Int) (x23:Int):Option Int :=
  if (decide (x23<(p0.sub.length:Int)))=true then ((idx p0.sub x23)>>=fun (y4:aQ)=>(aCj y4)>>=fun (y5:Int)=>aCx p0 (if y5 > dX then y5 else dX) (IntKind.wrap .i64 (x23+1))) else (some (IntKind.wrap .i64 (1+dX)))
  partial_fixpoint
def aH5 (p0:aA) (x3:Int) (x11:Int):Option Int :=
  if (decide (x11<(p0.kids.length:Int)))=true then ((idx p0.kids x11)>>=fun (y1:aA)=>(rQ y1)>>=fun (y2:Int)=>aH5 p0 (if y2 > x3 then y2 else x3) (IntKind.wrap .i64 (x11+1))) else (aCx p0 x3 0)
  partial_fixpoint
def rQ (p0:aA):Option Int :=
  aH5 p0 0 0
  partial_fixpoint
def aGh (p0:(List aA)) (x3:Int) (x8:Int):Option Int :=
  if (decide (x8<(p0.length:Int)))=true then ((idx p0 x8)>>=fun (y1:aA)=>(rQ y1)>>=fun (y2:Int)=>aGh p0 (if y2 > x3 then y2 else x3) (IntKind.wrap .i64 (x8+1))) else (some x3)
  partial_fixpoint
def aZ1 (p0:(List aA)):Option Int :=
  aGh p0 0 0
  partial_fixpoint
end
mutual
def I6 (p0:aQ):Option Int :=
  (qY p0)>>=fun (y1:(List aA))=>(aHe y1)>>=fun (y2:Int)=>some y2
  partial_fixpoint
def aA6 (p0:aA) (x3:Int) (x13:Int):Option Int :=
  if (decide (x13<(p0.sub.length:Int)))=true then ((idx p0.sub x13)>>=fun (y2:aQ)=>(I6 y2)>>=fun (y3:Int)=>aA6 p0 (IntKind.wrap .i64 (x3+y3)) (IntKind.wrap .i64 (x13+1))) else (some x3)
  partial_fixpoint
def oQ (p0:aA):Option Int :=
  (aHe p0.kids)>>=fun (y1:Int)=>aA6 p0 (IntKind.wrap .i64 (1+y1)) 0
  partial_fixpoint
def aGz (p0:(List aA)) (x3:Int) (x8:Int):Option Int :=
  if (decide (x8<(p0.length:Int)))=true then ((idx p0 x8)>>=fun (y1:aA)=>(oQ y1)>>=fun (y2:Int)=>aGz p0 (IntKind.wrap .i64 (x3+y2)) (IntKind.wrap .i64 (x8+1))) else (some x3)
  partial_fixpoint
def aHe (p0:(List aA)):Option Int :=
  aGz p0 0 0
  partial_fixpoint
end
theorem eH {n:Int} (h1 : -9223372036854775808≤n) (h2:n≤9223372036854775807):IntKind.wrap .i64 n=n:=by rw [IntKind.wrap_i64]; omega
theorem fT {i n:Nat} (h:i<n) (hn:n≤4611686018427387904):IntKind.wrap .i64 ((i:Int)+1)=((i+1:Nat):Int):=by rw [eH] <;> omega
theorem eF (i n:Nat):decide ((i:Int)<(n:Int))=decide (i<n):=by simp
theorem aPt {α:Type} (l:List α) (i:Nat):idx l (i:Int)=l[i]?:=by simp [idx]
theorem eZ {α:Type} {l:List α} {i:Nat} (h:i<l.length):idx l (i:Int)=some l[i]:=by rw [aPt]; simp [h]
theorem iG {M:Nat→Prop} {n:Nat} (h0:M n) (h:∀ i,i<n→M (i+1)→M i):∀ i,i≤n→M i:=by
  have:∀ k i,i+k=n→M i:=by
    intro k
    induction k with
    | zero => intro i hi; have : i = n := by omega
              subst this; exact h0
    | succ k ih=>intro i hi; exact h i (by omega) (ih (i+1) (by omega))
  exact fun i hi=>this (n - i) i (by omega)
theorem vC {α:Type} {b:Nat} {l m:List α} (h:(l.length+m.length) * b≤140737488355328):appG b l m=some (l++m):=by unfold appG; rw [if_pos h]
theorem gather {α β γ : Type} {p : List α} {f : α → List β} {G : α → List β → Option (List β)} {L : List β → Int → Option γ} {K : List β → Option γ} {c : Nat} (hp : p.length ≤ 4194304)
    (hG:∀ y ∈ p,∀ acc:List β,acc.length+(f y).length≤c→G y acc=some (acc++f y))
    (hL:∀ (i:Nat) acc,L acc (i:Int)=if (decide ((i:Int)<(p.length:Int)))=true then ((idx p (i:Int))>>=fun y=>(G y acc)>>=fun z=>L z (IntKind.wrap .i64 ((i:Int)+1))) else K acc) :
    ∀ acc:List β,acc.length+(p.flatMap f).length≤c→L acc 0=K (acc++p.flatMap f):=by
  have key:∀ i,i≤p.length→∀ acc:List β,acc.length+((p.drop i).flatMap f).length≤c→L acc (i:Nat)=K (acc++(p.drop i).flatMap f):=by
    refine iG ?_ ?_
    · intro acc _
      rw [hL]; simp
    · intro i hi ih acc ha
      rw [List.drop_eq_getElem_cons hi,List.flatMap_cons,List.length_append] at ha
      rw [hL,eZ hi,fT hi (by omega)]
      simp only [eF,hi,decide_true,if_true,Option.bind_eq_bind,Option.bind_some,hG _ (List.getElem_mem hi) acc (by omega)]
      rw [ih _ (by rw [List.length_append]; omega),List.drop_eq_getElem_cons hi,List.flatMap_cons,List.append_assoc]
  intro acc ha
  simpa using key 0 (by omega) acc (by simpa using ha)
theorem folded {α β γ : Type} {p : List α} {g : α → β → Option β} {h : α → β → β} {L : β → Int → Option γ} {K : β → Option γ} (hp : p.length ≤ 1048576)
    (hg:∀ y ∈ p,∀ b,g y b=some (h y b))
    (hL:∀ (i:Nat) b,L b (i:Int)=if (decide ((i:Int)<(p.length:Int)))=true then ((idx p (i:Int))>>=fun y=>(g y b)>>=fun z=>L z (IntKind.wrap .i64 ((i:Int)+1))) else K b) :
    ∀ b,L b 0=K (p.foldl (fun b y=>h y b) b):=by
  have key:∀ i,i≤p.length→∀ b,L b (i:Nat)=K ((p.drop i).foldl (fun b y=>h y b) b):=by
    refine iG ?_ ?_
    · intro b; rw [hL]; simp
    · intro i hi ih b
      rw [hL,eZ hi,fT hi (by omega)]
      simp only [eF,hi,decide_true,if_true,Option.bind_eq_bind,Option.bind_some,hg _ (List.getElem_mem hi)]
      rw [ih,List.drop_eq_getElem_cons hi,List.foldl_cons]
  intro b
  simpa using key 0 (by omega) b
def zL {α:Type} (z:α→Nat) (l:List α):Nat:=l.length+(l.map z).sum
theorem bC4 {α:Type} (z:α→Nat) (x:α) (l:List α):((x::l).map z).sum=z x+(l.map z).sum:=by simp
theorem tN {α:Type} {z:α→Nat}:∀ {p:List α} {y:α},y ∈ p→z y≤(p.map z).sum
  | x::p,y,h=>by
    rw [bC4]
    rcases List.mem_cons.1 h with rfl | h
    · omega
    · have:=tN (z:=z) h; omega
mutual
def aX:aA→Nat
  | ⟨_,_,_,_,_,_,a6,a7⟩=>(a6.length+bU a6)+(a7.length+fM a7)
def kN:bH→Nat
  | ⟨_,_,a2,_⟩=>aX a2
def eD:aQ→Nat
  | ⟨_,a1,a2,a3,a4,_⟩=>(a1.length+iB a1)+(a2.length+gQ a2)+(a3.length+bU a3)+(a4.length+kL a4)
def oP:dU→Nat
  | ⟨a0,_⟩=>aX a0
def nJ:bI→Nat
  | ⟨_,_,a2⟩=>a2.length+bU a2
def bU:List aA→Nat
  | []=>0
  | x::l=>aX x+bU l
def iB:List bH→Nat
  | []=>0
  | x::l=>kN x+iB l
def fM:List aQ→Nat
  | []=>0
  | x::l=>eD x+fM l
def kL:List dU→Nat
  | []=>0
  | x::l=>oP x+kL l
def gQ:List bI→Nat
  | []=>0
  | x::l=>nJ x+gQ l
end
theorem mG:∀ l:List aA,bU l=(l.map aX).sum
  | []=>by simp [bU]
  | x::l=>by simp [bU,mG l]
theorem O9:∀ l:List aQ,fM l=(l.map eD).sum
  | []=>by simp [fM]
  | x::l=>by simp [fM,O9 l]
theorem aKw:∀ l m:List aA,bU (l++m)=bU l+bU m
  | [],m=>by simp [bU]
  | x::l,m=>by simp [bU,aKw l m]; omega
theorem aVh:∀ l m:List aQ,fM (l++m)=fM l+fM m
  | [],m=>by simp [fM]
  | x::l,m=>by simp [fM,aVh l m]; omega
theorem aSt:∀ l m:List bH,iB (l++m)=iB l+iB m
  | [],m=>by simp [iB]
  | x::l,m=>by simp [iB,aSt l m]; omega
theorem aS5:∀ l m:List bI,gQ (l++m)=gQ l+gQ m
  | [],m=>by simp [gQ]
  | x::l,m=>by simp [gQ,aS5 l m]; omega
theorem aUe:∀ {l:List aA} {k:Nat} {x y:aA} {b:Nat},l[k]?=some x→aX y≤aX x+b→bU (l.set k y)≤bU l+b
  | [],_,_,_,_,h,_=>by simp at h
  | z::l,0,x,y,b,h,hb=>by simp at h; subst h; simp [bU]; omega
  | z::l,k+1,x,y,b,h,hb=>by
    simp at h
    have:=aUe (l:=l) (k:=k) h hb
    simp [bU]; omega
theorem aRs:∀ {l:List aA} {k:Nat} {x:aA},l[k]?=some x→aX x≤bU l
  | [],_,_,h=>by simp at h
  | z::l,0,x,h=>by simp at h; subst h; simp [bU]
  | z::l,k+1,x,h=>by
    simp at h
    have:=aRs (l:=l) (k:=k) h
    simp [bU]; omega
def bV (q:aQ):List aA:=q.items.flatMap (fun i=>if i.star then [] else [i.expr])++q.from_.flatMap (fun s=>s.on_)++q.where_++q.order.flatMap (fun k=>[k.expr])
theorem zQ (q:aQ):eD q=(q.items.length+iB q.items)+(q.from_.length+gQ q.from_)+(q.where_.length+bU q.where_)+(q.order.length+kL q.order):=by
  cases q; simp only [eD]
theorem zE (x:aA):aX x=(x.kids.length+bU x.kids)+(x.sub.length+fM x.sub):=by
  cases x; simp only [aX]
theorem aJ9:∀ l:List bH,(l.flatMap (fun i=>if i.star then [] else [i.expr])).length≤l.length
  | []=>by simp
  | x::l=>by
    have:=aJ9 l
    rw [List.flatMap_cons,List.length_append]
    have h1:(if x.star=true then [] else [x.expr]).length≤1:=by cases x.star <;> simp
    simp only [List.length_cons]; omega
theorem aH8:∀ l:List bI,(l.flatMap (fun s=>s.on_)).length≤gQ l
  | []=>by simp
  | ⟨a,b,c⟩::l=>by
    have:=aH8 l
    rw [List.flatMap_cons,List.length_append]
    simp only [gQ,nJ]; omega
theorem aFd:∀ l:List dU,(l.flatMap (fun k=>[k.expr])).length=l.length
  | []=>by simp
  | x::l=>by rw [List.flatMap_cons,List.length_append,aFd l]; simp; omega
theorem aCq (q:aQ) (hz:eD q≤1048576):qY q=some (bV q):=by
  have h:=zQ q
  have h1:=aJ9 q.items
  have h2:=aH8 q.from_
  have h3:=aFd q.order
  have app:∀ {l m:List aA},l.length+m.length≤1048576→appG 136 l m=some (l++m):=fun h=>vC (by omega)
  unfold qY
  rw [gather (p:=q.items) (f:=fun i=>if i.star then [] else [i.expr]) (c:=1048576) (G:=fun y acc=>if (!y.star)=true then appG 136 acc [y.expr] else some acc) (L:=fun acc i=>Q4 q acc i) (K:=fun acc=>yK q acc 0) (by omega) ?_ ?_ [] (by simp only [List.length_nil,Nat.zero_add]; omega)]
  rw [gather (p:=q.from_) (f:=fun s=>s.on_) (c:=1048576) (G:=fun y acc=>appG 136 acc y.on_) (L:=fun acc i=>yK q acc i) (K:=fun acc=>(appG 136 acc q.where_)>>=fun y7=>xI q y7 0) (by omega) ?_ ?_ _ (by simp only [List.length_append,List.length_nil]; omega)]
  rw [app (by simp only [List.length_append,List.length_nil]; omega)]
  simp only [Option.bind_eq_bind,Option.bind_some]
  rw [gather (p:=q.order) (f:=fun k=>[k.expr]) (c:=1048576) (G:=fun y acc=>appG 136 acc [y.expr]) (L:=fun acc i=>xI q acc i) (K:=fun acc=>some acc) (by omega) ?_ ?_ _ (by simp only [List.length_append,List.length_nil]; omega)]
  · simp [bV]
  · intro y _ acc ha; exact app ha
  · intro i acc; rw [xI]
  · intro y _ acc ha; exact app ha
  · intro i acc; rw [yK]
  · intro y _ acc ha
    cases hs:y.star
    · simp only [hs,Bool.not_false,if_true] at ha ⊢; exact app ha
    · simp
  · intro i acc
    rw [Q4]
    simp only [Y4]
    split
    · simp only [Option.bind_eq_bind]
      cases idx q.items (i:Int) with
      | none=>rfl
      | some y=>by_cases hs:y.star=true <;> simp [hs]
    · rfl
theorem I7 (q:aQ) (hz:eD q≤1048576):rV q=some (bV q):=by
  have h:=zQ q
  have h1:=aJ9 q.items
  have h2:=aH8 q.from_
  have h3:=aFd q.order
  have app:∀ {l m:List aA},l.length+m.length≤1048576→appG 136 l m=some (l++m):=fun h=>vC (by omega)
  unfold rV
  rw [gather (p:=q.items) (f:=fun i=>if i.star then [] else [i.expr]) (c:=1048576) (G:=fun y acc=>if (!y.star)=true then appG 136 acc [y.expr] else some acc) (L:=fun acc i=>U6 q acc i) (K:=fun acc=>zK q acc 0) (by omega) ?_ ?_ [] (by simp only [List.length_nil,Nat.zero_add]; omega)]
  rw [gather (p:=q.from_) (f:=fun s=>s.on_) (c:=1048576) (G:=fun y acc=>appG 136 acc y.on_) (L:=fun acc i=>zK q acc i) (K:=fun acc=>(appG 136 acc q.where_)>>=fun y7=>yJ q y7 0) (by omega) ?_ ?_ _ (by simp only [List.length_append,List.length_nil]; omega)]
  rw [app (by simp only [List.length_append,List.length_nil]; omega)]
  simp only [Option.bind_eq_bind,Option.bind_some]
  rw [gather (p:=q.order) (f:=fun k=>[k.expr]) (c:=1048576) (G:=fun y acc=>appG 136 acc [y.expr]) (L:=fun acc i=>yJ q acc i) (K:=fun acc=>some acc) (by omega) ?_ ?_ _ (by simp only [List.length_append,List.length_nil]; omega)]
  · simp [bV]
  · intro y _ acc ha; exact app ha
  · intro i acc; rw [yJ]
  · intro y _ acc ha; exact app ha
  · intro i acc; rw [zK]
  · intro y _ acc ha
    cases hs:y.star
    · simp only [hs,Bool.not_false,if_true] at ha ⊢; exact app ha
    · simp
  · intro i acc
    rw [U6]
    simp only [R3]
    split
    · simp only [Option.bind_eq_bind]
      cases idx q.items (i:Int) with
      | none=>rfl
      | some y=>by_cases hs:y.star=true <;> simp [hs]
    · rfl
theorem aGe (a:Int):0≤IntKind.wrap .i64 ((BitVec.ofInt (IntKind.bits .i64) a &&& BitVec.ofInt (IntKind.bits .i64) 255).toNat:Int)∧IntKind.wrap .i64 ((BitVec.ofInt (IntKind.bits .i64) a &&& BitVec.ofInt (IntKind.bits .i64) 255).toNat:Int)≤255:=by
  have h:(BitVec.ofInt (IntKind.bits .i64) a &&& BitVec.ofInt (IntKind.bits .i64) 255).toNat≤255:=by
    rw [BitVec.toNat_and]
    exact Nat.le_trans Nat.and_le_right (by decide)
  rw [eH (by omega) (by omega)]
  omega
def okCur (c:aJ):Prop:=0≤c.i∧c.i≤(c.b.length:Int)∧c.b.length≤1048576
theorem R9 (c:aJ) (h:okCur c):∃ x c',uI c=some (x,c')∧0≤x∧x≤255∧okCur c':=by
  obtain ⟨h1,h2,h3⟩:=h
  unfold uI aC5
  by_cases hi:c.i<(c.b.length:Int)
  · have e : ∃ v, idx c.b c.i = some v := by
      unfold idx
      rw [if_pos h1]
      exact ⟨_,List.getElem?_eq_getElem (by omega)⟩
    obtain ⟨v,hv⟩:=e
    rw [if_pos (by simpa using hi),hv]
    simp only [Option.bind_eq_bind,Option.bind_some]
    refine ⟨_,_,rfl,(aGe _).1,(aGe _).2,?_⟩
    refine ⟨?_,?_,h3⟩
    · show 0≤IntKind.wrap .i64 (c.i+1); rw [eH (by omega) (by omega)]; omega
    · show IntKind.wrap .i64 (c.i+1)≤(c.b.length:Int); rw [eH (by omega) (by omega)]; omega
  · rw [if_neg (by simpa using hi)]
    exact ⟨_,_,rfl,(aGe _).1,(aGe _).2,h1,h2,h3⟩
theorem aR8 {a b:Int} (h0:0≤a) (hb:0<b):∃ r,X4 a b=some r∧0≤r∧r<b:=by
  unfold X4
  rw [if_neg (by omega)]
  exact ⟨_,rfl,Int.tmod_nonneg _ h0,Int.tmod_lt_of_pos _ hb⟩
theorem rG (c:aJ) (n:Int) (h:okCur c):∃ x c',fI c n=some (x,c')∧0≤x∧(0<n→x<n)∧okCur c':=by
  unfold fI
  by_cases h0:n≤0
  · rw [if_pos (by simpa using h0)]; exact ⟨0,c,rfl,by omega,by omega,h⟩
  rw [if_neg (by simpa using h0)]
  by_cases h1:n≤256
  · rw [if_pos (by simpa using h1)]
    obtain ⟨x,c1,e1,a1,b1,o1⟩:=R9 c h
    obtain ⟨r,er,r0,r1⟩:=aR8 a1 (b:=n) (by omega)
    simp only [e1,Option.bind_eq_bind,Option.bind_some,er]
    exact ⟨r,c1,rfl,r0,fun _=>r1,o1⟩
  · rw [if_neg (by simpa using h1)]
    obtain ⟨x1,c1,e1,a1,b1,o1⟩:=R9 c h
    obtain ⟨x2,c2,e2,a2,b2,o2⟩:=R9 c1 o1
    obtain ⟨x3,c3,e3,a3,b3,o3⟩:=R9 c2 o2
    obtain ⟨x4,c4,e4,a4,b4,o4⟩:=R9 c3 o3
    simp only [e1,e2,e3,e4,Option.bind_eq_bind,Option.bind_some]
    rw [eH (n:=x1 * 16777216) (by omega) (by omega),eH (n:=x2 * 65536) (by omega) (by omega),eH (n:=x3 * 256) (by omega) (by omega),eH (n:=x1 * 16777216+x2 * 65536) (by omega) (by omega),eH (n:=x1 * 16777216+x2 * 65536+x3 * 256) (by omega) (by omega),eH (n:=x1 * 16777216+x2 * 65536+x3 * 256+x4) (by omega) (by omega)]
    obtain ⟨r,er,r0,r1⟩:=aR8 (a:=x1 * 16777216+x2 * 65536+x3 * 256+x4) (by omega) (b:=n) (by omega)
    rw [er]
    exact ⟨r,c4,rfl,r0,fun _=>r1,o4⟩
theorem aJ6 (c:aJ) (n:Int) (h:okCur c):∃ x c',fV c n=some (x,c')∧okCur c':=by
  obtain ⟨x,c1,e1,_,_,o1⟩:=rG c n h
  unfold fV
  simp only [e1,Option.bind_eq_bind,Option.bind_some]
  exact ⟨_,_,rfl,o1⟩
theorem aG2 {α:Type} {l:List α} {x:Int} (h0:0≤x) (h1:x<(l.length:Int)):∃ v,v ∈ l∧idx l x=some v:=by
  unfold idx
  rw [if_pos h0]
  exact ⟨_,List.getElem_mem (by omega),List.getElem?_eq_getElem (by omega)⟩
theorem aKe (c:aJ) (l:List (List UInt8)) (hl:0<l.length) (h:okCur c):∃ x c',oM c l=some (x,c')∧x ∈ l∧okCur c':=by
  obtain ⟨x,c1,e1,h0,h1,o1⟩:=rG c l.length h
  obtain ⟨v,hv,ev⟩:=aG2 h0 (h1 (by omega))
  unfold oM
  simp only [e1,ev,Option.bind_eq_bind,Option.bind_some]
  exact ⟨_,_,rfl,hv,o1⟩
theorem aYd (c:aJ) (l:List Int) (hl:0<l.length) (h:okCur c):∃ x c',wZ c l=some (x,c')∧x ∈ l∧okCur c':=by
  obtain ⟨x,c1,e1,h0,h1,o1⟩:=rG c l.length h
  obtain ⟨v,hv,ev⟩:=aG2 h0 (h1 (by omega))
  unfold wZ
  simp only [e1,ev,Option.bind_eq_bind,Option.bind_some]
  exact ⟨_,_,rfl,hv,o1⟩
theorem aYq (c:aJ) (h:okCur c):∃ x c',Z9 c=some (x,c')∧okCur c':=by
  obtain ⟨x,c1,e1,_,_,o1⟩:=rG c 3 h
  obtain ⟨y,c2,e2,_,o2⟩:=aYd c1 [0,1,(-1),63,64,(-64),(-65),127,128,16383,16384,9223372036854775807,(-9223372036854775808),4611686018427387904] (by decide) o1
  obtain ⟨z,c3,e3,_,_,o3⟩:=rG c1 1000000 o1
  obtain ⟨w,c4,e4,_,_,o4⟩:=rG c1 20 o1
  unfold Z9
  simp only [e1,e2,e3,e4,Option.bind_eq_bind,Option.bind_some]
  split
  · exact ⟨_,_,rfl,o2⟩
  split
  · exact ⟨_,_,rfl,o3⟩
  · exact ⟨_,_,rfl,o4⟩
theorem bM7 (p:List Int) (hp:p.length≤1048576):∃ c,aBn p=some c∧okCur c:=by
  unfold aBn
  have key:∀ i,i≤p.length→∀ h,∃ c,yI p h (i:Nat)=some c∧okCur c:=by
    refine iG ?_ ?_
    · intro h
      rw [yI]
      refine ⟨⟨p,0,h⟩,by simp,?_⟩
      exact ⟨by show (0:Int)≤0; omega,by show (0:Int)≤(p.length:Int); omega,hp⟩
    · intro i hi ih h
      rw [yI]
      by_cases h4:(i:Int)<4000
      · simp only [eF,hi,h4,decide_true,if_true,eZ hi,fT hi (by omega),Option.bind_eq_bind,Option.bind_some]
        exact ih _
      · simp only [eF,hi,h4,decide_true,decide_false,if_true,Bool.false_eq_true,if_false]
        exact ⟨⟨p,0,h⟩,rfl,by show (0:Int)≤0; omega,by show (0:Int)≤(p.length:Int); omega,hp⟩
  exact key 0 (by omega) _
theorem bCi (b:Bool):∃ v,aJb b=some v:=by cases b <;> exact ⟨_,rfl⟩
theorem aRe (c:aJ) (h:okCur c):∃ x c',F8 c=some (x,c')∧okCur c':=by
  obtain ⟨b,c1,e1,_,_,o1⟩:=rG c 6 h
  obtain ⟨s,c2,e2,_,o2⟩:=aKe c1 [[],[97],[98],[105,116,39,115],[97,98],[255]] (by decide) o1
  obtain ⟨b3,c3,e3,o3⟩:=aJ6 c1 2 o1
  obtain ⟨w,c4,e4,o4⟩:=aYq c1 o1
  obtain ⟨z,c5,e5,_,_,o5⟩:=rG c1 7 o1
  obtain ⟨v,hv⟩:=bCi b3
  unfold F8
  simp only [e1,e2,e3,e4,e5,hv,aD2,aBj,Option.bind_eq_bind,Option.bind_some]
  repeat' split
  all_goals first | exact ⟨_,_,rfl,o1⟩ | exact ⟨_,_,rfl,o2⟩ | exact ⟨_,_,rfl,o3⟩ | exact ⟨_,_,rfl,o4⟩ | exact ⟨_,_,rfl,o5⟩
theorem aIg {a b:List UInt8} (h:a.length+b.length≤1048576):vM a b=some (a++b):=by unfold vM; rw [if_pos (by simp only [maxLen]; omega)]
theorem bHs (y:bN×aJ):∀ n (t:List UInt8) (b:List Int) (i h:Int),400≤n+t.length→okCur ⟨b,i,h⟩→∃ x c',wY y t b i h=some (x,c')∧okCur c':=by
  intro n
  induction n with
  | zero =>
    intro t b i h ht ho
    obtain ⟨q,c1,e1,o1⟩:=aJ6 _ 2 ho
    rw [wY]
    simp only [e1,Option.bind_eq_bind,Option.bind_some,vQ]
    rw [if_neg (by split <;> simp; omega)]
    exact ⟨_,_,rfl,o1⟩
  | succ n ih =>
    intro t b i h ht ho
    obtain ⟨q,c1,e1,o1⟩:=aJ6 _ 2 ho
    rw [wY]
    simp only [e1,Option.bind_eq_bind,Option.bind_some,vQ]
    by_cases hq:(if q=true then (decide ((t.length:Int)<400)) else false)=true
    · rw [if_pos hq]
      have hl:t.length<400:=by cases q <;> simp at hq; omega
      rw [aIg (by omega)]
      simp only [Option.bind_some]
      rw [aIg (by simp; omega)]
      simp only [Option.bind_some]
      exact ih _ _ _ _ (by simp; omega) o1
    · rw [if_neg hq]; exact ⟨_,_,rfl,o1⟩
theorem bD8 (c:aJ) (h:okCur c):∃ x c',U7 c=some (x,c')∧okCur c':=by
  obtain ⟨x,c1,e1,o1⟩:=aRe c h
  obtain ⟨b,c2,e2,_,_,o2⟩:=rG c1 14 o1
  obtain ⟨z,c3,e3,_,_,o3⟩:=rG c2 6 o2
  obtain ⟨w,c4,e4,o4⟩:=aYq c2 o2
  obtain ⟨s,c5,e5,_,o5⟩:=aKe c2 [[120],[],[108,111,110,103]] (by decide) o2
  obtain ⟨u,c6,e6,o6⟩:=bHs (x,c1) 400 s c5.b c5.i c5.h (by omega) o5
  unfold U7
  simp only [e1,e2,e3,e4,e5,e6,vQ,Option.bind_eq_bind,Option.bind_some]
  repeat' split
  all_goals first | exact ⟨_,_,rfl,o2⟩ | exact ⟨_,_,rfl,o3⟩ | exact ⟨_,_,rfl,o4⟩ | exact ⟨_,_,rfl,o5⟩ | exact ⟨_,_,rfl,o6⟩
theorem bWn (p:Int) (hp:p≤1000):∀ (n:Nat) (x:List Int) (i:Int) (b:List Int) (j h:Int),p≤n+i→0≤i→x.length=i.toNat→i≤1000→(∀ v ∈ x,0≤v∧v<256)→okCur ⟨b,j,h⟩→∃ y c',wX p x i b j h=some (y,c')∧(∀ v ∈ y,0≤v∧v<256)∧okCur c':=by
  intro n
  induction n with
  | zero =>
    intro x i b j h h1 h2 h3 _ h5 h4
    rw [wX,if_neg (by simp; omega)]
    exact ⟨_,_,rfl,h5,h4⟩
  | succ n ih =>
    intro x i b j h h1 h2 h3 hi0 h5 h4
    rw [wX]
    by_cases hi:i<p
    · rw [if_pos (by simpa using hi)]
      obtain ⟨v,c',e1,_,_,e4⟩:=R9 ⟨b,j,h⟩ h4
      simp only [e1,Option.bind_eq_bind,Option.bind_some]
      rw [vC (by simp; omega),eH (by omega) (by omega)]
      simp only [Option.bind_some]
      refine ih (x++[IntKind.wrap .u8 v]) (i+1) c'.b c'.i c'.h (by omega) (by omega) (by simp [h3]; omega) (by omega) ?_ e4
      intro u hu
      rcases List.mem_append.1 hu with hu | hu
      · exact h5 u hu
      · have:u=IntKind.wrap .u8 v:=by simpa using hu
        rw [this]; simp [IntKind.wrap,IntKind.bits,IntKind.signed]; omega
    · rw [if_neg (by simpa using hi)]
      exact ⟨_,_,rfl,h5,h4⟩
theorem bI2 (l:List Int) (h:∀ v ∈ l,0≤v∧v<256):∃ s,ofBytes l=some s:=by
  unfold ofBytes
  rw [if_pos (by simpa using h)]
  exact ⟨_,rfl⟩
def Yes {α:Type} (m:Option α) (Q:α→Prop):Prop:=∃ r,m=some r∧Q r
theorem Yes.bind {α β:Type} {m:Option α} {k:α→Option β} {Q:α→Prop} {R:β→Prop} (h:Yes m Q) (hk:∀ x,Q x→Yes (k x) R):Yes (m>>=k) R:=by
  obtain ⟨x,e,hx⟩:=h
  obtain ⟨r,e2,hr⟩:=hk x hx
  exact ⟨r,by rw [e]; exact e2,hr⟩
theorem Yes.some {α:Type} {x:α} {Q:α→Prop} (h:Q x):Yes (some x) Q:=⟨x,rfl,h⟩
theorem Yes.mono {α:Type} {m:Option α} {Q R:α→Prop} (h:Yes m Q) (hk:∀ x,Q x→R x):Yes m R:=by
  obtain ⟨x,e,hx⟩:=h; exact ⟨x,e,hk x hx⟩
theorem Yes.ite {α:Type} {c:Prop} [Decidable c] {m m':Option α} {Q:α→Prop} (h:c→Yes m Q) (h':¬ c→Yes m' Q):Yes (if c then m else m') Q:=by
  split
  · exact h (by assumption)
  · exact h' (by assumption)
theorem jQ (c:aJ) (n:Int) (h:okCur c):Yes (fI c n) fun r=>0≤r.1∧(0<n→r.1<n)∧okCur r.2:=by
  obtain ⟨x,c',e,h1,h2,h3⟩:=rG c n h; exact ⟨_,e,h1,h2,h3⟩
theorem lD (c:aJ) (n:Int) (h:okCur c):Yes (fV c n) fun r=>okCur r.2:=by
  obtain ⟨x,c',e,h1⟩:=aJ6 c n h; exact ⟨_,e,h1⟩
theorem aCo (p:Bool) (b:Bool) (c:aJ) (n:Int) (h:okCur c):Yes (if (true&&(p==b))=true then fV c n else some ((default:Bool),c)) fun r=>okCur r.2:=Yes.ite (fun _=>lD c n h) fun _=>Yes.some h
theorem F4 (c:aJ) (l:List (List UInt8)) (hl:0<l.length) (h:okCur c):Yes (oM c l) fun r=>okCur r.2:=by
  obtain ⟨x,c',e,_,h1⟩:=aKe c l hl h; exact ⟨_,e,h1⟩
theorem bA7 (c:aJ) (l:List Int) (hl:0<l.length) (h:okCur c):Yes (wZ c l) fun r=>okCur r.2:=by
  obtain ⟨x,c',e,_,h1⟩:=aYd c l hl h; exact ⟨_,e,h1⟩
theorem bC8 (c:aJ) (h:okCur c):Yes (U7 c) fun r=>okCur r.2:=by
  obtain ⟨x,c',e,h1⟩:=bD8 c h; exact ⟨_,e,h1⟩
theorem bD9 (c:aJ) (h:okCur c):Yes (F8 c) fun r=>okCur r.2:=by
  obtain ⟨x,c',e,h1⟩:=aRe c h; exact ⟨_,e,h1⟩
theorem oJ {α:Type} {b:Nat} {l m:List α} (h:(l.length+m.length) * b≤140737488355328):Yes (appG b l m) fun r=>r=l++m:=⟨_,vC h,rfl⟩
theorem M4 (c:aJ) (h:okCur c):Yes (sI c) fun r=>okCur r.2:=by
  unfold sI
  refine Yes.bind (lD _ _ h) fun r k=>Yes.ite (fun _=>?_) fun _=>?_
  · exact Yes.bind (F4 _ _ (by decide) k) fun r k=>Yes.some k
  · exact Yes.bind (F4 _ _ (by decide) k) fun r k=>Yes.some k
theorem aE2 (c:aJ) (h:okCur c):Yes (yB c) fun r=>okCur r.2:=by
  unfold yB
  refine Yes.bind (jQ _ _ h) fun r ⟨_,_,k⟩=>Yes.ite (fun _=>?_) fun _=>Yes.ite (fun _=>?_) fun _=>Yes.ite (fun _=>?_) fun _=>?_
  · exact Yes.bind (F4 _ _ (by decide) k) fun r k=>Yes.some k
  · refine Yes.bind (Q:=fun l:List (List UInt8)=>l.length=29) ⟨_,rfl,by decide⟩ fun l hl=>Yes.bind (jQ _ _ k) fun r ⟨h0,h1,k⟩=>?_
    obtain ⟨v,_,hv⟩:=aG2 (l:=l) h0 (by rw [hl]; exact h1 (by decide))
    exact Yes.bind (Q:=fun _=>True) ⟨v,hv,trivial⟩ fun _ _=>Yes.some k
  · refine Yes.bind (jQ _ _ k) fun r ⟨h0,h1,k⟩=>?_
    have h1':=h1 (by decide)
    obtain ⟨y,c3,e3,l3,k3⟩:=bWn r.1 (by omega) 5 [] 0 r.2.b r.2.i r.2.h (by omega) (by omega) rfl (by omega) (by simp) k
    obtain ⟨s,hs⟩:=bI2 y l3
    exact Yes.bind (Q:=fun z=>z=(y,c3)) ⟨_,e3,rfl⟩ fun z hz=>Yes.bind (Q:=fun _=>True) ⟨s,by rw [hz]; exact hs,trivial⟩ fun _ _=>Yes.some (by rw [hz]; exact k3)
  · exact Yes.bind (M4 _ k) fun r k=>Yes.some k
theorem aEh (c:aJ) (h:okCur c):Yes (D6 c) fun r=>r.1.kids=[]∧r.1.sub=[]∧okCur r.2:=by
  have J1:∀ a b c i j,okCur ⟨c,i,j⟩→Yes (aBy a b c i j) fun r=>r.1.kids=[]∧r.1.sub=[]∧okCur r.2:=fun a b c i j k=>Yes.some ⟨rfl,rfl,k⟩
  have J0:∀ y a c i j,okCur ⟨c,i,j⟩→Yes (M6 y a c i j) fun r=>r.1.kids=[]∧r.1.sub=[]∧okCur r.2:=fun y a c i j k=>by
    unfold M6
    exact Yes.bind (lD _ _ k) fun r k=>Yes.ite (fun _=>Yes.bind (M4 _ k) fun r k=>J1 _ _ _ _ _ k) fun _=>J1 _ _ _ _ _ k
  unfold D6
  exact Yes.bind (F4 _ _ (by decide) h) fun r k=>Yes.bind (lD _ _ k) fun r k=>Yes.ite (fun _=>Yes.bind (F4 _ _ (by decide) k) fun r k=>J0 _ _ _ _ _ k) fun _=>J0 _ _ _ _ _ k
theorem aYw (c:aJ) (h:okCur c):Yes (aAk c) fun r=>okCur r.2:=by
  unfold aAk aCd
  exact Yes.bind (bD9 _ h) fun r k=>Yes.bind (Q:=fun _=>True) ⟨_,rfl,trivial⟩ fun b _=>Yes.ite (fun _=>Yes.some k) fun _=>Yes.some k
def okE (B:Nat) (r:aA×aJ):Prop:=aX r.1≤B∧okCur r.2
def Zb:Nat→Nat
  | 0=>0
  | n+1=>12+9 * Zb n
theorem bK3 (B : Nat) (d : Int) (m : Int) (hm : m ≤ 3) (H : ∀ c, okCur c → Yes (nZ c (IntKind.wrap .i64 (d - 1))) (okE B)) :
    ∀ (k:Nat) (i:Int) b j h (l:List aA),m≤k+i→0≤i→i≤3→(l.length:Int)≤i→bU l≤l.length * B→okCur ⟨b,j,h⟩→Yes (F5 d m i b j h l) fun r=>r.1.length≤3∧bU r.1≤r.1.length * B∧okCur r.2:=by
  intro k
  induction k with
  | zero =>
    intro i b j h l h1 h2 h3 h4 h5 h6
    rw [F5,if_neg (by simp; omega)]
    exact Yes.some ⟨by show l.length≤3; omega,h5,h6⟩
  | succ k ih =>
    intro i b j h l h1 h2 h3 h4 h5 h6
    rw [F5]
    refine Yes.ite (fun hi=>?_) fun _=>Yes.some ⟨by show l.length≤3; omega,h5,h6⟩
    have hi':i<m:=by simpa using hi
    refine Yes.bind (H _ h6) fun r ⟨hz,hr⟩=>Yes.bind (oJ (by simp; omega)) fun y hy=>?_
    subst hy
    rw [eH (by omega) (by omega)]
    refine ih _ _ _ _ _ (by omega) (by omega) (by omega) (by simp; omega) ?_ hr
    rw [aKw,List.length_append,Nat.add_mul]
    simp [bU]; omega
theorem aXn (B:Nat) (d:Int) (m:Int) (hm:m≤3) (H:∀ c,okCur c→Yes (nZ c (IntKind.wrap .i64 (d - 1))) (okE B)) (c:aJ) (h:okCur c):Yes (mX c d m) fun r=>r.1.length≤3∧bU r.1≤3 * B∧okCur r.2:=by
  rw [mX]
  refine (bK3 B d m hm H m.toNat 0 c.b c.i c.h [] (by omega) (by omega) (by omega) (by simp) (by simp [bU]) h).mono fun r ⟨h1,h2,h3⟩=>⟨h1,Nat.le_trans h2 (Nat.mul_le_mul_right _ h1),h3⟩
def qOk (B:Nat) (r:aQ×aJ):Prop:=eD r.1≤8+6 * B∧okCur r.2
section
variable {B:Nat} {d:Int} (H:∀ c,okCur c→Yes (nZ c d) (okE B))
theorem bAf {y1 : Bool × aJ} {o : List dU} {w : List aA} {f : List bI} {it : List bH} {lim : Int} {b : List Int} {i j : Int} (h1 : it.length + iB it ≤ 2 + 2 * B) (h2 : f.length + gQ f ≤ 4 + 2 * B) (h3 : w.length + bU w ≤ 1 + B) (h4 : o.length + kL o ≤ 1 + B)
    (k:okCur ⟨b,i,j⟩):Yes (aAp y1 o w f it lim b i j) (qOk B):=Yes.some ⟨by simp only [eD]; omega,k⟩
theorem bBc {y1 : Bool × aJ} {o : List dU} {w : List aA} {f : List bI} {it : List bH} {b : List Int} {i j : Int} (h1 : it.length + iB it ≤ 2 + 2 * B) (h2 : f.length + gQ f ≤ 4 + 2 * B) (h3 : w.length + bU w ≤ 1 + B) (h4 : o.length + kL o ≤ 1 + B)
    (k:okCur ⟨b,i,j⟩):Yes (N8 y1 f it b i j o w) (qOk B):=by
  unfold N8
  exact Yes.bind (lD _ _ k) fun r k=>Yes.ite (fun _=>Yes.bind (bA7 _ _ (by decide) k) fun r k=>bAf h1 h2 h3 h4 k) fun _=>bAf h1 h2 h3 h4 k
include H
theorem bA3 {y1 : Bool × aJ} {w : List aA} {f : List bI} {it : List bH} {b : List Int} {i j : Int} (h1 : it.length + iB it ≤ 2 + 2 * B) (h2 : f.length + gQ f ≤ 4 + 2 * B) (h3 : w.length + bU w ≤ 1 + B)
    (k:okCur ⟨b,i,j⟩):Yes (I4 d y1 it b i j (w,f)) (qOk B):=by
  rw [I4]
  refine Yes.bind (lD _ _ k) fun r k=>Yes.ite (fun _=>?_) fun _=>bBc h1 h2 h3 (by simp [kL]) k
  refine Yes.bind (H _ k) fun r ⟨hz,k⟩=>Yes.bind (lD _ _ k) fun r2 k=>Yes.bind (oJ (by simp)) fun y hy=>?_
  subst hy
  exact bBc h1 h2 h3 (by simp [kL,oP]; omega) k
theorem bLr {y1 y16 : Bool × aJ} {y : Int × aJ} (hy : y.1 < 2) (hy0 : 0 ≤ y.1) {it : List bH} (h1 : it.length + iB it ≤ 2 + 2 * B) : ∀ (n : Nat) (x : Int) (b : List Int) (i j : Int) (f : List bI), 1 + y.1 ≤ n + x → 0 ≤ x → (f.length : Int) ≤ x → x ≤ 2 → f.length + gQ f ≤ f.length * (2 + B) → okCur ⟨b, i, j⟩ →
    Yes (yH d y y1 it x b (i,(j,f))) (qOk B):=by
  have e0:IntKind.wrap .i64 (1+y.1)=1+y.1:=eH (by omega) (by omega)
  have fin:∀ (x:Int) (b:List Int) (i j:Int) (f:List bI),¬ x<1+y.1→(f.length:Int)≤x→x≤2→f.length+gQ f≤f.length * (2+B)→okCur ⟨b,i,j⟩→Yes (yH d y y1 it x b (i,(j,f))) (qOk B):=by
    intro x b i j f hx hl h2 hf k
    have hm:f.length * (2+B)≤2 * (2+B):=Nat.mul_le_mul_right _ (by omega)
    have hF:f.length+gQ f≤4+2 * B:=by omega
    rw [yH,e0,if_neg (by simpa using hx)]
    refine Yes.bind (lD _ _ k) fun r k=>Yes.ite (fun _=>?_) fun _=>bA3 H h1 hF (by simp [bU]) k
    exact Yes.bind (H _ k) fun r ⟨hz,k⟩=>bA3 H h1 hF (by simp [bU]; omega) k
  intro n
  induction n with
  | zero=>intro x b i j f hn h0 hl h2 hf k; exact fin x b i j f (by omega) hl h2 hf k
  | succ n ih =>
    intro x b i j f hn h0 hl h2 hf k
    by_cases hx:x<1+y.1
    · have J6 : ∀ (t : List UInt8 × aJ) (s : List UInt8) (b : List Int) (i j : Int) (on : List aA), on.length + bU on ≤ 1 + B → okCur ⟨b, i, j⟩ → Yes (Z4 d y x y1 t s (it, (b, (i, (j, (on, f)))))) (qOk B) := by
        intro t s b i j on ho k
        rw [Z4]
        refine Yes.bind (oJ (by simp; omega)) fun z hz=>?_
        subst hz
        rw [eH (by omega) (by omega)]
        refine ih _ _ _ _ _ (by omega) (by omega) (by simp; omega) (by omega) ?_ k
        rw [aS5,List.length_append,Nat.add_mul]
        simp only [List.length_cons,List.length_nil,gQ,nJ]; omega
      have J4:∀ (t:List UInt8×aJ) (s:List UInt8) (b:List Int) (i j:Int),okCur ⟨b,i,j⟩→Yes (Y2 d y x y1 t f (it,(s,(b,(i,j))))) (qOk B):=by
        intro t s b i j k
        rw [Y2]
        refine Yes.bind (aCo _ _ _ _ k) fun r k=>Yes.bind (Q:=fun _=>True) ⟨_,rfl,trivial⟩ fun q _=>Yes.ite (fun _=>?_) fun _=>J6 _ _ _ _ _ _ (by simp [bU]) k
        exact Yes.bind (H _ k) fun r ⟨hz,k⟩=>J6 _ _ _ _ _ _ (by simp [bU]; omega) k
      rw [yH,e0,if_pos (by simpa using hx)]
      exact Yes.bind (F4 _ _ (by decide) k) fun r k=>Yes.bind (lD _ _ k) fun r2 k=>Yes.ite (fun _=>Yes.bind (M4 _ k) fun r3 k=>J4 _ _ _ _ _ k) fun _=>J4 _ _ _ _ _ k
    · exact fin x b i j f hx hl h2 hf k
theorem bIa {y1 : Bool × aJ} {y : Int × aJ} (hy : y.1 < 2) (hy0 : 0 ≤ y.1) : ∀ (n : Nat) (x : Int) (b : List Int) (i j : Int) (f : List bH), 1 + y.1 ≤ n + x → 0 ≤ x → (f.length : Int) ≤ x → x ≤ 2 → f.length + iB f ≤ f.length * (1 + B) → okCur ⟨b, i, j⟩ →
    Yes (xW d y y1 x b i (j,f)) (qOk B):=by
  have e0:IntKind.wrap .i64 (1+y.1)=1+y.1:=eH (by omega) (by omega)
  have fin:∀ (x:Int) (b:List Int) (i j:Int) (f:List bH),¬ x<1+y.1→(f.length:Int)≤x→x≤2→f.length+iB f≤f.length * (1+B)→okCur ⟨b,i,j⟩→Yes (xW d y y1 x b i (j,f)) (qOk B):=by
    intro x b i j f hx hl h2 hf k
    have hm:f.length * (1+B)≤2 * (1+B):=Nat.mul_le_mul_right _ (by omega)
    have hI:f.length+iB f≤2+2 * B:=by omega
    rw [xW,e0,if_neg (by simpa using hx)]
    refine Yes.bind (jQ _ _ k) fun r ⟨r0,r1,k⟩=>?_
    exact bLr (y16:=y1) H (r1 (by decide)) r0 hI 2 0 _ _ _ _ (by have:=r1 (by decide); omega) (by omega) (by simp) (by omega) (by simp [gQ]) k
  intro n
  induction n with
  | zero=>intro x b i j f hn h0 hl h2 hf k; exact fin x b i j f (by omega) hl h2 hf k
  | succ n ih =>
    intro x b i j f hn h0 hl h2 hf k
    by_cases hx:x<1+y.1
    · have J1 : ∀ (b : List Int) (i j : Int) (it : bH), kN it ≤ B → okCur ⟨b, i, j⟩ → Yes (K6 d y x y1 b i (j, f ++ [it])) (qOk B) := by
        intro b i j it ho k
        rw [K6,eH (by omega) (by omega)]
        refine ih _ _ _ _ _ (by omega) (by omega) (by simp; omega) (by omega) ?_ k
        rw [aSt,List.length_append,Nat.add_mul]
        simp only [List.length_cons,List.length_nil,iB]; omega
      have J2:∀ (t:aA×aJ) (s:List UInt8) (b:List Int) (i j:Int),aX t.1≤B→okCur ⟨b,i,j⟩→Yes (O3 d y x y1 t f (s,(b,(i,j)))) (qOk B):=by
        intro t s b i j hz k
        rw [O3]
        refine Yes.bind (oJ (by simp; omega)) fun z hz=>?_
        subst hz
        exact J1 _ _ _ _ (by simpa [kN] using by assumption) k
      rw [xW,e0,if_pos (by simpa using hx)]
      refine Yes.bind (jQ _ _ k) fun r ⟨_,_,k⟩=>Yes.ite (fun _=>?_) fun _=>Yes.ite (fun _=>?_) fun _=>?_
      · refine Yes.bind (oJ (by simp; omega)) fun z hz=>?_
        subst hz
        exact J1 _ _ _ _ (by simp [kN,aX,bU,fM]) k
      · refine Yes.bind (F4 _ _ (by decide) k) fun r k=>Yes.bind (oJ (by simp; omega)) fun z hz=>?_
        subst hz
        exact J1 _ _ _ _ (by simp [kN,aX,bU,fM]) k
      · exact Yes.bind (H _ k) fun r ⟨hz,k⟩=>Yes.bind (lD _ _ k) fun r2 k=>Yes.ite (fun _=>Yes.bind (M4 _ k) fun r3 k=>J2 _ _ _ _ _ hz k) fun _=>J2 _ _ _ _ _ hz k
    · exact fin x b i j f hx hl h2 hf k
theorem aTk (c:aJ) (k:okCur c):Yes (vD c d) (qOk B):=by
  rw [vD]
  exact Yes.bind (lD _ _ k) fun r k=>Yes.bind (jQ _ _ k) fun r2 ⟨r0,r1,k⟩=>bIa H (r1 (by decide)) r0 2 0 _ _ _ _ (by have:=r1 (by decide); omega) (by omega) (by simp) (by omega) (by simp [iB]) k
end
theorem aLn:∀ (n:Nat) (d:Int) (c:aJ),d≤n→n≤100→okCur c→Yes (nZ c d) (okE (Zb n)):=by
  intro n
  induction n with
  | zero =>
    intro d c hd _ h
    rw [nZ]
    refine Yes.bind (aCo _ _ _ _ h) fun r k=>Yes.bind (Q:=fun q=>q=true) ⟨_,rfl,by rw [if_pos (by simpa using hd)]⟩ fun q hq=>?_
    rw [if_pos hq]
    refine Yes.bind (lD _ _ k) fun r k=>Yes.ite (fun _=>Yes.bind (aEh _ k) fun r ⟨h1,h2,k⟩=>Yes.some ⟨?_,k⟩) fun _=>Yes.bind (aYw _ k) fun r k=>Yes.some ⟨by simp [aX,bU,fM],k⟩
    show aX r.1≤0
    rw [zE]; simp [h1,h2,bU,fM]
  | succ n ih =>
    intro d c hd hn h
    have hB:Zb (n+1)=12+9 * Zb n:=rfl
    rw [nZ]
    refine Yes.bind (aCo _ _ _ _ h) fun r k=>Yes.bind (Q:=fun q=>q=true∨0<d) ⟨_,rfl,?_⟩ fun q hq=>Yes.ite (fun _=>?_) fun hq2=>?_
    · by_cases h0:d≤0
      · exact .inl (by rw [if_pos (by simpa using h0)])
      · exact .inr (by omega)
    · refine Yes.bind (lD _ _ k) fun r k=>Yes.ite (fun _=>Yes.bind (aEh _ k) fun r ⟨h1,h2,k⟩=>Yes.some ⟨?_,k⟩) fun _=>Yes.bind (aYw _ k) fun r k=>Yes.some ⟨by simp [aX,bU,fM],k⟩
      show aX r.1≤_
      rw [zE]; simp [h1,h2,bU,fM]
    · have h0:0<d:=hq.resolve_left hq2
      have e1:IntKind.wrap .i64 (d - 1)=d - 1:=eH (by omega) (by omega)
      have H1:∀ c,okCur c→Yes (nZ c (IntKind.wrap .i64 (d - 1))) (okE (Zb n)):=fun c k=>ih _ c (by omega) (by omega) k
      have K:∀ m c,m≤3→okCur c→Yes (mX c d m) fun r=>r.1.length≤3∧bU r.1≤3 * Zb n∧okCur r.2:=fun m c hm k=>aXn (Zb n) d m hm H1 c k
      have Q2:∀ c,1<d→okCur c→Yes (vD c (IntKind.wrap .i64 (d - 2))) (qOk (Zb n)):=fun c h2 k=>aTk (fun c k=>ih _ c (by rw [eH (by omega) (by omega)]; omega) (by omega) k) c k
      have J0:∀ y:Int×aJ,okCur y.2→Yes (zT d y) (okE (Zb (n+1))):=fun y k=>by
        rw [zT]
        exact Yes.bind (jQ _ _ k) fun r ⟨_,_,k⟩=>Yes.bind (K 2 _ (by omega) k) fun r ⟨h1,h2,k⟩=>Yes.some ⟨by simp only [aX,fM,List.length_nil]; omega,k⟩
      refine Yes.bind (jQ _ _ k) fun r ⟨_,_,k⟩=>Yes.ite (fun _=>?_) fun _=>Yes.ite (fun _=>?_) fun _=>Yes.ite (fun _=>?_) fun _=>Yes.ite (fun _=>?_) fun _=>Yes.ite (fun _=>?_) fun _=>Yes.ite (fun _=>?_) fun _=>Yes.ite (fun _=>?_) fun _=>J0 _ k
      · exact Yes.bind (K 1 _ (by omega) k) fun r ⟨h1,h2,k⟩=>Yes.some ⟨by simp only [aX,fM,List.length_nil]; omega,k⟩
      · exact Yes.bind (K 1 _ (by omega) k) fun r ⟨h1,h2,k⟩=>Yes.some ⟨by simp only [aX,fM,List.length_nil]; omega,k⟩
      · exact Yes.bind (lD _ _ k) fun r k=>Yes.bind (K 1 _ (by omega) k) fun r ⟨h1,h2,k⟩=>Yes.some ⟨by simp only [aX,fM,List.length_nil]; omega,k⟩
      · exact Yes.bind (lD _ _ k) fun r k=>Yes.bind (K 3 _ (by omega) k) fun r ⟨h1,h2,k⟩=>Yes.some ⟨by simp only [aX,fM,List.length_nil]; omega,k⟩
      · exact Yes.bind (lD _ _ k) fun r k=>Yes.bind (jQ _ _ k) fun r ⟨b0,b1,k⟩=>Yes.bind (K _ _ (by have:=b1 (by decide); rw [eH (by omega) (by omega)]; omega) k) fun r ⟨h1,h2,k⟩=>Yes.some ⟨by simp only [aX,fM,List.length_nil]; omega,k⟩
      · refine Yes.ite (fun h2=>?_) fun _=>J0 _ k
        exact Yes.bind (lD _ _ k) fun r k=>Yes.bind (K 1 _ (by omega) k) fun r ⟨h1,h3,k⟩=>Yes.bind (Q2 _ (by simpa using h2) k) fun r2 ⟨h4,k⟩=>Yes.some ⟨by simp only [aX,fM,List.length_nil,List.length_cons]; omega,k⟩
      · refine Yes.ite (fun h2=>?_) fun _=>J0 _ k
        exact Yes.bind (Q2 _ (by simpa using h2) k) fun r2 ⟨h4,k⟩=>Yes.some ⟨by simp only [aX,bU,fM,List.length_nil,List.length_cons]; omega,k⟩
theorem bVw (c:aJ) (h:okCur c):Yes (aBt c) (okE 24):=by
  have L : ∀ (y : Int × aJ), okCur y.2 → 0 ≤ y.1 → y.1 < 3 → ∀ (n : Nat) (x : Int) (a b : Int) (q : Bool) (v w : Int) (t s u : List UInt8) (ks : List aA) (ss : List aQ), 22 + y.1 ≤ n + x → 0 ≤ x → x ≤ 24 → (((ks.length + bU ks) + (ss.length + fM ss) : Nat) : Int) ≤ x →
      Yes (wL y x a b q v w (t,(s,(u,(ks,ss))))) (okE 24):=by
    intro y k y0 y1 n
    have e0:IntKind.wrap .i64 (22+y.1)=22+y.1:=eH (by omega) (by omega)
    have fin:∀ (x:Int) (a b:Int) (q:Bool) (v w:Int) (t s u:List UInt8) (ks:List aA) (ss:List aQ),¬ x<22+y.1→x≤24→(((ks.length+bU ks)+(ss.length+fM ss):Nat):Int)≤x→Yes (wL y x a b q v w (t,(s,(u,(ks,ss))))) (okE 24):=by
      intro x a b q v w t s u ks ss hx h2 hz
      rw [wL,e0,if_neg (by simpa using hx)]
      exact Yes.some ⟨by simp only [aX]; omega,k⟩
    induction n with
    | zero=>intro x a b q v w t s u ks ss hn h0 h2 hz; exact fin x a b q v w t s u ks ss (by omega) h2 hz
    | succ n ih =>
      intro x a b q v w t s u ks ss hn h0 h2 hz
      by_cases hx:x<22+y.1
      · rw [wL,e0,if_pos (by simpa using hx),eH (by omega) (by omega)]
        refine ih _ _ _ _ _ _ _ _ _ _ _ (by omega) (by omega) (by omega) ?_
        simp only [aX,bU,fM,List.length_cons,List.length_nil]; omega
      · exact fin x a b q v w t s u ks ss hx h2 hz
  rw [aBt]
  refine Yes.bind (aEh _ h) fun r ⟨h1,h2,k⟩=>Yes.bind (jQ _ _ k) fun r2 ⟨b0,b1,k⟩=>?_
  have:=b1 (by decide)
  exact L r2 k b0 this 24 0 _ _ _ _ _ _ _ _ _ _ (by omega) (by omega) (by omega) (by rw [h1,h2]; simp [bU,fM])
theorem bIc:∀ (n:Nat) (e:aA) (c:aJ),aX e<n→aX e≤100000→okCur c→Yes (zU c e) (okE (aX e+1)):=by
  intro n
  induction n with
  | zero=>intro e c h _ _; omega
  | succ n ih =>
    intro e c hn hz h
    have hE:=zE e
    have J:∀ a b q v w t s u cb ci ch ks ss,okCur ⟨cb,ci,ch⟩→(ks.length+bU ks)+(ss.length+fM ss)≤aX e+1→Yes (rJ a b q v w t s u cb ci ch ks ss) (okE (aX e+1)):=fun a b q v w t s u cb ci ch ks ss k hl=>Yes.some ⟨by simp only [aX]; omega,k⟩
    rw [zU]
    refine Yes.bind (aCo _ _ _ _ h) fun r k=>Yes.bind (Q:=fun q=>q=true→0<(e.kids.length:Int)) ⟨_,rfl,?_⟩ fun q hq=>Yes.ite (fun hq2=>?_) fun _=>?_
    · intro h1
      by_cases h0:0<(e.kids.length:Int)
      · exact h0
      · rw [if_neg (by simpa using h0)] at h1; exact absurd h1 (by simp)
    · have h0:=hq hq2
      refine Yes.bind (jQ _ _ k) fun r ⟨b0,b1,k⟩=>?_
      obtain ⟨v,_,hv⟩:=aG2 (l:=e.kids) b0 (b1 h0)
      have hg:e.kids[r.1.toNat]?=some v:=by unfold idx at hv; rw [if_pos b0] at hv; exact hv
      have hl:=aRs hg
      refine Yes.bind (Q:=fun z=>z=v) ⟨v,hv,rfl⟩ fun z hz2=>?_
      subst hz2
      refine Yes.bind (ih z _ (by omega) (by omega) k) fun r2 ⟨h4,k⟩=>Yes.some ⟨?_,k⟩
      have:=aUe (b:=1) hg h4
      simp only [aX,List.length_set]; omega
    · refine Yes.bind (jQ _ _ k) fun r ⟨_,_,k⟩=>Yes.ite (fun _=>?_) fun _=>Yes.ite (fun _=>?_) fun _=>Yes.ite (fun _=>?_) fun _=>Yes.ite (fun _=>?_) fun _=>Yes.ite (fun _=>?_) fun _=>Yes.ite (fun _=>?_) fun _=>Yes.ite (fun _=>?_) fun _=>?_
      · exact Yes.bind (jQ _ _ k) fun r ⟨_,_,k⟩=>J _ _ _ _ _ _ _ _ _ _ _ _ _ k (by omega)
      · exact Yes.bind (bA7 _ _ (by decide) k) fun r k=>J _ _ _ _ _ _ _ _ _ _ _ _ _ k (by omega)
      · exact J _ _ _ _ _ _ _ _ _ _ _ _ _ k (by omega)
      · exact Yes.bind (bC8 _ k) fun r k=>J _ _ _ _ _ _ _ _ _ _ _ _ _ k (by omega)
      · exact Yes.bind (aE2 _ k) fun r k=>J _ _ _ _ _ _ _ _ _ _ _ _ _ k (by omega)
      · exact Yes.bind (aE2 _ k) fun r k=>J _ _ _ _ _ _ _ _ _ _ _ _ _ k (by omega)
      · refine Yes.bind (aEh _ k) fun r ⟨h1,h2,k⟩=>Yes.bind (oJ (by simp; omega)) fun y hy=>J _ _ _ _ _ _ _ _ _ _ _ _ _ k ?_
        have h3:=zE r.1
        rw [h1,h2] at h3
        simp only [bU,fM,List.length_nil] at h3
        rw [hy,aKw,List.length_append]
        simp only [bU,List.length_cons,List.length_nil]; omega
      · refine Yes.bind (oJ (by simp; omega)) fun y hy=>J _ _ _ _ _ _ _ _ _ _ _ _ _ k ?_
        rw [hy,aVh,List.length_append]
        simp only [bU,iB,gQ,kL,fM,eD,List.length_cons,List.length_nil]; omega
def kM:bD→Nat
  | ⟨_,q,_,r,_,se,w⟩=>eD q+zL (zL aX) r+zL aX se+zL aX w
theorem aQl (l:List aA):zL aX l=l.length+bU l:=by rw [mG]; rfl
theorem aVf (l m:List (List aA)):zL (zL aX) (l++m)=zL (zL aX) l+zL (zL aX) m:=by simp [zL]; omega
theorem aW6 (l m:List aA):zL aX (l++m)=zL aX l+zL aX m:=by simp [zL]; omega
def okSt (s:bD):Prop:=eD s.query≤6560∧(s.rows.length≤2∧zL (zL aX) s.rows≤728)∧zL aX s.sets≤363∧zL aX s.where_≤363∧s.cols.length≤2
theorem aLa (d:Int) (h0:1≤d) (h3:d≤3) (m:Int) (hm:m≤3) (c:aJ) (k:okCur c):Yes (mX c d m) fun r=>zL aX r.1≤363∧okCur r.2:=by
  have hB:Zb 2=120:=rfl
  refine (aXn (Zb 2) d m hm (fun c k=>?_) c k).mono fun r ⟨h1,h2,h3⟩=>⟨by rw [aQl]; omega,h3⟩
  rw [eH (by omega) (by omega)]
  exact aLn 2 _ c (by omega) (by omega) k
theorem bUp (d:Int) (h3:d≤3) (c:aJ) (k:okCur c):Yes (vD c d) fun r=>eD r.1≤6560∧okCur r.2:=by
  have hB:Zb 3=1092:=rfl
  exact (aTk (B:=Zb 3) (fun c k=>aLn 3 _ c (by omega) (by omega) k) c k).mono fun r ⟨h1,h2⟩=>⟨by omega,h2⟩
section
variable {d:Int} (h0:1≤d) (h3:d≤3)
include h0 h3
theorem aPy {kd : Int} {cols : List (List UInt8)} {sets : List aA} {rows : List (List aA)} {b : List Int} {i j : Int} (h1 : cols.length ≤ 2) (h2 : zL aX sets ≤ 363) (h4 : rows.length ≤ 2) (h5 : zL (zL aX) rows ≤ 728) (k : okCur ⟨b, i, j⟩) :
    Yes (L9 d kd cols b i j sets rows) fun r=>okSt r.1∧okCur r.2:=by
  have J3:∀ (t:List UInt8×aJ) (w:List aA) (b:List Int) (i j:Int),zL aX w≤363→okCur ⟨b,i,j⟩→Yes (aAa kd t cols sets rows b i j w) fun r=>okSt r.1∧okCur r.2:=fun t w b i j hw k =>
    Yes.some ⟨⟨by simp [eD,iB,gQ,bU,kL],⟨h4,h5⟩,h2,hw,h1⟩,k⟩
  unfold L9
  refine Yes.bind (M4 _ k) fun r k=>Yes.bind (aCo _ _ _ _ k) fun r2 k=>Yes.bind (Q:=fun _=>True) ⟨_,rfl,trivial⟩ fun q _=>Yes.ite (fun _=>?_) fun _=>J3 _ _ _ _ _ (by simp [zL]) k
  exact Yes.bind (aLa d h0 h3 1 (by omega) _ k) fun r ⟨hz,k⟩=>J3 _ _ _ _ _ hz k
theorem bIo {y : Int × aJ} (y0 : 0 ≤ y.1) (y1 : y.1 < 2) : ∀ (n : Nat) (x : Int) (b : List Int) (i j : Int) (f : List (List aA)), 1 + y.1 ≤ n + x → 0 ≤ x → (f.length : Int) ≤ x → x ≤ 2 → zL (zL aX) f ≤ f.length * 364 → okCur ⟨b, i, j⟩ →
    Yes (vE d y x b i j f) fun r=>okSt r.1∧okCur r.2:=by
  have e0:IntKind.wrap .i64 (1+y.1)=1+y.1:=eH (by omega) (by omega)
  have fin:∀ (x:Int) (b:List Int) (i j:Int) (f:List (List aA)),¬ x<1+y.1→(f.length:Int)≤x→x≤2→zL (zL aX) f≤f.length * 364→okCur ⟨b,i,j⟩→Yes (vE d y x b i j f) fun r=>okSt r.1∧okCur r.2:=by
    intro x b i j f hx hl h2 hf k
    rw [vE,e0,if_neg (by simpa using hx)]
    exact aPy h0 h3 (by simp) (by simp [zL]) (by omega) (by omega) k
  intro n
  induction n with
  | zero=>intro x b i j f hn h0 hl h2 hf k; exact fin x b i j f (by omega) hl h2 hf k
  | succ n ih =>
    intro x b i j f hn hx0 hl h2 hf k
    by_cases hx:x<1+y.1
    · rw [vE,e0,if_pos (by simpa using hx)]
      refine Yes.bind (jQ _ _ k) fun r ⟨r0,r1,k⟩=>Yes.bind (aLa d h0 h3 _ (by have:=r1 (by decide); rw [eH (by omega) (by omega)]; omega) _ k) fun r2 ⟨hz,k⟩=>Yes.bind (oJ (by simp; omega)) fun z hz2=>?_
      subst hz2
      rw [eH (by omega) (by omega)]
      refine ih _ _ _ _ _ (by omega) (by omega) (by simp; omega) (by omega) ?_ k
      rw [aVf,List.length_append]
      have:zL (zL aX) [r2.1]=1+zL aX r2.1:=by simp [zL]
      simp only [List.length_cons,List.length_nil]; omega
    · exact fin x b i j f hx hl h2 hf k
theorem bBl {y : Int × aJ} (y0 : 0 ≤ y.1) (y1 : y.1 < 2) : ∀ (n : Nat) (x : Int) (f : List (List UInt8)) (b : List Int) (i j : Int), 1 + y.1 ≤ n + x → 0 ≤ x → (f.length : Int) ≤ x → x ≤ 2 → okCur ⟨b, i, j⟩ →
    Yes (vP d y x f b i j) fun r=>okSt r.1∧okCur r.2:=by
  have e0:IntKind.wrap .i64 (1+y.1)=1+y.1:=eH (by omega) (by omega)
  have fin:∀ (x:Int) (f:List (List UInt8)) (b:List Int) (i j:Int),¬ x<1+y.1→(f.length:Int)≤x→x≤2→okCur ⟨b,i,j⟩→Yes (vP d y x f b i j) fun r=>okSt r.1∧okCur r.2:=by
    intro x f b i j hx hl h2 k
    rw [vP,e0,if_neg (by simpa using hx)]
    exact Yes.bind (aLa d h0 h3 _ (by omega) _ k) fun r ⟨hz,k⟩=>aPy h0 h3 (by omega) hz (by simp) (by simp [zL]) k
  intro n
  induction n with
  | zero=>intro x f b i j hn h0 hl h2 k; exact fin x f b i j (by omega) hl h2 k
  | succ n ih =>
    intro x f b i j hn hx0 hl h2 k
    by_cases hx:x<1+y.1
    · rw [vP,e0,if_pos (by simpa using hx)]
      refine Yes.bind (M4 _ k) fun r k=>Yes.bind (oJ (by simp; omega)) fun z hz2=>?_
      subst hz2
      rw [eH (by omega) (by omega)]
      exact ih _ _ _ _ _ (by omega) (by omega) (by simp; omega) (by omega) k
    · exact fin x f b i j hx hl h2 k
theorem bMe (c:aJ) (k:okCur c):Yes (aAq c d) fun r=>okSt r.1∧okCur r.2:=by
  unfold aAq
  refine Yes.bind (jQ _ _ k) fun r ⟨_,_,k⟩=>Yes.ite (fun _=>?_) fun _=>Yes.ite (fun _=>?_) fun _=>Yes.ite (fun _=>?_) fun _=>?_
  · exact Yes.bind (jQ _ _ k) fun r ⟨r0,r1,k⟩=>bIo h0 h3 r0 (r1 (by decide)) 2 0 _ _ _ _ (by have:=r1 (by decide); omega) (by omega) (by simp) (by omega) (by simp [zL]) k
  · exact Yes.bind (jQ _ _ k) fun r ⟨r0,r1,k⟩=>bBl h0 h3 r0 (r1 (by decide)) 2 0 _ _ _ _ (by have:=r1 (by decide); omega) (by omega) (by simp) (by omega) k
  · exact aPy h0 h3 (by simp) (by simp [zL]) (by simp) (by simp [zL]) k
  · exact Yes.bind (bUp d h3 _ k) fun r ⟨hz,k⟩=>Yes.some ⟨⟨hz,by simp [zL],by simp [zL],by simp [zL],by simp⟩,k⟩
end
theorem bIm (p:List Int) (hp:p.length≤1048576):Yes (aC7 p 3) fun r=>0<r∧r≤3:=by
  unfold aC7
  have e:Int.tdiv (p.length:Int) 20=(p.length:Int) / 20:=Int.tdiv_eq_ediv_of_nonneg (by omega)
  rw [e,eH (n:=(p.length:Int) / 20) (by omega) (by omega),eH (by omega) (by omega)]
  exact Yes.ite (fun _=>Yes.some (by omega)) fun h=>Yes.some (by simp at h; omega)
theorem bBv (p:List Int) (hp:p.length≤1048576):Yes (aCm p) fun s=>kM s≤10000∧s.cols.length≤10:=by
  have hZ:Zb 1=12:=rfl
  unfold aCm
  obtain ⟨c,e0,o0⟩:=bM7 p hp
  refine Yes.bind ⟨c,e0,o0⟩ fun c k=>Yes.bind (bIm p hp) fun s ⟨s0,s1⟩=>Yes.bind (jQ _ _ k) fun r ⟨b0,b1,k⟩=>?_
  have hb:=b1 s0
  refine Yes.bind (bMe (by rw [eH (by omega) (by omega)]; omega) (by rw [eH (by omega) (by omega)]; omega) _ k) fun r ⟨⟨h1,h2,h3,h4,h5⟩,k⟩=>?_
  have hq:=zQ r.1.query
  have J:∀ kd lim t cols rows sets wh,zL (zL aX) rows≤1000→zL aX sets≤1000→zL aX wh≤1000→cols.length≤10→Yes (qP r kd lim t cols rows sets wh) fun s=>kM s≤10000∧s.cols.length≤10:=fun kd lim t cols rows sets wh a b c e=>Yes.some (by
    refine ⟨?_,e⟩
    simp only [kM,eD]; omega)
  refine Yes.bind (jQ _ _ k) fun r2 ⟨_,_,k⟩=>Yes.ite (fun _=>?_) fun _=>Yes.ite (fun _=>?_) fun _=>Yes.ite (fun _=>?_) fun _=>Yes.ite (fun _=>?_) fun _=>Yes.ite (fun _=>?_) fun _=>Yes.ite (fun _=>?_) fun _=>Yes.ite (fun _=>?_) fun _=>?_
  · exact Yes.bind (jQ _ _ k) fun _ _=>J _ _ _ _ _ _ _ (by omega) (by omega) (by omega) (by omega)
  · exact Yes.bind (aE2 _ k) fun _ _=>J _ _ _ _ _ _ _ (by omega) (by omega) (by omega) (by omega)
  · refine Yes.bind (aLn 1 _ _ (by omega) (by omega) k) fun r3 ⟨hz,k⟩=>Yes.bind (bIc _ r3.1 _ (Nat.lt_succ_self _) (by omega) k) fun r4 ⟨hz4,k⟩=>Yes.bind (oJ (by rw [aQl] at h4; simp; omega)) fun z hz2=>J _ _ _ _ _ _ _ (by omega) (by omega) ?_ (by omega)
    rw [hz2,aW6]
    have:zL aX [r4.1]=1+aX r4.1:=by simp [zL]
    omega
  · exact Yes.bind (aE2 _ k) fun _ _=>Yes.bind (oJ (by simp; omega)) fun _ hz2=>J _ _ _ _ _ _ _ (by omega) (by omega) (by omega) (by rw [hz2]; simp; omega)
  · refine Yes.bind (oJ (by simp; omega)) fun z hz2=>J _ _ _ _ _ _ _ ?_ (by omega) (by omega) (by omega)
    rw [hz2,aVf]
    have:zL (zL aX) [([]:List aA)]=1:=by simp [zL]
    omega
  · exact Yes.bind (jQ _ _ k) fun _ _=>J _ _ _ _ _ _ _ (by omega) (by omega) (by omega) (by omega)
  · refine Yes.bind (bVw _ k) fun r3 ⟨hz,k⟩=>Yes.bind (oJ (by rw [aQl] at h3; simp; omega)) fun z hz2=>J _ _ _ _ _ _ _ (by omega) ?_ (by omega) (by omega)
    rw [hz2,aW6]
    have:zL aX [r3.1]=1+aX r3.1:=by simp [zL]
    omega
  · exact J _ _ _ _ _ _ _ (by omega) (by omega) (by omega) (by omega)
theorem mV {x:aA}:∀ {l:List aA},x ∈ l→aX x<l.length+bU l
  | y::l,h=>by
    simp only [bU,List.length_cons]
    rcases List.mem_cons.1 h with rfl | h
    · omega
    · have:=mV h; omega
theorem qL {x:aQ}:∀ {l:List aQ},x ∈ l→eD x<l.length+fM l
  | y::l,h=>by
    simp only [fM,List.length_cons]
    rcases List.mem_cons.1 h with rfl | h
    · omega
    · have:=qL h; omega
theorem aRv {x:bH}:∀ {l:List bH},x ∈ l→kN x<l.length+iB l
  | y::l,h=>by
    simp only [iB,List.length_cons]
    rcases List.mem_cons.1 h with rfl | h
    · omega
    · have:=aRv h; omega
theorem aWj {x:bI}:∀ {l:List bI},x ∈ l→nJ x<l.length+gQ l
  | y::l,h=>by
    simp only [gQ,List.length_cons]
    rcases List.mem_cons.1 h with rfl | h
    · omega
    · have:=aWj h; omega
theorem aX8 {x:dU}:∀ {l:List dU},x ∈ l→oP x<l.length+kL l
  | y::l,h=>by
    simp only [kL,List.length_cons]
    rcases List.mem_cons.1 h with rfl | h
    · omega
    · have:=aX8 h; omega
theorem R4 (q:aQ):(bV q).length≤eD q:=by
  have h:=zQ q
  have h1:=aJ9 q.items
  have h2:=aH8 q.from_
  have h3:=aFd q.order
  simp only [bV,List.length_append]; omega
theorem oL {q:aQ} {x:aA} (hx:x ∈ bV q):aX x<eD q:=by
  have h:=zQ q
  simp only [bV,List.mem_append,List.mem_flatMap] at hx
  rcases hx with ((⟨i,hi,hx⟩ | ⟨s,hs,hx⟩) | hx) | ⟨k,hk,hx⟩
  · have h1:=aRv hi
    have:x=i.expr:=by
      cases hst:i.star <;> simp [hst] at hx
      exact hx
    subst this
    have:aX i.expr≤kN i:=by obtain ⟨a,b,c,d⟩:=i; simp only [kN]; omega
    omega
  · have h1:=aWj hs
    have h2:=mV hx
    have:s.on_.length+bU s.on_≤nJ s:=by obtain ⟨a,b,c⟩:=s; simp only [nJ]; omega
    omega
  · have h2:=mV hx
    omega
  · have h1:=aX8 hk
    have:x=k.expr:=by simpa using hx
    subst this
    have:aX k.expr≤oP k:=by obtain ⟨a,b⟩:=k; simp only [oP]; omega
    omega
theorem O5 {α:Type} (z:α→Nat) (l m:List α):((l++m).map z).sum=(l.map z).sum+(m.map z).sum:=by simp
theorem aB4 (q:aQ):(bV q).length+((bV q).map aX).sum≤eD q:=by
  have h:=zQ q
  have h1:∀ l:List bH,(l.flatMap (fun i=>if i.star then [] else [i.expr])).length+((l.flatMap (fun i=>if i.star then [] else [i.expr])).map aX).sum≤l.length+iB l:=by
    intro l
    induction l with
    | nil=>simp
    | cons x l ih =>
      rw [List.flatMap_cons,List.length_append,O5]
      have h1:(if x.star=true then [] else [x.expr]).length+((if x.star=true then [] else [x.expr]).map aX).sum≤1+kN x:=by
        obtain ⟨a,b,c,d⟩:=x
        cases a <;> simp [kN] <;> omega
      simp only [List.length_cons,iB]; omega
  have h2:∀ l:List bI,(l.flatMap (fun s=>s.on_)).length+((l.flatMap (fun s=>s.on_)).map aX).sum≤l.length+gQ l:=by
    intro l
    induction l with
    | nil=>simp
    | cons x l ih =>
      rw [List.flatMap_cons,List.length_append,O5]
      obtain ⟨a,b,c⟩:=x
      simp only [List.length_cons,gQ,nJ,mG]; omega
  have h3:∀ l:List dU,(l.flatMap (fun k=>[k.expr])).length+((l.flatMap (fun k=>[k.expr])).map aX).sum≤l.length+kL l:=by
    intro l
    induction l with
    | nil=>simp
    | cons x l ih =>
      rw [List.flatMap_cons,List.length_append,O5]
      obtain ⟨a,b⟩:=x
      simp only [List.length_cons,List.length_nil,List.map_cons,List.map_nil,List.sum_cons,List.sum_nil,kL,oP]; omega
  have k1:=h1 q.items
  have k2:=h2 q.from_
  have k3:=h3 q.order
  have k4:=mG q.where_
  simp only [bV,List.length_append,O5]
  omega
theorem xK {α:Type} {d:α→Int}:∀ {p:List α} {b:Int},0≤b→(∀ y ∈ p,0≤d y)→b+(p.map d).sum≤4611686018427387904→p.foldl (fun b y=>IntKind.wrap .i64 (b+d y)) b=b+(p.map d).sum
  | [],b,_,_,_=>by simp
  | x::p,b,h0,h1,h2=>by
    simp only [List.map_cons,List.sum_cons] at h2 ⊢
    have hx:=h1 x (by simp)
    have hs:0≤(p.map d).sum:=by
      have:∀ l:List α,(∀ y ∈ l,0≤d y)→0≤(l.map d).sum:=by
        intro l
        induction l with
        | nil=>intro _; simp
        | cons a l ih=>intro h; simp only [List.map_cons,List.sum_cons]; have:=h a (by simp); have:=ih fun y hy=>h y (by simp [hy]); omega
      exact this p fun y hy=>h1 y (by simp [hy])
    rw [List.foldl_cons,eH (by omega) (by omega),xK (by omega) (fun y hy=>h1 y (by simp [hy])) (by omega)]
    omega
theorem yG {α:Type} {d:α→Int} {z:α→Nat}:∀ {p:List α},(∀ y ∈ p,0≤d y∧d y≤1+z y)→0≤(p.map d).sum∧(p.map d).sum≤p.length+(p.map z).sum
  | [],_=>by simp
  | x::p,h=>by
    have h1:=h x (by simp)
    have h2:=yG (p:=p) fun y hy=>h y (by simp [hy])
    simp only [List.map_cons,List.sum_cons,List.length_cons]; omega
theorem aNt {α:Type} {d:α→Int} {z:α→Nat}:∀ {p:List α},(∀ y ∈ p,0≤d y∧d y≤z y)→0≤(p.map d).sum∧(p.map d).sum≤(p.map z).sum
  | [],_=>by simp
  | x::p,h=>by
    have h1:=h x (by simp)
    have h2:=aNt (p:=p) fun y hy=>h y (by simp [hy])
    simp only [List.map_cons,List.sum_cons]; omega
def gL (s:bD):List aA:=bV s.query++s.rows.flatMap id++s.sets++s.where_
theorem bAo (l:List (List aA)):(l.flatMap id).length+((l.flatMap id).map aX).sum≤zL (zL aX) l:=by
  have e:∀ l:List (List aA),zL (zL aX) l=l.length+(l.map (zL aX)).sum:=fun _=>rfl
  have e2:∀ l:List aA,zL aX l=l.length+(l.map aX).sum:=fun _=>rfl
  induction l with
  | nil=>simp [e]
  | cons x l ih =>
    rw [e] at ih ⊢
    rw [List.flatMap_cons,List.length_append,O5,List.map_cons,List.sum_cons,List.length_cons,e2]
    simp only [id]
    omega
theorem aBc (s:bD):(gL s).length+((gL s).map aX).sum≤kM s:=by
  obtain ⟨k,q,t,r,c,se,w⟩:=s
  have e2:∀ l:List aA,zL aX l=l.length+(l.map aX).sum:=fun _=>rfl
  have h1:=aB4 q
  have h2:=bAo r
  have h3:=e2 se
  have h4:=e2 w
  simp only [gL,List.length_append,O5,kM]
  omega
theorem aL0 (s:bD):s.rows.length≤kM s∧eD s.query≤kM s:=by
  obtain ⟨k,q,t,r,c,se,w⟩:=s
  have e:zL (zL aX) r=r.length+(r.map (zL aX)).sum:=rfl
  simp only [kM]
  omega
theorem aSf {s:bD} {y:aA} (h:y ∈ gL s):aX y<kM s:=by
  have h1:=aBc s
  have h2:=tN (z:=aX) h
  have h3:0<(gL s).length:=List.length_pos_of_mem h
  omega
theorem aUo (s:bD) (hz:kM s≤1048576):M7 s=some (gL s):=by
  have h1:=aBc s
  obtain ⟨h2,h3⟩:=aL0 s
  have app:∀ {l m:List aA},l.length+m.length≤1048576→appG 136 l m=some (l++m):=fun h=>vC (by omega)
  simp only [gL,List.length_append] at h1
  unfold M7
  rw [I7 s.query (by omega)]
  simp only [Option.bind_eq_bind,Option.bind_some]
  rw [gather (p:=s.rows) (f:=id) (c:=1048576) (G:=fun y acc=>appG 136 acc y) (L:=fun acc i=>I5 s acc i) (K:=fun acc=>(appG 136 acc s.sets)>>=fun y4=>(appG 136 y4 s.where_)>>=fun y5=>some y5) (by omega) ?_ ?_ _ (by omega)]
  · simp only [Option.bind_eq_bind]
    rw [app (by simp only [List.length_append]; omega)]
    simp only [Option.bind_some]
    rw [app (by simp only [List.length_append]; omega)]
    rfl
  · intro y _ acc ha; exact app ha
  · intro i acc; rw [I5]
theorem bMg (s:bD) (hz:kM s≤1048576):O8 s=some (gL s):=by
  have h1:=aBc s
  obtain ⟨h2,h3⟩:=aL0 s
  have app:∀ {l m:List aA},l.length+m.length≤1048576→appG 136 l m=some (l++m):=fun h=>vC (by omega)
  simp only [gL,List.length_append] at h1
  unfold O8
  rw [aCq s.query (by omega)]
  simp only [Option.bind_eq_bind,Option.bind_some]
  rw [gather (p:=s.rows) (f:=id) (c:=1048576) (G:=fun y acc=>appG 136 acc y) (L:=fun acc i=>C9 s acc i) (K:=fun acc=>(appG 136 acc s.sets)>>=fun y4=>(appG 136 y4 s.where_)>>=fun y5=>some y5) (by omega) ?_ ?_ _ (by omega)]
  · simp only [Option.bind_eq_bind]
    rw [app (by simp only [List.length_append]; omega)]
    simp only [Option.bind_some]
    rw [app (by simp only [List.length_append]; omega)]
    rfl
  · intro y _ acc ha; exact app ha
  · intro i acc; rw [C9]
theorem rY (s:List UInt8):∃ b,mQ s=some b∧xB s=some b:=by
  unfold xB mQ gM
  exact ⟨_,rfl,rfl⟩
theorem yA (s:List UInt8):∃ b,pE s=some b∧M9 s=some b:=by
  obtain ⟨b,h1,h2⟩:=rY s
  unfold pE M9
  by_cases h:s=[]
  · simp [h]
  · simp [h,h1,h2]
theorem bFo (x:bN):aJi x=P7 x∧∃ b,P7 x=some b:=by
  unfold aJi P7 gM
  simp only [Option.bind_eq_bind,Option.bind_some]
  by_cases h0:x.kind=0
  · simp [h0]
  by_cases h1:x.kind=1
  · simp [h1]
  by_cases h2:x.kind=2
  · simp [h2]
  by_cases h3:x.kind=3
  · by_cases n0:x.num=0
    · simp [h3,n0]
    by_cases n1:x.num=1
    · simp [h3,n1]
    have e:(if decide (0≤x.num)=true then decide (x.num≤1) else false)=false:=by
      by_cases p:0≤x.num
      · simp [p]; omega
      · simp [p]
    rw [e]
    simp [h3,n0,n1]
  · simp [h0,h1,h2,h3]
theorem aO5 (x:bN):∃ b,U3 x=some b∧aD1 x=some b:=by
  obtain ⟨h1,b,h2⟩:=bFo x
  unfold U3 aD1
  rw [h1,h2]
  cases b <;> simp
def aCe (x:aA):Option Bool:=(V5 x.kids)>>=fun (y13:Bool)=>(if (true&&(y13==true))=true then aBd x.sub else some default)>>=fun (y14:Bool)=>(some (if y13=true then (!y14) else false))>>=fun (y15:Bool)=>some y15
theorem orM {β:Type} {b:Bool} {m:Option Bool} {K:Bool→Option β}:((if (true&&(b==false))=true then m else some (default:Bool)).bind fun y=>(some (if b=true then true else y)).bind K)=((if b=true then some true else m).bind K):=by cases b <;> cases m <;> rfl
theorem orS (b c:Bool):(if b=true then some true else some c)=some (b||c):=by cases b <;> rfl
theorem orB (b c:Bool):(if b=true then true else c)=(b||c):=by cases b <;> rfl
theorem L6 (b c:Bool):(if b=true then c else false)=(b&&c):=by cases b <;> rfl
theorem bT7 (x : aA) (f : kH) (ok : Bool) (hf : aC8 x = some (f, ok)) : rP x =
    if (ok&&!(!f.op&&!decide (x.op=0))&&!(!f.not_&&x.not_)&&!(!f.value&&!((decide (x.value.kind=0))&&((decide (x.value.num=0))&&((decide (x.value.text=[]))&&true))))&&!(!f.name&&(!decide (x.qual=[])||!decide (x.name=[])))&&!(decide ((x.kids.length:Int)<f.least)||decide (f.most<(x.kids.length:Int))||!decide ((x.sub.length:Int)=f.subs)))=true then aCe x else some false:=by
  rw [rP,hf]
  simp only [Option.bind_eq_bind]
  rw [show ∀ K:kH×Bool→Option Bool,(some (f,ok)).bind K=K (f,ok) from fun _=>rfl]
  simp only [orM]
  simp only [L6,orB,orS]
  simp only [Option.bind_some,aCe,Option.bind_eq_bind]
  generalize ((decide (x.value.kind=0))&&((decide (x.value.num=0))&&((decide (x.value.text=[]))&&true)))=zv
  generalize (!f.op&&!decide (x.op=0))=p1
  generalize (!f.not_&&x.not_)=p2
  generalize (!f.value&&!zv)=p3
  generalize (!decide (x.qual=[])||!decide (x.name=[]))=p4
  generalize f.name=fm
  generalize (decide ((x.kids.length:Int)<f.least)||decide (f.most<(x.kids.length:Int))||!decide ((x.sub.length:Int)=f.subs))=l3
  cases ok <;> cases p1 <;> cases p2 <;> cases p3 <;> cases fm <;> cases p4 <;> cases l3 <;> simp
def zvE (x:aA):Bool:=((decide (x.value.kind=0))&&((decide (x.value.num=0))&&((decide (x.value.text=[]))&&true)))
theorem aZx (x : aA) : zN x = (if ((!decide (x.kind = 2) && (!decide (x.qual = []) || !decide (x.name = []))) || (!decide (x.kind = 1) && !zvE x)) = true then some false else
    if ((!decide (x.kind=3)&&!decide (x.kind=4))&&!decide (x.op=0)||(x.not_&&!(decide (5≤x.kind)&&decide (x.kind≤8))))=true then some false else
    (if (decide (x.kind=1))=true then ((U3 x.value)>>=fun (y10:Bool)=>some (y10&&decide ((IntKind.wrap .i64 ((x.kids.length:Int)+(x.sub.length:Int)))=0)))
     else if (decide (x.kind=2))=true then ((mQ x.name)>>=fun (y12:Bool)=>(if y12=true then pE x.qual else some false)>>=fun (y14:Bool)=>some (y14&&decide ((IntKind.wrap .i64 ((x.kids.length:Int)+(x.sub.length:Int)))=0)))
     else some (if x.kind=3 then (decide (x.op=15)||decide (x.op=16))&&decide ((x.kids.length:Int)=1)&&decide ((x.sub.length:Int)=0)
      else if x.kind=4 then (decide (1≤x.op)&&decide (x.op≤14))&&decide ((x.kids.length:Int)=2)&&decide ((x.sub.length:Int)=0)
      else if x.kind=5 then decide ((x.kids.length:Int)=1)&&decide ((x.sub.length:Int)=0)
      else if x.kind=6 then decide ((x.kids.length:Int)=3)&&decide ((x.sub.length:Int)=0)
      else if x.kind=7 then (decide (2≤(x.kids.length:Int))&&decide ((x.kids.length:Int)≤9))&&decide ((x.sub.length:Int)=0)
      else if x.kind=8 then decide ((x.kids.length:Int)=1)&&decide ((x.sub.length:Int)=1)
      else if x.kind=9 then decide ((x.kids.length:Int)=0)&&decide ((x.sub.length:Int)=1)
      else false))):=by
  unfold zN gM
  simp only [Option.bind_eq_bind]
  simp only [Option.bind_some]
  simp only [L6,orB]
  obtain ⟨k,o,no,v,q,nm,ks,sb⟩:=x
  obtain ⟨bl,l1,l2⟩:=aO5 v
  obtain ⟨bn,n1,n2⟩:=rY nm
  obtain ⟨bq,q1,q2⟩:=yA q
  have hz:zvE ⟨k,o,no,v,q,nm,ks,sb⟩=((decide (v.kind=0))&&((decide (v.num=0))&&((decide (v.text=[]))&&true))):=rfl
  simp only [l1,n1,q1,hz,Option.bind_some]
  generalize ((decide (v.kind=0))&&((decide (v.num=0))&&((decide (v.text=[]))&&true)))=zv
  generalize decide (q=[])=q0
  generalize decide (nm=[])=n0
  by_cases k1:k=1
  · subst k1; cases q0 <;> cases n0 <;> cases no <;> by_cases o0:o=0 <;> cases bl <;> simp [o0]
  by_cases k2:k=2
  · subst k2; cases zv <;> cases no <;> by_cases o0:o=0 <;> cases bn <;> simp [o0]
  by_cases k3:k=3
  · subst k3; cases q0 <;> cases n0 <;> cases zv <;> cases no <;> simp
  by_cases k4:k=4
  · subst k4; cases q0 <;> cases n0 <;> cases zv <;> cases no <;> simp
  have kk:¬ (k=3∨k=4):=by omega
  by_cases k5:k=5
  · subst k5; cases q0 <;> cases n0 <;> cases zv <;> cases no <;> by_cases o0:o=0 <;> simp [o0]
  by_cases k6:k=6
  · subst k6; cases q0 <;> cases n0 <;> cases zv <;> cases no <;> by_cases o0:o=0 <;> simp [o0]
  by_cases k7:k=7
  · subst k7; cases q0 <;> cases n0 <;> cases zv <;> cases no <;> by_cases o0:o=0 <;> simp [o0]
  by_cases k8:k=8
  · subst k8; cases q0 <;> cases n0 <;> cases zv <;> cases no <;> by_cases o0:o=0 <;> simp [o0]
  by_cases k9:k=9
  · subst k9; cases q0 <;> cases n0 <;> cases zv <;> cases no <;> by_cases o0:o=0 <;> simp [o0]
  have kr:(decide (5≤k)&&decide (k≤8))=false:=by
    by_cases h:5≤k
    · have:¬ k≤8:=by omega
      simp [this]
    · simp [h]
  cases q0 <;> cases n0 <;> cases zv <;> cases no <;> by_cases o0:o=0 <;> simp [o0,k1,k2,k3,k4,k5,k6,k7,k8,k9]
theorem bIw (x : aA) (bl bc : Bool) (h1 : aD1 x.value = some bl) (h2 : (mQ x.name >>= fun (y12 : Bool) => (if y12 = true then pE x.qual else some false)) = some bc) : aC8 x = some (
    if x.kind=1 then (⟨false,false,true,false,0,0,0⟩,bl)
    else if x.kind=2 then (⟨false,false,false,true,0,0,0⟩,bc)
    else if x.kind=3 then (⟨true,false,false,false,1,1,0⟩,decide (x.op=15)||decide (x.op=16))
    else if x.kind=4 then (⟨true,false,false,false,2,2,0⟩,decide (1≤x.op)&&decide (x.op≤14))
    else if x.kind=5 then (⟨false,true,false,false,1,1,0⟩,true)
    else if x.kind=6 then (⟨false,true,false,false,3,3,0⟩,true)
    else if x.kind=7 then (⟨false,true,false,false,2,9,0⟩,true)
    else if x.kind=8 then (⟨false,true,false,false,1,1,1⟩,true)
    else if x.kind=9 then (⟨false,false,false,false,0,0,1⟩,true)
    else (⟨false,false,false,false,0,0,0⟩,false)):=by
  obtain ⟨k,o,no,v,q,nm,ks,sb⟩:=x
  obtain ⟨bn,n1,n2⟩:=rY nm
  obtain ⟨bo,o1,o2⟩:=rY q
  unfold aC8
  dsimp only at h1 h2 ⊢
  have h3:((if ((true&&(bn==true))&&((decide (q=[]))==false))=true then xB q else some default).bind fun (y3:Bool)=>(if (true&&(bn==true))=true then some (if (decide (q=[]))=true then true else y3) else some default).bind fun (y4:Bool)=>(some (if bn=true then y4 else false)).bind fun y5=>some ((kH.mk false false false true 0 0 0),y5))=some ((kH.mk false false false true 0 0 0),bc):=by
    unfold pE at h2
    rw [n1,o1] at h2
    rw [o2]
    cases bn
    · simp at h2; simp [h2]
    · by_cases q0:q=[]
      · simp [q0] at h2; simp [q0,h2]
      · simp [q0] at h2; simp [q0,h2]
  simp only [h1,n2,Option.bind_eq_bind,Option.bind_some]
  by_cases k1:k=1
  · simp [k1]
  by_cases k2:k=2
  · subst k2; simp only [Option.bind_some] at h3; simpa using h3
  by_cases k3:k=3
  · simp [k3]
  by_cases k4:k=4
  · simp [k4]
  by_cases k5:k=5
  · simp [k5]
  by_cases k6:k=6
  · simp [k6]
  by_cases k7:k=7
  · simp [k7]
  by_cases k8:k=8
  · simp [k8]
  by_cases k9:k=9
  · simp [k9]
  simp [k1,k2,k3,k4,k5,k6,k7,k8,k9]
theorem bUl (x:aA) (hk:x.kids.length≤1048576) (hs:x.sub.length≤1048576):∃ b,zN x=some b∧(rP x=if b=true then aCe x else some false)∧(b=true→x.sub.length≤1):=by
  obtain ⟨bl,l1,l2⟩:=aO5 x.value
  obtain ⟨bn,n1,n2⟩:=rY x.name
  obtain ⟨bq,q1,q2⟩:=yA x.qual
  have hc:(mQ x.name>>=fun (y12:Bool)=>(if y12=true then pE x.qual else some false))=some (bn&&bq):=by
    rw [n1,q1]; cases bn <;> rfl
  have hw:IntKind.wrap .i64 ((x.kids.length:Int)+(x.sub.length:Int))=(x.kids.length:Int)+(x.sub.length:Int):=eH (by omega) (by omega)
  have hF:=bIw x bl (bn&&bq) l2 hc
  obtain ⟨f,ok,hfo⟩:∃ f ok,aC8 x=some (f,ok):=⟨_,_,hF⟩
  have hi:=bT7 x f ok hfo
  rw [hfo] at hF
  have hp:=aZx x
  rw [l1,hw] at hp
  have hc2:((mQ x.name)>>=fun (y12:Bool)=>(if y12=true then pE x.qual else some false)>>=fun (y14:Bool)=>some (y14&&decide ((x.kids.length:Int)+(x.sub.length:Int)=0)))=some ((bn&&bq)&&decide ((x.kids.length:Int)+(x.sub.length:Int)=0)):=by
    rw [n1,q1]; cases bn <;> rfl
  rw [hc2] at hp
  rw [hp,hi]
  have hz:((decide (x.value.kind=0))&&((decide (x.value.num=0))&&((decide (x.value.text=[]))&&true)))=zvE x:=rfl
  rw [hz]
  obtain ⟨k,o,no,v,q,nm,ks,sb⟩:=x
  generalize zvE ⟨k,o,no,v,q,nm,ks,sb⟩=zv
  dsimp only at hk hs hF ⊢
  generalize decide (q=[])=q0
  generalize decide (nm=[])=n0
  generalize (bn&&bq)=bc at hF ⊢
  clear hi hp hc hc2 hw hz l1 l2 n1 n2 q1 q2 hfo
  generalize aCe _=R
  have b2i:∀ (a b:Bool),a=b→∀ (c:Prop),(a=true→c)→∃ b',(some a:Option Bool)=some b'∧(if b=true then R else some false)=(if b'=true then R else some false)∧(b'=true→c):=by
    rintro a b rfl c h; exact ⟨a,rfl,rfl,h⟩
  have lt0:decide ((ks.length:Int)<0)=false:=by simp
  have hif:∀ (a b:Bool) (X:Bool),(if a=true then some false else if b=true then some false else some X)=some (!a&&(!b&&X)):=by intro a b X; cases a <;> cases b <;> rfl
  have e2:(decide ((0:Int)<(ks.length:Int))||!decide ((sb.length:Int)=0))=!decide ((ks.length:Int)+(sb.length:Int)=0):=by rw [Bool.eq_iff_iff]; simp only [Bool.or_eq_true,Bool.not_eq_true',decide_eq_true_eq,decide_eq_false_iff_not]; omega
  have eN:∀ n:Int,(decide ((ks.length:Int)<n)||decide (n<(ks.length:Int)))=!decide ((ks.length:Int)=n):=fun n=>by rw [Bool.eq_iff_iff]; simp only [Bool.or_eq_true,Bool.not_eq_true',decide_eq_true_eq,decide_eq_false_iff_not]; omega
  have e4:(decide ((ks.length:Int)<2)||decide ((9:Int)<(ks.length:Int)))=!(decide (2≤(ks.length:Int))&&decide ((ks.length:Int)≤9)):=by rw [Bool.eq_iff_iff]; simp only [Bool.or_eq_true,Bool.not_eq_true',Bool.and_eq_false_iff,decide_eq_true_eq,decide_eq_false_iff_not]; omega
  have e0:decide ((0:Int)<(ks.length:Int))=!decide ((ks.length:Int)=0):=by rw [Bool.eq_iff_iff]; simp only [Bool.not_eq_true',decide_eq_true_eq,decide_eq_false_iff_not]; omega
  by_cases k1:k=1
  · subst k1
    simp only [Int.reduceEq,if_true,if_false,Option.some.injEq,Prod.mk.injEq] at hF
    obtain ⟨rfl,hok⟩:=hF
    rw [hok]
    simp only [Int.reduceEq,decide_true,decide_false,Bool.not_false,Bool.not_true,Bool.true_and,Bool.false_and,Bool.and_true,if_true,if_false,Bool.false_eq_true,Bool.or_false,Option.bind_eq_bind,Option.bind_some,Int.reduceLE]
    try dsimp only
    try simp only [Int.reduceEq,decide_true,decide_false,Bool.not_false,Bool.not_true,Bool.true_and,Bool.false_and,Bool.and_true,Bool.and_false,if_true,if_false,Bool.false_eq_true,Bool.or_false,Bool.false_or,Bool.true_or,Bool.or_true,reduceIte,Option.bind_eq_bind,Option.bind_some,Int.reduceLE,Int.reduceLT]
    simp only [lt0,Bool.false_or,e2,hif]
    try simp only [e0]
    refine b2i _ _ ?_ _ ?_
    · generalize decide ((ks.length:Int)+(sb.length:Int)=0)=t0
      generalize decide ((sb.length:Int)=0)=s0
      generalize decide ((sb.length:Int)=1)=s1
      generalize decide (o=0)=o0
      generalize decide (o=15)=o15
      generalize decide (o=16)=o16
      generalize decide (1≤o)=oa
      generalize decide (o≤14)=ob
      generalize decide ((ks.length:Int)=0)=c0
      generalize decide ((ks.length:Int)=1)=c1
      generalize decide ((ks.length:Int)=2)=c2
      generalize decide ((ks.length:Int)=3)=c3
      generalize (decide (2≤(ks.length:Int))&&decide ((ks.length:Int)≤9))=c29
      cases q0 <;> cases n0 <;> cases o0 <;> cases no <;> cases bl <;> cases t0 <;> rfl
    · intro h
      simp only [Bool.and_eq_true,decide_eq_true_eq] at h
      omega
  by_cases k2:k=2
  · subst k2
    simp only [Int.reduceEq,if_true,if_false,Option.some.injEq,Prod.mk.injEq] at hF
    obtain ⟨rfl,hok⟩:=hF
    rw [hok]
    simp only [Int.reduceEq,decide_true,decide_false,Bool.not_false,Bool.not_true,Bool.true_and,Bool.false_and,Bool.and_true,if_true,if_false,Bool.false_eq_true,Bool.false_or,Option.bind_eq_bind,Option.bind_some,Int.reduceLE]
    try dsimp only
    try simp only [Int.reduceEq,decide_true,decide_false,Bool.not_false,Bool.not_true,Bool.true_and,Bool.false_and,Bool.and_true,Bool.and_false,if_true,if_false,Bool.false_eq_true,Bool.or_false,Bool.false_or,Bool.true_or,Bool.or_true,reduceIte,Option.bind_eq_bind,Option.bind_some,Int.reduceLE,Int.reduceLT]
    simp only [lt0,Bool.false_or,e2,hif]
    try simp only [e0]
    refine b2i _ _ ?_ _ ?_
    · generalize decide ((ks.length:Int)+(sb.length:Int)=0)=t0
      generalize decide ((sb.length:Int)=0)=s0
      generalize decide ((sb.length:Int)=1)=s1
      generalize decide (o=0)=o0
      generalize decide (o=15)=o15
      generalize decide (o=16)=o16
      generalize decide (1≤o)=oa
      generalize decide (o≤14)=ob
      generalize decide ((ks.length:Int)=0)=c0
      generalize decide ((ks.length:Int)=1)=c1
      generalize decide ((ks.length:Int)=2)=c2
      generalize decide ((ks.length:Int)=3)=c3
      generalize (decide (2≤(ks.length:Int))&&decide ((ks.length:Int)≤9))=c29
      cases zv <;> cases o0 <;> cases no <;> cases bc <;> cases t0 <;> rfl
    · intro h
      simp only [Bool.and_eq_true,decide_eq_true_eq] at h
      omega
  by_cases k3:k=3
  · subst k3
    simp only [Int.reduceEq,if_true,if_false,Option.some.injEq,Prod.mk.injEq] at hF
    obtain ⟨rfl,hok⟩:=hF
    rw [hok]
    simp only [Int.reduceEq,decide_true,decide_false,Bool.not_false,Bool.not_true,Bool.true_and,Bool.false_and,Bool.and_true,if_true,if_false,Bool.false_eq_true,Bool.false_or,Option.bind_eq_bind,Option.bind_some,Int.reduceLE]
    try dsimp only
    try simp only [Int.reduceEq,decide_true,decide_false,Bool.not_false,Bool.not_true,Bool.true_and,Bool.false_and,Bool.and_true,Bool.and_false,if_true,if_false,Bool.false_eq_true,Bool.or_false,Bool.false_or,Bool.true_or,Bool.or_true,reduceIte,Option.bind_eq_bind,Option.bind_some,Int.reduceLE,Int.reduceLT]
    simp only [eN,hif]
    try simp only [e0]
    refine b2i _ _ ?_ _ ?_
    · generalize decide ((ks.length:Int)+(sb.length:Int)=0)=t0
      generalize decide ((sb.length:Int)=0)=s0
      generalize decide ((sb.length:Int)=1)=s1
      generalize decide (o=0)=o0
      generalize decide (o=15)=o15
      generalize decide (o=16)=o16
      generalize decide (1≤o)=oa
      generalize decide (o≤14)=ob
      generalize decide ((ks.length:Int)=0)=c0
      generalize decide ((ks.length:Int)=1)=c1
      generalize decide ((ks.length:Int)=2)=c2
      generalize decide ((ks.length:Int)=3)=c3
      generalize (decide (2≤(ks.length:Int))&&decide ((ks.length:Int)≤9))=c29
      cases q0 <;> cases n0 <;> cases zv <;> cases no <;> cases o15 <;> cases o16 <;> cases c1 <;> cases s0 <;> rfl
    · intro h
      simp only [Bool.and_eq_true,decide_eq_true_eq] at h
      omega
  by_cases k4:k=4
  · subst k4
    simp only [Int.reduceEq,if_true,if_false,Option.some.injEq,Prod.mk.injEq] at hF
    obtain ⟨rfl,hok⟩:=hF
    rw [hok]
    simp only [Int.reduceEq,decide_true,decide_false,Bool.not_false,Bool.not_true,Bool.true_and,Bool.false_and,Bool.and_true,Bool.and_false,if_true,if_false,Bool.false_eq_true,Bool.false_or,Option.bind_eq_bind,Option.bind_some,Int.reduceLE]
    try dsimp only
    try simp only [Int.reduceEq,decide_true,decide_false,Bool.not_false,Bool.not_true,Bool.true_and,Bool.false_and,Bool.and_true,Bool.and_false,if_true,if_false,Bool.false_eq_true,Bool.or_false,Bool.false_or,Bool.true_or,Bool.or_true,reduceIte,Option.bind_eq_bind,Option.bind_some,Int.reduceLE,Int.reduceLT]
    simp only [eN,hif]
    try simp only [e0]
    refine b2i _ _ ?_ _ ?_
    · generalize decide ((ks.length:Int)+(sb.length:Int)=0)=t0
      generalize decide ((sb.length:Int)=0)=s0
      generalize decide ((sb.length:Int)=1)=s1
      generalize decide (o=0)=o0
      generalize decide (o=15)=o15
      generalize decide (o=16)=o16
      generalize decide (1≤o)=oa
      generalize decide (o≤14)=ob
      generalize decide ((ks.length:Int)=0)=c0
      generalize decide ((ks.length:Int)=1)=c1
      generalize decide ((ks.length:Int)=2)=c2
      generalize decide ((ks.length:Int)=3)=c3
      generalize (decide (2≤(ks.length:Int))&&decide ((ks.length:Int)≤9))=c29
      cases q0 <;> cases n0 <;> cases zv <;> cases no <;> cases oa <;> cases ob <;> cases c2 <;> cases s0 <;> rfl
    · intro h
      simp only [Bool.and_eq_true,decide_eq_true_eq] at h
      omega
  by_cases k5:k=5
  · subst k5
    simp only [Int.reduceEq,if_true,if_false,Option.some.injEq,Prod.mk.injEq] at hF
    obtain ⟨rfl,hok⟩:=hF
    rw [hok]
    simp only [Int.reduceEq,decide_true,decide_false,Bool.not_false,Bool.not_true,Bool.true_and,Bool.false_and,Bool.and_true,Bool.and_false,if_true,if_false,Bool.false_eq_true,Bool.or_false,Option.bind_eq_bind,Option.bind_some,Int.reduceLE]
    try dsimp only
    try simp only [Int.reduceEq,decide_true,decide_false,Bool.not_false,Bool.not_true,Bool.true_and,Bool.false_and,Bool.and_true,Bool.and_false,if_true,if_false,Bool.false_eq_true,Bool.or_false,Bool.false_or,Bool.true_or,Bool.or_true,reduceIte,Option.bind_eq_bind,Option.bind_some,Int.reduceLE,Int.reduceLT]
    simp only [eN,hif]
    try simp only [e0]
    refine b2i _ _ ?_ _ ?_
    · generalize decide ((ks.length:Int)+(sb.length:Int)=0)=t0
      generalize decide ((sb.length:Int)=0)=s0
      generalize decide ((sb.length:Int)=1)=s1
      generalize decide (o=0)=o0
      generalize decide (o=15)=o15
      generalize decide (o=16)=o16
      generalize decide (1≤o)=oa
      generalize decide (o≤14)=ob
      generalize decide ((ks.length:Int)=0)=c0
      generalize decide ((ks.length:Int)=1)=c1
      generalize decide ((ks.length:Int)=2)=c2
      generalize decide ((ks.length:Int)=3)=c3
      generalize (decide (2≤(ks.length:Int))&&decide ((ks.length:Int)≤9))=c29
      cases q0 <;> cases n0 <;> cases zv <;> cases no <;> cases o0 <;> cases c1 <;> cases s0 <;> rfl
    · intro h
      simp only [Bool.and_eq_true,decide_eq_true_eq] at h
      omega
  by_cases k6:k=6
  · subst k6
    simp only [Int.reduceEq,if_true,if_false,Option.some.injEq,Prod.mk.injEq] at hF
    obtain ⟨rfl,hok⟩:=hF
    rw [hok]
    simp only [Int.reduceEq,decide_true,decide_false,Bool.not_false,Bool.not_true,Bool.true_and,Bool.false_and,Bool.and_true,Bool.and_false,if_true,if_false,Bool.false_eq_true,Bool.or_false,Option.bind_eq_bind,Option.bind_some,Int.reduceLE]
    try dsimp only
    try simp only [Int.reduceEq,decide_true,decide_false,Bool.not_false,Bool.not_true,Bool.true_and,Bool.false_and,Bool.and_true,Bool.and_false,if_true,if_false,Bool.false_eq_true,Bool.or_false,Bool.false_or,Bool.true_or,Bool.or_true,reduceIte,Option.bind_eq_bind,Option.bind_some,Int.reduceLE,Int.reduceLT]
    simp only [eN,hif]
    try simp only [e0]
    refine b2i _ _ ?_ _ ?_
    · generalize decide ((ks.length:Int)+(sb.length:Int)=0)=t0
      generalize decide ((sb.length:Int)=0)=s0
      generalize decide ((sb.length:Int)=1)=s1
      generalize decide (o=0)=o0
      generalize decide (o=15)=o15
      generalize decide (o=16)=o16
      generalize decide (1≤o)=oa
      generalize decide (o≤14)=ob
      generalize decide ((ks.length:Int)=0)=c0
      generalize decide ((ks.length:Int)=1)=c1
      generalize decide ((ks.length:Int)=2)=c2
      generalize decide ((ks.length:Int)=3)=c3
      generalize (decide (2≤(ks.length:Int))&&decide ((ks.length:Int)≤9))=c29
      cases q0 <;> cases n0 <;> cases zv <;> cases no <;> cases o0 <;> cases c3 <;> cases s0 <;> rfl
    · intro h
      simp only [Bool.and_eq_true,decide_eq_true_eq] at h
      omega
  by_cases k7:k=7
  · subst k7
    simp only [Int.reduceEq,if_true,if_false,Option.some.injEq,Prod.mk.injEq] at hF
    obtain ⟨rfl,hok⟩:=hF
    rw [hok]
    simp only [Int.reduceEq,decide_true,decide_false,Bool.not_false,Bool.not_true,Bool.true_and,Bool.false_and,Bool.and_true,Bool.and_false,if_true,if_false,Bool.false_eq_true,Bool.or_false,Option.bind_eq_bind,Option.bind_some,Int.reduceLE]
    try dsimp only
    try simp only [Int.reduceEq,decide_true,decide_false,Bool.not_false,Bool.not_true,Bool.true_and,Bool.false_and,Bool.and_true,Bool.and_false,if_true,if_false,Bool.false_eq_true,Bool.or_false,Bool.false_or,Bool.true_or,Bool.or_true,reduceIte,Option.bind_eq_bind,Option.bind_some,Int.reduceLE,Int.reduceLT]
    simp only [e4,hif]
    try simp only [e0]
    refine b2i _ _ ?_ _ ?_
    · generalize decide ((ks.length:Int)+(sb.length:Int)=0)=t0
      generalize decide ((sb.length:Int)=0)=s0
      generalize decide ((sb.length:Int)=1)=s1
      generalize decide (o=0)=o0
      generalize decide (o=15)=o15
      generalize decide (o=16)=o16
      generalize decide (1≤o)=oa
      generalize decide (o≤14)=ob
      generalize decide ((ks.length:Int)=0)=c0
      generalize decide ((ks.length:Int)=1)=c1
      generalize decide ((ks.length:Int)=2)=c2
      generalize decide ((ks.length:Int)=3)=c3
      generalize (decide (2≤(ks.length:Int))&&decide ((ks.length:Int)≤9))=c29
      cases q0 <;> cases n0 <;> cases zv <;> cases no <;> cases o0 <;> cases c29 <;> cases s0 <;> rfl
    · intro h
      simp only [Bool.and_eq_true,decide_eq_true_eq] at h
      omega
  by_cases k8:k=8
  · subst k8
    simp only [Int.reduceEq,if_true,if_false,Option.some.injEq,Prod.mk.injEq] at hF
    obtain ⟨rfl,hok⟩:=hF
    rw [hok]
    simp only [Int.reduceEq,decide_true,decide_false,Bool.not_false,Bool.not_true,Bool.true_and,Bool.false_and,Bool.and_true,Bool.and_false,if_true,if_false,Bool.false_eq_true,Bool.or_false,Option.bind_eq_bind,Option.bind_some,Int.reduceLE]
    try dsimp only
    try simp only [Int.reduceEq,decide_true,decide_false,Bool.not_false,Bool.not_true,Bool.true_and,Bool.false_and,Bool.and_true,Bool.and_false,if_true,if_false,Bool.false_eq_true,Bool.or_false,Bool.false_or,Bool.true_or,Bool.or_true,reduceIte,Option.bind_eq_bind,Option.bind_some,Int.reduceLE,Int.reduceLT]
    simp only [eN,hif]
    try simp only [e0]
    refine b2i _ _ ?_ _ ?_
    · generalize decide ((ks.length:Int)+(sb.length:Int)=0)=t0
      generalize decide ((sb.length:Int)=0)=s0
      generalize decide ((sb.length:Int)=1)=s1
      generalize decide (o=0)=o0
      generalize decide (o=15)=o15
      generalize decide (o=16)=o16
      generalize decide (1≤o)=oa
      generalize decide (o≤14)=ob
      generalize decide ((ks.length:Int)=0)=c0
      generalize decide ((ks.length:Int)=1)=c1
      generalize decide ((ks.length:Int)=2)=c2
      generalize decide ((ks.length:Int)=3)=c3
      generalize (decide (2≤(ks.length:Int))&&decide ((ks.length:Int)≤9))=c29
      cases q0 <;> cases n0 <;> cases zv <;> cases no <;> cases o0 <;> cases c1 <;> cases s1 <;> rfl
    · intro h
      simp only [Bool.and_eq_true,decide_eq_true_eq] at h
      omega
  by_cases k9:k=9
  · subst k9
    simp only [Int.reduceEq,if_true,if_false,Option.some.injEq,Prod.mk.injEq] at hF
    obtain ⟨rfl,hok⟩:=hF
    rw [hok]
    simp only [Int.reduceEq,decide_true,decide_false,Bool.not_false,Bool.true_and,Bool.and_true,Bool.and_false,if_true,if_false,Bool.false_eq_true,Option.bind_eq_bind,Option.bind_some,Int.reduceLE]
    try dsimp only
    try simp only [Int.reduceEq,decide_true,decide_false,Bool.not_false,Bool.not_true,Bool.true_and,Bool.false_and,Bool.and_true,Bool.and_false,if_true,if_false,Bool.false_eq_true,Bool.or_false,Bool.false_or,Bool.true_or,Bool.or_true,reduceIte,Option.bind_eq_bind,Option.bind_some,Int.reduceLE,Int.reduceLT]
    simp only [lt0,Bool.false_or,hif]
    try simp only [e0]
    refine b2i _ _ ?_ _ ?_
    · generalize decide ((ks.length:Int)+(sb.length:Int)=0)=t0
      generalize decide ((sb.length:Int)=0)=s0
      generalize decide ((sb.length:Int)=1)=s1
      generalize decide (o=0)=o0
      generalize decide (o=15)=o15
      generalize decide (o=16)=o16
      generalize decide (1≤o)=oa
      generalize decide (o≤14)=ob
      generalize decide ((ks.length:Int)=0)=c0
      generalize decide ((ks.length:Int)=1)=c1
      generalize decide ((ks.length:Int)=2)=c2
      generalize decide ((ks.length:Int)=3)=c3
      generalize (decide (2≤(ks.length:Int))&&decide ((ks.length:Int)≤9))=c29
      cases q0 <;> cases n0 <;> cases zv <;> cases no <;> cases o0 <;> cases c0 <;> cases s1 <;> rfl
    · intro h
      simp only [Bool.and_eq_true,decide_eq_true_eq] at h
      omega
  simp only [k1,k2,k3,k4,k5,k6,k7,k8,k9,if_false,Option.some.injEq,Prod.mk.injEq] at hF
  obtain ⟨rfl,hok⟩:=hF
  rw [hok]
  simp only [k1,k2,k3,k4,k5,k6,k7,k8,k9,decide_false,Bool.not_false,Bool.true_and,Bool.false_eq_true,if_false,ite_self,Bool.false_and]
  exact ⟨false,rfl,by simp,by simp⟩
theorem bIj:xB=mQ:=by
  funext s
  obtain ⟨b,h1,h2⟩:=rY s
  rw [h1,h2]
theorem aZl:M9=pE:=by
  funext s
  obtain ⟨b,h1,h2⟩:=yA s
  rw [h1,h2]
theorem aS4 (x:aA):aFh x=tH x (aA.mk 0 0 false (bN.mk 0 0 []) [] [] [] [])∧∃ b,tH x (aA.mk 0 0 false (bN.mk 0 0 []) [] [] [] [])=some b:=by
  unfold aFh
  rw [aAn,tH]
  have ek:G7 x.kids []=some (decide (x.kids=[])):=by
    rw [G7,aJj]
    by_cases h:x.kids=[]
    · rw [h,aIo]; simp
    · have : ¬ (x.kids.length : Int) = 0 := by
        have:=List.length_pos_iff.2 h; omega
      simp [h]
  have es:aO7 x.sub []=some (decide (x.sub=[])):=by
    rw [aO7]
    by_cases h:x.sub=[]
    · rw [h,aPz]; simp
    · simp [h]
  have fk:wB x.kids []=some (decide (x.kids=[])):=by
    rw [wB]
    by_cases h:x.kids=[]
    · rw [h,V3]; simp
    · simp [h]
  simp only [ek,es,fk,Option.bind_eq_bind,Option.bind_some]
  have hz:((decide (x.value.kind=0))&&((decide (x.value.num=0))&&((decide (x.value.text=[]))&&true)))=zvE x:=rfl
  rw [hz]
  have l0:x.sub=[]→Y7 x (aA.mk 0 0 false (bN.mk 0 0 []) [] [] [] []) 0=some true:=by
    intro h; rw [Y7]; simp [h]
  have hl:decide ((x.sub.length:Int)=(([]:List aQ).length:Int))=decide (x.sub=[]):=by
    by_cases h:x.sub=[]
    · simp [h]
    · simp [h]
  rw [hl]
  by_cases hs:x.sub=[]
  · rw [l0 hs]
    simp only [hs,decide_true]
    generalize zvE x=zv
    generalize decide (x.kind=0)=b1
    generalize decide (x.op=0)=b2
    generalize decide (x.qual=[])=b3
    generalize decide (x.name=[])=b4
    generalize decide (x.kids=[])=b5
    generalize x.not_=b6
    cases b1 <;> cases b2 <;> cases b6 <;> cases zv <;> cases b3 <;> cases b4 <;> cases b5 <;> simp
  · simp only [hs,decide_false]
    generalize zvE x=zv
    generalize decide (x.kind=0)=b1
    generalize decide (x.op=0)=b2
    generalize decide (x.qual=[])=b3
    generalize decide (x.name=[])=b4
    generalize decide (x.kids=[])=b5
    generalize x.not_=b6
    cases b1 <;> cases b2 <;> cases b6 <;> cases zv <;> cases b3 <;> cases b4 <;> cases b5 <;> simp
theorem bUv:aFh=fun x=>tH x (aA.mk 0 0 false (bN.mk 0 0 []) [] [] [] []):=funext fun x=>(aS4 x).1
theorem aYp (l:List aA) (d:aA→Bool) (hl:l.length≤1048576) (H:∀ y ∈ l,rP y=some (d y)):V5 l=some (l.all d):=by
  have key:∀ i,i≤l.length→∃ k:Int,aAj l (i:Nat)=some k∧(!decide (0≤k))=(l.drop i).all d:=by
    refine iG ?_ ?_
    · rw [aAj]
      exact ⟨-1,by simp,by simp⟩
    · intro i hi ih
      rw [aAj,List.drop_eq_getElem_cons hi]
      simp only [eF,eZ hi,fT hi (by omega),hi,decide_true,if_true,aTf,H _ (List.getElem_mem hi),Option.bind_eq_bind,Option.bind_some,List.all_cons]
      cases hd:d l[i] with
      | true=>simpa using ih
      | false=>exact ⟨(i:Int),by simp,by simp⟩
  obtain ⟨k,h1,h2⟩:=key 0 (by omega)
  rw [show ((0:Nat):Int)=0 from rfl] at h1
  rw [V5,aT7,aZc,h1]
  simpa using h2
theorem bLv (l:List aA) (d:aA→Bool) (hl:l.length≤1048576) (H:∀ y ∈ l,gN y=some (d y)):qO l 0=some (l.all d):=by
  have key:∀ i,i≤l.length→qO l (i:Nat)=some ((l.drop i).all d):=by
    refine iG ?_ ?_
    · rw [qO]; simp
    · intro i hi ih
      rw [qO,List.drop_eq_getElem_cons hi]
      simp only [eF,eZ hi,fT hi (by omega),hi,decide_true,if_true,H _ (List.getElem_mem hi),Option.bind_eq_bind,Option.bind_some,List.all_cons]
      cases hd:d l[i] with
      | true=>simpa using ih
      | false=>simp
  simpa using key 0 (by omega)
theorem aWg (q:aQ) (d:aA→Bool) (hz:eD q≤1048576) (H:∀ y ∈ bV q,gN y=some (d y)∧rP y=some (d y)):aGd q=nP q∧∃ b,nP q=some b:=by
  have hq:=zQ q
  have hle:=R4 q
  have e2:∃ b,qO (bV q) 0=some b∧V5 (bV q)=some b:=⟨_,bLv _ d (by omega) fun y hy=>(H y hy).1,aYp _ d (by omega) fun y hy=>(H y hy).2⟩
  obtain ⟨b2,r2,f2⟩:=e2
  have e1:∀ i,i≤q.from_.length→aAx q (i:Nat)=qK q (i:Nat)∧∃ b,qK q (i:Nat)=some b:=by
    refine iG ?_ ?_
    · rw [aAx,qK]
      simp [aCq q hz,I7 q hz,r2,f2]
    · intro i hi ih
      obtain ⟨ih1,b,ih2⟩:=ih
      rw [aAx,qK]
      obtain ⟨bn,n1,_⟩:=rY q.from_[i].table
      obtain ⟨ba,m1,_⟩:=yA q.from_[i].as_
      simp only [bIj,aZl,eF,eZ hi,fT hi (by omega),hi,decide_true,if_true,n1,m1,ih1,ih2,Option.bind_eq_bind,Option.bind_some]
      refine ⟨trivial,?_⟩
      generalize decide ((1:Int)<(q.from_[i].on_.length:Int))=c1
      generalize decide ((i:Int)=0)=c2
      generalize decide ((0:Int)<(q.from_[i].on_.length:Int))=c3
      cases bn <;> cases ba <;> cases c1 <;> cases c2 <;> cases c3 <;> exact ⟨_,rfl⟩
  have e0:∀ i,i≤q.items.length→aAi q (i:Nat)=qG q (i:Nat)∧∃ b,qG q (i:Nat)=some b:=by
    refine iG ?_ ?_
    · rw [aAi,qG]
      simpa using e1 0 (by omega)
    · intro i hi ih
      obtain ⟨ih1,b,ih2⟩:=ih
      rw [aAi,qG]
      obtain ⟨bq,m1,_⟩:=yA q.items[i].qual
      obtain ⟨ba,m2,_⟩:=yA q.items[i].as_
      obtain ⟨_,bz,m3⟩:=aS4 q.items[i].expr
      simp only [bUv,aZl,eF,eZ hi,fT hi (by omega),hi,decide_true,if_true,m1,m2,m3,ih1,ih2,Option.bind_eq_bind,Option.bind_some]
      refine ⟨trivial,?_⟩
      generalize q.items[i].star=s
      cases s <;> cases bq <;> cases ba <;> cases bz <;> by_cases g1:q.items[i].as_=[] <;> by_cases g2:q.items[i].qual=[] <;> simp [g1,g2]
  obtain ⟨k1,b,k2⟩:=e0 0 (by omega)
  rw [show ((0:Nat):Int)=0 from rfl] at k1 k2
  rw [aGd,nP,k1,k2]
  unfold gM
  simp only [Option.bind_eq_bind,Option.bind_some]
  by_cases a1:(1:Int)≤(q.items.length:Int)
  · have a1':¬ (q.items.length:Int)<1:=by omega
    by_cases a2:(q.items.length:Int)≤12
    · have a2':¬ (12:Int)<(q.items.length:Int):=by omega
      by_cases a3:(1:Int)≤(q.from_.length:Int)
      · have a3':¬ (q.from_.length:Int)<1:=by omega
        by_cases a4:(q.from_.length:Int)≤3
        · have a4':¬ (3:Int)<(q.from_.length:Int):=by omega
          simp only [a1,a1',a2,a2',a3,a3',a4,a4',decide_true,decide_false]
          by_cases a5:(1:Int)<(q.where_.length:Int) <;> by_cases a6:(12:Int)<(q.order.length:Int) <;> by_cases a7:q.limit < -1 <;> simp [a5,a6,a7]
        · have a4':(3:Int)<(q.from_.length:Int):=by omega
          simp only [a1,a1',a2,a2',a3,a3',a4,a4',decide_true,decide_false]; simp
      · have a3':(q.from_.length:Int)<1:=by omega
        simp only [a1,a1',a2,a2',a3,a3',decide_true,decide_false]; simp
    · have a2':(12:Int)<(q.items.length:Int):=by omega
      simp only [a1,a1',a2,a2',decide_true,decide_false]; simp
  · have a1':(q.items.length:Int)<1:=by omega
    simp only [a1,a1',decide_true,decide_false]; simp
theorem right_eq:∀ n:Nat,∀ x:aA,aX x<n→aX x≤1048576→∃ b,gN x=some b∧rP x=some b:=by
  intro n
  induction n with
  | zero=>intro x h _; omega
  | succ n ih =>
    intro x hx hz
    have hE:=zE x
    let d:aA→Bool:=fun y=>(gN y).getD false
    have H:∀ y,aX y<aX x→gN y=some (d y)∧rP y=some (d y):=by
      intro y hy
      obtain ⟨r,h1,h2⟩:=ih y (by omega) (by omega)
      simp only [d,h1,h2,Option.getD_some,and_self]
    have HK:∀ y ∈ x.kids,gN y=some (d y)∧rP y=some (d y):=fun y hy=>H y (by have:=mV hy; omega)
    have HQ:∀ q ∈ x.sub,aGd q=nP q∧∃ b,nP q=some b:=by
      intro q hq
      have h1:=qL hq
      exact aWg q d (by omega) fun y hy=>H y (by have:=oL hy; omega)
    obtain ⟨b,s1,s2,s3⟩:=bUl x (by omega) (by omega)
    rw [gN,s1,s2]
    cases b with
    | false=>exact ⟨false,by simp,by simp⟩
    | true =>
      have hsl:=s3 rfl
      have hall:=aYp x.kids d (by omega) fun y hy=>(HK y hy).2
      -- the one query below
      have tail : ∃ t, (∀ c : Bool, ((if (true && (c == true)) = true then aBd x.sub else some default) >>= fun (y14 : Bool) => (some (if c = true then (!y14) else false)) >>= fun (y15 : Bool) => some y15) = some (c && t)) ∧
          ((if (true&&((decide ((x.sub.length:Int)=0))==false))=true then idx x.sub 0 else some default)>>=fun (y4:aQ)=>(if (true&&((decide ((x.sub.length:Int)=0))==false))=true then nP y4 else some default)>>=fun (y5:Bool)=>(some (if (decide ((x.sub.length:Int)=0))=true then true else y5))>>=fun (y6:Bool)=>some y6)=some t:=by
        cases hsub:x.sub with
        | nil =>
          refine ⟨true,?_,by simp⟩
          intro c
          rw [aBd,aQs,aBf]
          cases c <;> simp
        | cons q l =>
          have hl:l=[]:=by
            rw [hsub] at hsl; simp only [List.length_cons] at hsl
            exact List.eq_nil_of_length_eq_zero (by omega)
          subst hl
          obtain ⟨g1,t,g2⟩:=HQ q (by rw [hsub]; simp)
          have w1:IntKind.wrap .i64 (0+1)=1:=by decide
          refine ⟨t,?_,by simp [idx,g2]⟩
          intro c
          rw [aBd,aQs,aBf,w1,aBf]
          cases c <;> cases t <;> simp [idx,aSe,g1,g2]
      obtain ⟨t,t1,t2⟩:=tail
      refine ⟨x.kids.all d&&t,?_,?_⟩
      · have key : ∀ i, i ≤ x.kids.length → qV x (i : Nat) = some ((x.kids.drop i).all d && t) := by
          refine iG ?_ ?_
          · rw [qV]
            simp only [eF,Nat.lt_irrefl,decide_false,Bool.false_eq_true,if_false,t2]
            simp
          · intro i hi ih
            rw [qV,List.drop_eq_getElem_cons hi]
            simp only [eF,eZ hi,fT hi (by omega),hi,decide_true,if_true,(HK _ (List.getElem_mem hi)).1,Option.bind_eq_bind,Option.bind_some,List.all_cons]
            cases hd:d x.kids[i] with
            | true=>simpa using ih
            | false=>simp
        simpa using key 0 (by omega)
      · simp only [if_true,aCe,hall,Option.bind_eq_bind,Option.bind_some]
        exact t1 _
theorem aKx (p:List aA) (d:aA→Int) (hz:p.length+(p.map aX).sum≤1048576) (H:∀ y ∈ p,oQ y=some (d y)∧0≤d y∧d y≤1+aX y):aHe p=some (p.map d).sum:=by
  have hs:=yG (z:=aX) (d:=d) (p:=p) fun y hy=>(H y hy).2
  rw [aHe]
  rw [folded (p:=p) (g:=fun y b=>(oQ y)>>=fun r=>some (IntKind.wrap .i64 (b+r))) (h:=fun y b=>IntKind.wrap .i64 (b+d y)) (L:=fun b i=>aGz p b i) (K:=fun b=>some b) (by omega) ?_ ?_ 0]
  · rw [xK (by omega) (fun y hy=>(H y hy).2.1) (by omega)]; simp
  · intro y hy b; simp only [(H y hy).1,Option.bind_eq_bind,Option.bind_some]
  · intro i b; rw [aGz]; simp only [Option.bind_eq_bind,Option.bind_assoc,Option.bind_some]
theorem aUs (q:aQ) (d:aA→Int) (hz:eD q≤1048576) (H:∀ y ∈ bV q,oQ y=some (d y)∧0≤d y∧d y≤1+aX y):I6 q=some ((bV q).map d).sum:=by
  have hl:=aB4 q
  rw [I6,aCq q hz]
  simp only [Option.bind_eq_bind,Option.bind_some]
  rw [aKx _ d (by omega) H]; rfl
def qF (left S r:Int):Prop:=(S≤left∧r=left - S)∨(left<S∧r<0)
theorem aO1 (x:aA) (l:Int) (h:l<0) (i:Int):uY x l i=some l:=by
  rw [uY]
  have:¬ 0≤l:=by omega
  simp [this]
theorem aFm {α:Type} {d:α→Int}:∀ {l:List α},(∀ y ∈ l,0≤d y)→0≤(l.map d).sum
  | [],_=>by simp
  | a::l,h=>by
    have:=h a (by simp)
    have:=aFm (l:=l) fun y hy=>h y (by simp [hy])
    simp only [List.map_cons,List.sum_cons]; omega
theorem left_eq:∀ n:Nat,∀ x:aA,aX x<n→aX x≤1048576→∃ d:Int,oQ x=some d∧0≤d∧d≤1+aX x∧∀ left:Int,0≤left→left≤1048576→∃ r,wU x left=some r∧qF left d r:=by
  intro n
  induction n with
  | zero=>intro x h _; omega
  | succ n ih =>
    intro x hx hz
    have hE:=zE x
    let d:aA→Int:=fun y=>(oQ y).getD 0
    have H:∀ y,aX y<aX x→oQ y=some (d y)∧(0≤d y∧d y≤1+aX y)∧∀ left:Int,0≤left→left≤1048576→∃ r,wU y left=some r∧qF left (d y) r:=by
      intro y hy
      obtain ⟨r,h1,h2,h3,h4⟩:=ih y (by omega) (by omega)
      simp only [d,h1,Option.getD_some,true_and]
      exact ⟨⟨h2,h3⟩,h4⟩
    let e:aQ→Int:=fun q=>((bV q).map d).sum
    have HQ:∀ q ∈ x.sub,I6 q=some (e q)∧(0≤e q∧e q≤eD q)∧eD q≤1048576∧∀ y ∈ bV q,aX y<aX x:=by
      intro q hq
      have h1:=qL hq
      have h2:∀ y ∈ bV q,aX y<aX x:=fun y hy=>by have:=oL hy; omega
      have h3:=yG (z:=aX) (d:=d) (p:=bV q) fun y hy=>(H y (h2 y hy)).2.1
      have h4:=aB4 q
      exact ⟨aUs q d (by omega) fun y hy=>⟨(H y (h2 y hy)).1,(H y (h2 y hy)).2.1⟩,⟨h3.1,by show ((bV q).map d).sum≤_; omega⟩,by omega,h2⟩
    have HK:∀ y ∈ x.kids,aX y<aX x:=fun y hy=>by have:=mV hy; omega
    have hk:=yG (z:=aX) (d:=d) (p:=x.kids) fun y hy=>(H y (HK y hy)).2.1
    have hq:=aNt (z:=eD) (d:=e) (p:=x.sub) fun y hy=>(HQ y hy).2.1
    have hk':=mG x.kids
    have hq':=O9 x.sub
    have enn:∀ l:List aQ,(∀ q ∈ l,q ∈ x.sub)→0≤(l.map e).sum:=fun l hl=>aFm fun q hq=>(HQ q (hl q hq)).2.1.1
    have L1:∀ i,i≤x.sub.length→∀ left:Int,left≤1048576→∃ r,uY x left (i:Nat)=some r∧qF left ((x.sub.drop i).map e).sum r:=by
      refine iG ?_ ?_
      · intro left hl
        rw [uY]
        refine ⟨left,by simp,?_⟩
        simp only [List.drop_length,List.map_nil,List.sum_nil,qF]
        omega
      · intro i hi ihi left hl
        have hmem:=List.getElem_mem hi
        obtain ⟨_,q2,q3,q4⟩:=HQ _ hmem
        have hrest:=enn (x.sub.drop (i+1)) fun q hq=>List.mem_of_mem_drop hq
        rw [List.drop_eq_getElem_cons hi,List.map_cons,List.sum_cons]
        by_cases h0:0≤left
        · have hle:=R4 x.sub[i]
          have L2:∀ j,j≤(bV x.sub[i]).length→∀ left:Int,left≤1048576→∃ r,wS (i:Int) (bV x.sub[i]) x left (j:Nat)=some r∧qF left ((((bV x.sub[i]).drop j).map d).sum+((x.sub.drop (i+1)).map e).sum) r:=by
            refine iG ?_ ?_
            · intro left hl
              rw [wS]
              obtain ⟨r,h1,h2⟩:=ihi left hl
              have w:=fT hi (by omega)
              refine ⟨r,by simp [w]; simpa using h1,?_⟩
              simpa using h2
            · intro j hj ihj left hl
              have hy:=List.getElem_mem hj
              obtain ⟨_,y2,y3⟩:=H _ (q4 _ hy)
              have hnn:0≤(((bV x.sub[i]).drop (j+1)).map d).sum:=aFm fun y hy=>(H y (q4 y (List.mem_of_mem_drop hy))).2.1.1
              rw [List.drop_eq_getElem_cons hj,List.map_cons,List.sum_cons]
              rw [wS]
              by_cases h0:0≤left
              · obtain ⟨r',r1,r2⟩:=y3 left h0 hl
                have hr':r'≤1048576:=by rcases r2 with r2 | r2 <;> omega
                obtain ⟨r,s1,s2⟩:=ihj r' hr'
                refine ⟨r,?_,?_⟩
                · simp only [eF,eZ hj,fT hj (by omega),hj,h0,decide_true,if_true,r1,Option.bind_eq_bind,Option.bind_some]
                  exact s1
                · unfold qF at *
                  omega
              · refine ⟨left,?_,?_⟩
                · simp only [h0,decide_false,Option.bind_eq_bind,Option.bind_some]
                  rw [aO1 x left (by omega)]
                  simp
                · unfold qF; omega
          obtain ⟨r,s1,s2⟩:=L2 0 (by omega) left hl
          rw [uY]
          refine ⟨r,?_,?_⟩
          · simp only [eF,eZ hi,hi,h0,decide_true,if_true,I7 _ q3,Option.bind_eq_bind,Option.bind_some]
            exact s1
          · simpa using s2
        · refine ⟨left,aO1 x left (by omega) _,?_⟩
          unfold qF
          have:=q2.1
          omega
    have L0:∀ i,i≤x.kids.length→∀ left:Int,left≤1048576→∃ r,G8 x left (i:Nat)=some r∧qF left (((x.kids.drop i).map d).sum+(x.sub.map e).sum) r:=by
      have hsub:=enn x.sub fun _ h=>h
      refine iG ?_ ?_
      · intro left hl
        rw [G8]
        obtain ⟨r,h1,h2⟩:=L1 0 (by omega) left hl
        refine ⟨r,by simpa using h1,by simpa using h2⟩
      · intro i hi ihi left hl
        have hy:=List.getElem_mem hi
        obtain ⟨_,y2,y3⟩:=H _ (HK _ hy)
        have hnn:0≤((x.kids.drop (i+1)).map d).sum:=aFm fun y hy=>(H y (HK y (List.mem_of_mem_drop hy))).2.1.1
        rw [List.drop_eq_getElem_cons hi,List.map_cons,List.sum_cons]
        rw [G8]
        by_cases h0:0≤left
        · obtain ⟨r',r1,r2⟩:=y3 left h0 hl
          have hr':r'≤1048576:=by rcases r2 with r2 | r2 <;> omega
          obtain ⟨r,s1,s2⟩:=ihi r' hr'
          refine ⟨r,?_,?_⟩
          · simp only [eF,eZ hi,fT hi (by omega),hi,h0,decide_true,if_true,r1,Option.bind_eq_bind,Option.bind_some]
            exact s1
          · unfold qF at *
            omega
        · refine ⟨left,?_,?_⟩
          · simp only [h0,decide_false,Option.bind_eq_bind,Option.bind_some]
            rw [aO1 x left (by omega)]
            simp
          · unfold qF; omega
    refine ⟨1+(x.kids.map d).sum+(x.sub.map e).sum,?_,by omega,by omega,?_⟩
    · rw [oQ,aKx x.kids d (by omega) fun y hy=>⟨(H y (HK y hy)).1,(H y (HK y hy)).2.1⟩]
      simp only [Option.bind_eq_bind,Option.bind_some]
      rw [eH (by omega) (by omega)]
      rw [folded (p:=x.sub) (g:=fun y b=>(I6 y)>>=fun r=>some (IntKind.wrap .i64 (b+r))) (h:=fun y b=>IntKind.wrap .i64 (b+e y)) (L:=fun b i=>aA6 x b i) (K:=fun b=>some b) (by omega) ?_ ?_ _]
      · rw [xK (by omega) (fun y hy=>(HQ y hy).2.1.1) (by omega)]
      · intro y hy b; simp only [(HQ y hy).1,Option.bind_eq_bind,Option.bind_some]
      · intro i b; rw [aA6]; simp only [Option.bind_eq_bind,Option.bind_assoc,Option.bind_some]
    · intro left h0 h1
      rw [wU,eH (by omega) (by omega)]
      obtain ⟨r,s1,s2⟩:=L0 0 (by omega) (left - 1) (by omega)
      refine ⟨r,s1,?_⟩
      simp only [List.drop_zero] at s2
      unfold qF at *
      omega
theorem aYx (q:aQ) (d:aA→Int) (hz:eD q≤1048576) (H:∀ y ∈ bV q,lU y=some (d y)∧0≤d y∧d y≤1+aX y):xJ q=some ((bV q).map d).sum:=by
  have hl:=aB4 q
  have hs:=yG (z:=aX) (d:=d) (p:=bV q) fun y hy=>(H y hy).2
  rw [xJ,I7 q hz]
  simp only [Option.bind_eq_bind,Option.bind_some]
  rw [folded (p:=bV q) (g:=fun y b=>(lU y)>>=fun r=>some (IntKind.wrap .i64 (b+r))) (h:=fun y b=>IntKind.wrap .i64 (b+d y)) (L:=fun b i=>N9 (bV q) b i) (K:=fun b=>some b) (by omega) ?_ ?_ 0]
  · rw [xK (by omega) (fun y hy=>(H y hy).2.1) (by omega)]; simp
  · intro y hy b; simp only [(H y hy).1,Option.bind_eq_bind,Option.bind_some]
  · intro i b; rw [N9]; simp only [Option.bind_eq_bind,Option.bind_assoc,Option.bind_some]
theorem size_eq:∀ n:Nat,∀ x:aA,aX x<n→aX x≤1048576→∃ d,lU x=some d∧oQ x=some d∧0≤d∧d≤1+aX x:=by
  intro n
  induction n with
  | zero=>intro x h _; omega
  | succ n ih =>
    intro x hx hz
    have hE:=zE x
    let d:aA→Int:=fun y=>(lU y).getD 0
    have H:∀ y,aX y<aX x→lU y=some (d y)∧oQ y=some (d y)∧0≤d y∧d y≤1+aX y:=by
      intro y hy
      obtain ⟨r,h1,h2,h3,h4⟩:=ih y (by omega) (by omega)
      simp only [d,h1,h2,Option.getD_some,true_and]
      exact ⟨h3,h4⟩
    let e:aQ→Int:=fun q=>((bV q).map d).sum
    have HQ:∀ q ∈ x.sub,xJ q=some (e q)∧I6 q=some (e q)∧0≤e q∧e q≤eD q:=by
      intro q hq
      have h1:=qL hq
      have h2:∀ y ∈ bV q,aX y<aX x:=fun y hy=>by have:=oL hy; omega
      have h3:=yG (z:=aX) (d:=d) (p:=bV q) fun y hy=>(H y (h2 y hy)).2.2
      have h4:=aB4 q
      exact ⟨aYx q d (by omega) fun y hy=>⟨(H y (h2 y hy)).1,(H y (h2 y hy)).2.2⟩,aUs q d (by omega) fun y hy=>(H y (h2 y hy)).2,h3.1,by show ((bV q).map d).sum≤_; omega⟩
    have HK:∀ y ∈ x.kids,lU y=some (d y)∧oQ y=some (d y)∧0≤d y∧d y≤1+aX y:=fun y hy=>H y (by have:=mV hy; omega)
    have hk:=yG (z:=aX) (d:=d) (p:=x.kids) fun y hy=>(HK y hy).2.2
    have hq:=aNt (z:=eD) (d:=e) (p:=x.sub) fun y hy=>(HQ y hy).2.2
    have hk':=mG x.kids
    have hq':=O9 x.sub
    refine ⟨1+(x.kids.map d).sum+(x.sub.map e).sum,?_,?_,by omega,by omega⟩
    · rw [lU]
      rw [folded (p:=x.kids) (g:=fun y b=>(lU y)>>=fun r=>some (IntKind.wrap .i64 (b+r))) (h:=fun y b=>IntKind.wrap .i64 (b+d y)) (L:=fun b i=>Z8 x b i) (K:=fun b=>yQ x b 0) (by omega) ?_ ?_ 1]
      · rw [xK (by omega) (fun y hy=>(HK y hy).2.2.1) (by omega)]
        rw [folded (p:=x.sub) (g:=fun y b=>(xJ y)>>=fun r=>some (IntKind.wrap .i64 (b+r))) (h:=fun y b=>IntKind.wrap .i64 (b+e y)) (L:=fun b i=>yQ x b i) (K:=fun b=>some b) (by omega) ?_ ?_ _]
        · rw [xK (by omega) (fun y hy=>(HQ y hy).2.2.1) (by omega)]
        · intro y hy b; simp only [(HQ y hy).1,Option.bind_eq_bind,Option.bind_some]
        · intro i b; rw [yQ]; simp only [Option.bind_eq_bind,Option.bind_assoc,Option.bind_some]
      · intro y hy b; simp only [(HK y hy).1,Option.bind_eq_bind,Option.bind_some]
      · intro i b; rw [Z8]; simp only [Option.bind_eq_bind,Option.bind_assoc,Option.bind_some]
    · rw [oQ,aKx x.kids d (by omega) fun y hy=>(HK y hy).2]
      simp only [Option.bind_eq_bind,Option.bind_some]
      rw [eH (by omega) (by omega)]
      rw [folded (p:=x.sub) (g:=fun y b=>(I6 y)>>=fun r=>some (IntKind.wrap .i64 (b+r))) (h:=fun y b=>IntKind.wrap .i64 (b+e y)) (L:=fun b i=>aA6 x b i) (K:=fun b=>some b) (by omega) ?_ ?_ _]
      · rw [xK (by omega) (fun y hy=>(HQ y hy).2.2.1) (by omega)]
      · intro y hy b; simp only [(HQ y hy).2.1,Option.bind_eq_bind,Option.bind_some]
      · intro i b; rw [aA6]; simp only [Option.bind_eq_bind,Option.bind_assoc,Option.bind_some]
theorem aEv (a b:Int):qD a b=some (if b > a then b else a):=by
  unfold qD
  by_cases h:b<a
  · simp [h]; omega
  · by_cases h2:b > a
    · simp [h,h2]
    · simp [h,h2]; omega
def mx (b r:Int):Int:=if r > b then r else b
theorem aRu (q:aQ) (d:aA→Int) (hz:eD q≤1048576) (H:∀ y ∈ bV q,kG y=some (d y)):yX q=some ((bV q).foldl (fun b y=>mx b (d y)) 0):=by
  have hl:=R4 q
  rw [yX,I7 q hz]
  simp only [Option.bind_eq_bind,Option.bind_some]
  refine folded (p:=bV q) (g:=fun y b=>(kG y)>>=fun r=>qD b r) (h:=fun y b=>mx b (d y)) (L:=fun b i=>J5 (bV q) b i) (K:=fun b=>some b) (by omega) ?_ ?_ 0
  · intro y hy b; simp only [H y hy,Option.bind_eq_bind,Option.bind_some,aEv,mx]
  · intro i b; rw [J5]; simp only [Option.bind_eq_bind,Option.bind_assoc]
theorem bW1 (q:aQ) (d:aA→Int) (hz:eD q≤1048576) (H:∀ y ∈ bV q,rQ y=some (d y)):aCj q=some ((bV q).foldl (fun b y=>mx b (d y)) 0):=by
  have hl:=R4 q
  rw [aCj,aCq q hz]
  simp only [Option.bind_eq_bind,Option.bind_some]
  rw [aZ1]
  rw [folded (p:=bV q) (g:=fun y b=>(rQ y)>>=fun r=>some (mx b r)) (h:=fun y b=>mx b (d y)) (L:=fun b i=>aGh (bV q) b i) (K:=fun b=>some b) (by omega) ?_ ?_ 0]
  · rfl
  · intro y hy b; simp only [H y hy,Option.bind_eq_bind,Option.bind_some]
  · intro i b; rw [aGh]; simp only [Option.bind_eq_bind,Option.bind_assoc,Option.bind_some,mx]
theorem bTm:∀ n:Nat,∀ x:aA,aX x<n→aX x≤1048576→∃ d,kG x=some d∧rQ x=some d:=by
  intro n
  induction n with
  | zero=>intro x h _; omega
  | succ n ih =>
    intro x hx hz
    have hE:=zE x
    let d:aA→Int:=fun y=>(kG y).getD 0
    have H:∀ y,aX y<aX x→kG y=some (d y)∧rQ y=some (d y):=by
      intro y hy
      obtain ⟨r,h1,h2⟩:=ih y (by omega) (by omega)
      simp only [d,h1,h2,Option.getD_some,and_self]
    let e:aQ→Int:=fun q=>(bV q).foldl (fun b y=>mx b (d y)) 0
    have HQ:∀ q ∈ x.sub,yX q=some (e q)∧aCj q=some (e q):=by
      intro q hq
      have h1:=qL hq
      exact ⟨aRu q d (by omega) fun y hy=>(H y (by have:=oL hy; omega)).1,bW1 q d (by omega) fun y hy=>(H y (by have:=oL hy; omega)).2⟩
    have HK:∀ y ∈ x.kids,kG y=some (d y)∧rQ y=some (d y):=fun y hy=>H y (by have:=mV hy; omega)
    refine ⟨IntKind.wrap .i64 (x.sub.foldl (fun b y=>mx b (e y)) (x.kids.foldl (fun b y=>mx b (d y)) 0)+1),?_,?_⟩
    · rw [kG]
      rw [folded (p:=x.kids) (g:=fun y b=>(kG y)>>=fun r=>qD b r) (h:=fun y b=>mx b (d y)) (L:=fun b i=>O7 x b i) (K:=fun b=>zZ x b 0) (by omega) ?_ ?_ 0]
      · rw [folded (p:=x.sub) (g:=fun y b=>(yX y)>>=fun r=>qD b r) (h:=fun y b=>mx b (e y)) (L:=fun b i=>zZ x b i) (K:=fun b=>some (IntKind.wrap .i64 (b+1))) (by omega) ?_ ?_ _]
        · intro y hy b; simp only [(HQ y hy).1,Option.bind_eq_bind,Option.bind_some,aEv,mx]
        · intro i b; rw [zZ]; simp only [Option.bind_eq_bind,Option.bind_assoc]
      · intro y hy b; simp only [(HK y hy).1,Option.bind_eq_bind,Option.bind_some,aEv,mx]
      · intro i b; rw [O7]; simp only [Option.bind_eq_bind,Option.bind_assoc]
    · rw [rQ]
      rw [folded (p:=x.kids) (g:=fun y b=>(rQ y)>>=fun r=>some (mx b r)) (h:=fun y b=>mx b (d y)) (L:=fun b i=>aH5 x b i) (K:=fun b=>aCx x b 0) (by omega) ?_ ?_ 0]
      · rw [folded (p:=x.sub) (g:=fun y b=>(aCj y)>>=fun r=>some (mx b r)) (h:=fun y b=>mx b (e y)) (L:=fun b i=>aCx x b i) (K:=fun b=>some (IntKind.wrap .i64 (1+b))) (by omega) ?_ ?_ _]
        · rw [Int.add_comm]
        · intro y hy b; simp only [(HQ y hy).2,Option.bind_eq_bind,Option.bind_some]
        · intro i b; rw [aCx]; simp only [Option.bind_eq_bind,Option.bind_assoc,Option.bind_some,mx]
      · intro y hy b; simp only [(HK y hy).2,Option.bind_eq_bind,Option.bind_some]
      · intro i b; rw [aH5]; simp only [Option.bind_eq_bind,Option.bind_assoc,Option.bind_some,mx]
theorem bUw (l:List aA) (f:aA→Bool) (hl:l.length≤1048576) (H:∀ y ∈ l,D8 y=some (f y)):qB l=some (l.all f):=by
  have key:∀ i,i≤l.length→zG l (i:Nat)=some ((l.drop i).all f):=by
    refine iG ?_ ?_
    · rw [zG]; simp
    · intro i hi ih
      rw [zG,List.drop_eq_getElem_cons hi]
      simp only [eF,eZ hi,fT hi (by omega),hi,decide_true,if_true,H _ (List.getElem_mem hi),Option.bind_eq_bind,Option.bind_some,List.all_cons]
      cases f l[i] with
      | true=>simpa using ih
      | false=>simp
  simpa [qB] using key 0 (by omega)
def rowP (r:List aA):Bool:=decide (1≤(r.length:Int))&&decide ((r.length:Int)≤12)
def zI (s:List UInt8):Bool:=(mQ s).getD false
theorem aWu (s:List UInt8):mQ s=some (zI s):=by
  obtain ⟨b,h,_⟩:=rY s
  simp [zI,h]
theorem bDg (q:aQ):∃ b,Z5 q (aQ.mk false [] [] [] [] 0)=some b∧aN0 q (aQ.mk false [] [] [] [] 0)=some b∧(b=true→bV q=[]∧q.from_=[]):=by
  have len0:∀ {α:Type} (l:List α),decide ((l.length:Int)=(([]:List α).length:Int))=decide (l=[]):=by
    intro α l
    by_cases h:l=[]
    · simp [h]
    · simp [h]
  have fk:wB q.where_ []=some (decide (q.where_=[])):=by
    rw [wB]
    by_cases h:q.where_=[]
    · rw [h,V3]; simp
    · simp [h]
  have ek:G7 q.where_ []=some (decide (q.where_=[])):=by
    rw [G7,aJj]
    by_cases h:q.where_=[]
    · rw [h,aIo]; simp
    · simp [h]
  have e1:aOo q.items []=some (decide (q.items=[])):=by
    rw [aOo]
    by_cases h:q.items=[]
    · rw [h,aLt]; simp
    · simp [h]
  have e2:aQ3 q.from_ []=some (decide (q.from_=[])):=by
    rw [aQ3]
    by_cases h:q.from_=[]
    · rw [h,aP0]; simp
    · simp [h]
  have e3:aQ8 q.order []=some (decide (q.order=[])):=by
    rw [aQ8]
    by_cases h:q.order=[]
    · rw [h,aQ4]; simp
    · simp [h]
  refine ⟨(q.distinct==false)&&decide (q.limit=0)&&decide (q.items=[])&&decide (q.from_=[])&&decide (q.order=[])&&decide (q.where_=[]),?_,?_,?_⟩
  · rw [Z5]
    simp only [len0,fk,Option.bind_eq_bind,Option.bind_some]
    by_cases i0:q.items=[]
    case neg=>simp [i0]
    by_cases f0:q.from_=[]
    case neg=>simp [i0,f0]
    by_cases o0:q.order=[]
    case neg=>simp [i0,f0,o0]
    have hL:M5 q (aQ.mk false [] [] [] [] 0) 0=some true:=by
      rw [M5,aCa,aA5]; simp [i0,f0,o0]
    rw [hL]
    cases q.distinct <;> by_cases l0:q.limit=0 <;> by_cases w0:q.where_=[] <;> simp [i0,f0,o0,l0,w0]
  · rw [aN0]
    simp only [e1,e2,e3,ek,Option.bind_eq_bind,Option.bind_some]
    cases q.distinct <;> by_cases l0:q.limit=0 <;> by_cases i0:q.items=[] <;> by_cases f0:q.from_=[] <;> by_cases o0:q.order=[] <;> by_cases w0:q.where_=[] <;> simp [i0,f0,o0,l0,w0]
  · intro h
    simp only [Bool.and_eq_true,decide_eq_true_eq] at h
    obtain ⟨⟨⟨⟨_,h1⟩,h2⟩,h3⟩,h4⟩:=h
    exact ⟨by simp [bV,h1,h2,h3,h4],h2⟩
theorem bVh (y:aA) (hz:aX y≤1048576):∃ b t s:_,gN y=some b∧rP y=some b∧kG y=some t∧rQ y=some t∧lU y=some s∧oQ y=some s∧0≤s∧s≤1+aX y∧D8 y=some (b&&(decide (t≤24)&&decide (s≤200))):=by
  obtain ⟨b,h1,h2⟩:=right_eq _ y (Nat.lt_succ_self _) hz
  obtain ⟨s,s1,s2,s3,s4⟩:=left_eq _ y (Nat.lt_succ_self _) hz
  obtain ⟨r,r1,r2⟩:=s4 200 (by omega) (by omega)
  obtain ⟨t,t1,t2⟩:=bTm _ y (Nat.lt_succ_self _) hz
  obtain ⟨s',q1,q2,q3,q4⟩:=size_eq _ y (Nat.lt_succ_self _) hz
  have es:s'=s:=by rw [s1] at q2; simpa using q2.symm
  subst es
  refine ⟨b,t,s',h1,h2,t1,t2,q1,q2,q3,q4,?_⟩
  rw [D8]
  simp only [h1,r1,t1,Option.bind_eq_bind,Option.bind_some]
  have hr:decide (0≤r)=decide (s'≤200):=by
    rcases r2 with ⟨a1,a2⟩ | ⟨a1,a2⟩
    · have p1:0≤r:=by omega
      simp [p1,a1]
    · have p1:¬ 0≤r:=by omega
      have p2:¬ s'≤200:=by omega
      simp [p1,p2]
  rw [hr]
  by_cases p:s'≤200 <;> by_cases q:t≤24 <;> cases b <;> simp [p,q]
theorem bFy (s : bD) (f : aA → Bool) (y1 y2 : Bool) (hr : s.rows.length ≤ 1048576) (hc : s.cols.length ≤ 1048576) (hse : s.sets.length ≤ 1048576) (hw : s.where_.length ≤ 1048576) (H : ∀ r ∈ s.rows, qB r = some (r.all f)) :
    uZ y1 y2 s 0=some (s.rows.all (fun r=>rowP r&&r.all f)&&(y1&&y2&&(decide (1≤(s.rows.length:Int))&&decide ((s.rows.length:Int)≤5))&&(decide (s.cols=[])&&decide (s.sets=[])&&decide (s.where_=[])))):=by
  have hsum:IntKind.wrap .i64 ((IntKind.wrap .i64 ((s.cols.length:Int)+(s.sets.length:Int)))+(s.where_.length:Int))=(s.cols.length:Int)+(s.sets.length:Int)+(s.where_.length:Int):=by
    rw [eH (n:=(s.cols.length:Int)+(s.sets.length:Int)) (by omega) (by omega),eH (by omega) (by omega)]
  have hs0:decide ((s.cols.length:Int)+(s.sets.length:Int)+(s.where_.length:Int)=0)=(decide (s.cols=[])&&decide (s.sets=[])&&decide (s.where_=[])):=by
    have l0:∀ {α:Type} (l:List α),(l=[])↔l.length=0:=fun l=>List.length_eq_zero_iff.symm
    rw [Bool.eq_iff_iff]
    simp only [Bool.and_eq_true,decide_eq_true_eq,l0]
    omega
  have key:∀ i,i≤s.rows.length→uZ y1 y2 s (i:Nat)=some ((s.rows.drop i).all (fun r=>rowP r&&r.all f)&&(y1&&y2&&(decide (1≤(s.rows.length:Int))&&decide ((s.rows.length:Int)≤5))&&(decide (s.cols=[])&&decide (s.sets=[])&&decide (s.where_=[])))):=by
    refine iG ?_ ?_
    · rw [uZ]
      simp only [eF,Nat.lt_irrefl,decide_false,Bool.false_eq_true,if_false,hsum,hs0,gM,Option.bind_eq_bind,Option.bind_some,List.drop_length,List.all_nil,Bool.true_and,L6]
      cases y1 <;> cases y2 <;> simp
    · intro i hi ih
      rw [uZ,List.drop_eq_getElem_cons hi,List.all_cons]
      simp only [eF,eZ hi,fT hi (by omega),hi,decide_true,if_true,gM,H _ (List.getElem_mem hi),ih,Option.bind_eq_bind,Option.bind_some,L6]
      have:(decide (1≤(s.rows[i].length:Int))&&decide ((s.rows[i].length:Int)≤12))=rowP s.rows[i]:=rfl
      rw [this]
      have hH:=H _ (List.getElem_mem hi)
      generalize s.rows[i].all f=af at hH ⊢
      cases rowP s.rows[i] <;> cases af <;> simp [hH]
  simpa using key 0 (by omega)
theorem bL8 (s : bD) (f : aA → Bool) (y1 y2 : Bool) (hc : s.cols.length ≤ 1048576) (H1 : qB s.sets = some (s.sets.all f)) (H2 : qB s.where_ = some (s.where_.all f)) :
    vG y1 y2 s 0=some (s.cols.all zI&&(y1&&y2&&decide ((s.rows.length:Int)=0)&&(decide (1≤(s.cols.length:Int))&&decide ((s.cols.length:Int)≤12))&&decide ((s.sets.length:Int)=(s.cols.length:Int))&&decide ((s.where_.length:Int)≤1)&&s.sets.all f&&s.where_.all f)):=by
  have key:∀ i,i≤s.cols.length→vG y1 y2 s (i:Nat)=some ((s.cols.drop i).all zI&&(y1&&y2&&decide ((s.rows.length:Int)=0)&&(decide (1≤(s.cols.length:Int))&&decide ((s.cols.length:Int)≤12))&&decide ((s.sets.length:Int)=(s.cols.length:Int))&&decide ((s.where_.length:Int)≤1)&&s.sets.all f&&s.where_.all f)):=by
    refine iG ?_ ?_
    · rw [vG]
      simp only [eF,Nat.lt_irrefl,decide_false,Bool.false_eq_true,if_false,H1,H2,gM,Option.bind_eq_bind,Option.bind_some,List.drop_length,List.all_nil,Bool.true_and,L6]
      generalize decide ((s.rows.length:Int)=0)=a
      generalize (decide (1≤(s.cols.length:Int))&&decide ((s.cols.length:Int)≤12))=b
      generalize decide ((s.sets.length:Int)=(s.cols.length:Int))=c
      generalize decide ((s.where_.length:Int)≤1)=e
      generalize s.sets.all f=g
      generalize s.where_.all f=k
      cases y1 <;> cases y2 <;> cases a <;> cases b <;> cases c <;> cases e <;> cases g <;> cases k <;> rfl
    · intro i hi ih
      rw [vG,List.drop_eq_getElem_cons hi,List.all_cons]
      simp only [eF,eZ hi,fT hi (by omega),hi,decide_true,if_true,aWu,ih,Option.bind_eq_bind,Option.bind_some]
      cases zI s.cols[i] <;> simp
  simpa using key 0 (by omega)
def StP (s:bD):Prop:=(s.kind=1∧nP s.query=some true∧s.table=[]∧s.rows=[]∧s.sets=[]∧s.where_=[]) ∨
  (s.kind=2∧(bV s.query=[]∧s.query.from_=[])∧(∀ r ∈ s.rows,∀ y ∈ r,gN y=some true)∧s.sets=[]∧s.where_=[]) ∨
  (s.kind=3∧(bV s.query=[]∧s.query.from_=[])∧s.rows=[]∧s.sets.length=s.cols.length∧(∀ y ∈ s.sets,gN y=some true)∧∀ y ∈ s.where_,gN y=some true) ∨
  (s.kind=4∧(bV s.query=[]∧s.query.from_=[])∧s.rows=[]∧s.sets=[]∧∀ y ∈ s.where_,gN y=some true)
theorem bX6 (s:bD) (hz':kM s≤1048576) (hcols:s.cols.length≤1000):∃ c,aBz s=some c∧(c=true→StP s∧s.where_.length≤1):=by
  have hsum:=aBc s
  obtain ⟨hrows,hq⟩:=aL0 s
  have hlens:s.cols.length≤1048576∧s.sets.length≤1048576∧s.where_.length≤1048576:=by
    obtain ⟨k,q,t,r,c,se,w⟩:=s
    have e2:∀ l:List aA,zL aX l=l.length+(l.map aX).sum:=fun _=>rfl
    have e3:=e2 se
    have e4:=e2 w
    simp only [kM] at hz'
    dsimp only at hcols ⊢
    omega
  let d:aA→Bool:=fun y=>(gN y).getD false
  let dd:aA→Int:=fun y=>(kG y).getD 0
  let ds:aA→Int:=fun y=>(lU y).getD 0
  have HV:∀ y,aX y≤1048576→gN y=some (d y)∧rP y=some (d y)∧kG y=some (dd y)∧rQ y=some (dd y)∧lU y=some (ds y)∧oQ y=some (ds y)∧0≤ds y∧ds y≤1+aX y∧D8 y=some (d y&&(decide (dd y≤24)&&decide (ds y≤200))):=by
    intro y hy
    obtain ⟨b,t,z,h1,h2,h3,h4,h5,h6,h7,h8,h9⟩:=bVh y hy
    simp only [d,dd,ds,h1,h2,h3,h4,h5,h6,h9,Option.getD_some,true_and,and_true]
    exact ⟨h7,h8⟩
  have HS:∀ y ∈ gL s,aX y≤1048576:=fun y hy=>by have:=aSf hy; omega
  let f:aA→Bool:=fun y=>d y&&(decide (dd y≤24)&&decide (ds y≤200))
  have hm:=yG (d:=ds) (z:=aX) (p:=gL s) fun y hy=>⟨(HV y (HS y hy)).2.2.2.2.2.2.1,(HV y (HS y hy)).2.2.2.2.2.2.2.1⟩
  have D1:aBb s=some ((gL s).foldl (fun b y=>mx b (dd y)) 0):=by
    unfold aBb
    rw [aUo s hz']
    simp only [Option.bind_eq_bind,Option.bind_some]
    rw [folded (p:=gL s) (g:=fun y b=>(kG y)>>=fun r=>qD b r) (h:=fun y b=>mx b (dd y)) (L:=fun b i=>A9 (gL s) b i) (K:=fun b=>some b) (by omega) ?_ ?_ 0]
    · intro y hy b; simp only [(HV y (HS y hy)).2.2.1,Option.bind_eq_bind,Option.bind_some,aEv,mx]
    · intro i b; rw [A9]; simp only [Option.bind_eq_bind,Option.bind_assoc]
  have S1:aCu s=some ((gL s).map ds).sum:=by
    unfold aCu
    rw [aUo s hz']
    simp only [Option.bind_eq_bind,Option.bind_some]
    rw [folded (p:=gL s) (g:=fun y b=>(lU y)>>=fun r=>some (IntKind.wrap .i64 (b+r))) (h:=fun y b=>IntKind.wrap .i64 (b+ds y)) (L:=fun b i=>F6 (gL s) b i) (K:=fun b=>some b) (by omega) ?_ ?_ 0]
    · rw [xK (by omega) (fun y hy=>(HV y (HS y hy)).2.2.2.2.2.2.1) (by omega)]; simp
    · intro y hy b; simp only [(HV y (HS y hy)).2.2.2.2.1,Option.bind_eq_bind,Option.bind_some]
    · intro i b; rw [F6]; simp only [Option.bind_eq_bind,Option.bind_assoc,Option.bind_some]
  have hE:gL s=bV s.query++s.rows.flatMap id++s.sets++s.where_:=rfl
  have A8:∀ l:List aA,(∀ y ∈ l,y ∈ gL s)→l.length≤1048576→qB l=some (l.all f):=fun l hl hn=>bUw l f hn fun y hy=>(HV y (HS y (hl y hy))).2.2.2.2.2.2.2.2
  have mR:∀ r ∈ s.rows,∀ y ∈ r,y ∈ gL s:=fun r hr y hy=>by
    rw [hE]; simp only [List.mem_append,List.mem_flatMap,id]; exact .inl (.inl (.inr ⟨r,hr,hy⟩))
  have mS:∀ y ∈ s.sets,y ∈ gL s:=fun y hy=>by rw [hE]; simp [hy]
  have mW:∀ y ∈ s.where_,y ∈ gL s:=fun y hy=>by rw [hE]; simp [hy]
  have lR:∀ r ∈ s.rows,r.length≤1048576:=fun r hr=>by
    have h1:=bAo s.rows
    have h2:r.length≤(s.rows.flatMap id).length:=by
      clear h1
      have:∀ l:List (List aA),r ∈ l→r.length≤(l.flatMap id).length:=by
        intro l
        induction l with
        | nil=>intro h; simp at h
        | cons x l ih =>
          intro h
          rw [List.flatMap_cons,List.length_append]
          rcases List.mem_cons.1 h with rfl | h
          · simp only [id]; omega
          · have:=ih h; omega
      exact this s.rows hr
    have h3:(s.rows.flatMap id).length≤(gL s).length:=by rw [hE]; simp only [List.length_append]; omega
    omega
  obtain ⟨b0,z1,z2,z3⟩:=bDg s.query
  have K0:=bFy s f b0 (zI s.table) (by omega) hlens.1 hlens.2.1 hlens.2.2 fun r hr=>A8 r (mR r hr) (lR r hr)
  have K1:=bL8 s f b0 (zI s.table) hlens.1 (A8 s.sets mS hlens.2.1) (A8 s.where_ mW hlens.2.2)
  have KW:=A8 s.where_ mW hlens.2.2
  -- the query's own check
  have HQ:∀ y ∈ bV s.query,y ∈ gL s:=fun y hy=>by rw [hE]; simp [hy]
  obtain ⟨g1,rb,g2⟩:=aWg s.query d (by omega) fun y hy=>⟨(HV y (HS y (HQ y hy))).1,(HV y (HS y (HQ y hy))).2.1⟩
  have qd:=aRu s.query dd (by omega) fun y hy=>(HV y (HS y (HQ y hy))).2.2.1
  have qs:=aYx s.query ds (by omega) fun y hy=>⟨(HV y (HS y (HQ y hy))).2.2.2.2.1,(HV y (HS y (HQ y hy))).2.2.2.2.2.2.1,(HV y (HS y (HQ y hy))).2.2.2.2.2.2.2.1⟩
  have qok:aBq s.query=some (rb&&decide ((bV s.query).foldl (fun b y=>mx b (dd y)) 0≤24)&&decide (((bV s.query).map ds).sum≤200)):=by
    rw [aBq]
    simp only [g2,Option.bind_eq_bind,Option.bind_some]
    cases rb
    · simp
    · by_cases u:(bV s.query).foldl (fun b y=>mx b (dd y)) 0≤24 <;> by_cases v:((bV s.query).map ds).sum≤200 <;> simp [qd,qs,u,v]
  have fR:∀ l:List aA,(∀ y ∈ l,y ∈ gL s)→l.all f=true→∀ y ∈ l,gN y=some true:=fun l hl h y hy=>by
    have h1:=List.all_eq_true.1 h y hy
    simp only [f,Bool.and_eq_true] at h1
    rw [(HV y (HS y (hl y hy))).1,h1.1]
  have sh:∃ b,aCf s=some b∧(b=true→StP s∧s.where_.length≤1):=by
    have l0:∀ {α:Type} (l:List α),l.length=0→l=[]:=fun l h=>List.eq_nil_of_length_eq_zero h
    rw [aCf]
    simp only [z1,aWu,Option.bind_eq_bind,Option.bind_some]
    unfold StP
    by_cases k1:s.kind=1
    · rw [if_pos (by simpa using k1),qok]
      have hw:IntKind.wrap .i64 ((IntKind.wrap .i64 ((IntKind.wrap .i64 ((s.rows.length:Int)+(s.cols.length:Int)))+(s.sets.length:Int)))+(s.where_.length:Int))=(s.rows.length:Int)+(s.cols.length:Int)+(s.sets.length:Int)+(s.where_.length:Int):=by
        rw [eH (n:=(s.rows.length:Int)+(s.cols.length:Int)) (by omega) (by omega),eH (n:=(s.rows.length:Int)+(s.cols.length:Int)+(s.sets.length:Int)) (by omega) (by omega),eH (by omega) (by omega)]
      rw [hw]
      simp only [Option.bind_some]
      refine ⟨_,rfl,fun h=>?_⟩
      simp only [L6] at h
      simp only [Bool.and_eq_true,decide_eq_true_eq] at h
      obtain ⟨⟨⟨⟨hrb,_⟩,_⟩,ht⟩,hs⟩:=h
      exact ⟨.inl ⟨k1,by rw [g2,hrb],ht,l0 _ (by omega),l0 _ (by omega),l0 _ (by omega)⟩,by omega⟩
    rw [if_neg (by simpa using k1)]
    by_cases k2:s.kind=2
    · rw [if_pos (by simpa using k2),K0]
      refine ⟨_,rfl,fun h=>?_⟩
      simp only [Bool.and_eq_true,decide_eq_true_eq] at h
      obtain ⟨hr,⟨⟨hb,_⟩,_⟩,⟨_,hs⟩,hw⟩:=h
      refine ⟨.inr (.inl ⟨k2,z3 hb,fun r hrm y hy=>?_,hs,hw⟩),by simp [hw]⟩
      have:=List.all_eq_true.1 hr r hrm
      simp only [Bool.and_eq_true] at this
      exact fR r (mR r hrm) this.2 y hy
    rw [if_neg (by simpa using k2)]
    by_cases k3:s.kind=3
    · rw [if_pos (by simpa using k3),K1]
      refine ⟨_,rfl,fun h=>?_⟩
      simp only [Bool.and_eq_true,decide_eq_true_eq] at h
      obtain ⟨_,⟨⟨⟨⟨⟨⟨hb,_⟩,h1⟩,_⟩,h3⟩,h4⟩,h5⟩,h6⟩:=h
      exact ⟨.inr (.inr (.inl ⟨k3,z3 hb,l0 _ (by omega),by omega,fR _ mS h5,fR _ mW h6⟩)),by omega⟩
    rw [if_neg (by simpa using k3)]
    by_cases k4:s.kind=4
    · rw [if_pos (by simpa using k4)]
      have hw:IntKind.wrap .i64 ((IntKind.wrap .i64 ((s.rows.length:Int)+(s.cols.length:Int)))+(s.sets.length:Int))=(s.rows.length:Int)+(s.cols.length:Int)+(s.sets.length:Int):=by
        rw [eH (n:=(s.rows.length:Int)+(s.cols.length:Int)) (by omega) (by omega),eH (by omega) (by omega)]
      rw [hw,KW]
      simp only [L6]
      by_cases hc:(b0&&zI s.table&&decide ((s.rows.length:Int)+(s.cols.length:Int)+(s.sets.length:Int)=0)&&decide ((s.where_.length:Int)≤1))=true
      · rw [hc]
        simp only [beq_self_eq_true,Bool.and_self,if_true,Option.bind_some,Bool.true_and]
        refine ⟨_,rfl,fun h=>?_⟩
        simp only [Bool.and_eq_true,decide_eq_true_eq] at hc
        obtain ⟨⟨⟨hb,_⟩,h1⟩,h2⟩:=hc
        exact ⟨.inr (.inr (.inr ⟨k4,z3 hb,l0 _ (by omega),l0 _ (by omega),fR _ mW h⟩)),by omega⟩
      · rw [Bool.not_eq_true] at hc
        rw [hc]
        exact ⟨false,by simp,by simp⟩
    rw [if_neg (by simpa using k4)]
    exact ⟨false,rfl,by simp⟩
  obtain ⟨b,h1,h2⟩:=sh
  rw [aBz,h1,D1,S1]
  simp only [Option.bind_eq_bind,Option.bind_some]
  generalize (gL s).foldl (fun b y=>mx b (dd y)) 0=t
  generalize ((gL s).map ds).sum=z
  cases b with
  | false=>exact ⟨false,by simp,by simp⟩
  | true =>
    refine ⟨decide (t≤24)&&decide (z≤200),?_,fun _=>h2 rfl⟩
    by_cases p:t≤24 <;> by_cases q:z≤200 <;> simp [p,q]
theorem aKn {α β:Type} (f:α→β) (c:Prop) [Decidable c] (x y:Option α):(if c then x else y).map f=if c then x.map f else y.map f:=by split <;> rfl
theorem aOk {α β γ:Type} (f:β→γ) (x:Option α) (g:α→Option β):(x>>=g).map f=(x>>=fun y=>(g y).map f):=by cases x <;> rfl
theorem aQ5 {α β:Type} (f:α→β) (x:α):(some x).map f=some (f x):=rfl
theorem aCz {α β γ:Type} (f:α→β) (x:Option α) (g:β→Option γ):(x.map f>>=g)=(x>>=fun y=>g (f y)):=by cases x <;> rfl
def zH (acc:List (List UInt8)) (n:List UInt8):Option (List (List UInt8)):=(P9 ⟨acc⟩ n).map dD.list
def Q9 (q:aQ) (i:Int) (acc:List (List UInt8)):Option (List (List UInt8)):=(F7 q i acc).map dD.list
def tV (acc:List (List UInt8)) (q:aQ):Option (List (List UInt8)):=(Y0 ⟨acc⟩ q).map dD.list
def C8 (p:List aA) (i:Int) (y:aA) (j:Int) (acc:List (List UInt8)):Option (List (List UInt8)):=(A7 p i y j acc).map dD.list
def xZ (p:List aA) (i:Int) (acc:List (List UInt8)):Option (List (List UInt8)):=(Q0 p i acc).map dD.list
def pM (acc:List (List UInt8)) (p:List aA):Option (List (List UInt8)):=(xV ⟨acc⟩ p).map dD.list
theorem aU5 (q:aQ) (i:Int) (acc:List (List UInt8)):Q9 q i acc=if (decide (i<(q.from_.length:Int)))=true then ((idx q.from_ i)>>=fun y1=>(zH acc y1.table)>>=fun y2=>Q9 q (IntKind.wrap .i64 (i+1)) y2) else some acc:=by
  unfold Q9
  rw [F7]
  simp only [zH,aKn,aOk,aQ5,aCz]
theorem aZi (acc:List (List UInt8)) (q:aQ):tV acc q=Q9 q 0 acc:=by
  unfold tV Y0; rfl
theorem bS5 (p:List aA) (i:Int) (y:aA) (j:Int) (acc:List (List UInt8)):C8 p i y j acc=if (decide (j<(y.sub.length:Int)))=true then ((idx y.sub j)>>=fun y4=>(tV acc y4)>>=fun y5=>(qY y4)>>=fun y6=>(pM y5 y6)>>=fun y7=>C8 p i y (IntKind.wrap .i64 (j+1)) y7) else xZ p (IntKind.wrap .i64 (i+1)) acc:=by
  unfold C8
  rw [A7]
  simp only [tV,pM,xZ,aKn,aOk,aQ5,aCz]
theorem aX0 (p:List aA) (i:Int) (acc:List (List UInt8)):xZ p i acc=if (decide (i<(p.length:Int)))=true then ((idx p i)>>=fun y1=>(pM acc y1.kids)>>=fun y2=>C8 p i y1 0 y2) else some acc:=by
  unfold xZ
  rw [Q0]
  simp only [pM,C8,aKn,aOk,aQ5,aCz]
theorem bPt (acc:List (List UInt8)) (p:List aA):pM acc p=xZ p 0 acc:=by
  unfold pM
  rw [xV]; rfl
theorem bEl (s:bD):X3 s=(zH [] s.table)>>=fun y1=>(tV y1 s.query)>>=fun y2=>(O8 s)>>=fun y3=>pM y2 y3:=by
  unfold X3
  simp only [zH,tV,pM,aCz]
  congr 1; funext a; congr 1; funext b; congr 1; funext c
  cases xV b c <;> rfl
def eO (acc:List (List UInt8)) (n:List UInt8):List (List UInt8):=if n=[]∨n ∈ acc then acc else acc++[n]
theorem aA3 (acc:List (List UInt8)) (n:List UInt8):(eO acc n).length≤acc.length+1:=by unfold eO; split <;> simp
theorem bVm (acc:List (List UInt8)) (n:List UInt8) (hl:acc.length≤1000000000):aAl acc n=some (decide (n ∈ acc)):=by
  have key:∀ i,i≤acc.length→∃ k:Int,yM acc n (i:Nat)=some k∧decide (0≤k)=decide (n ∈ acc.drop i):=by
    refine iG ?_ ?_
    · rw [yM]
      exact ⟨-1,by simp,by simp⟩
    · intro i hi ih
      rw [yM,List.drop_eq_getElem_cons hi]
      simp only [eF,eZ hi,fT hi (by omega),hi,decide_true,if_true,Option.bind_eq_bind,Option.bind_some]
      by_cases h:n=acc[i]
      · exact ⟨(i:Int),by simp [h],by rw [decide_eq_true (List.mem_cons.2 (.inl h))]; simp⟩
      · obtain ⟨k,k1,k2⟩:=ih
        refine ⟨k,by simp only [h,decide_false,Bool.false_eq_true,if_false]; exact k1,?_⟩
        rw [k2]; simp only [List.mem_cons,h,false_or]
  obtain ⟨k,h1,h2⟩:=key 0 (by omega)
  rw [show ((0:Nat):Int)=0 from rfl] at h1
  rw [aAl,aIs,h1]
  simpa using h2
theorem bFb (acc:List (List UInt8)) (n:List UInt8) (hl:acc.length≤1000000000):aBm acc n=some (decide (n ∈ acc)):=by
  have key:∀ i,i≤acc.length→xO acc n (i:Nat)=some (decide (n ∈ acc.drop i)):=by
    refine iG ?_ ?_
    · rw [xO]; simp
    · intro i hi ih
      rw [xO,List.drop_eq_getElem_cons hi]
      simp only [eF,eZ hi,fT hi (by omega),hi,decide_true,if_true,Option.bind_eq_bind,Option.bind_some]
      by_cases h:n=acc[i]
      · rw [decide_eq_true (p:=n ∈ acc[i]::_) (List.mem_cons.2 (.inl h))]; simp [h]
      · have h':¬ acc[i]=n:=fun e=>h e.symm
        simp only [h',decide_false,Bool.false_eq_true,if_false,ih,List.mem_cons,h,false_or]
  rw [aBm]
  simpa using key 0 (by omega)
theorem aY4 (acc:List (List UInt8)) (n:List UInt8) (hl:acc.length≤1000000000):F3 acc n=some (eO acc n):=by
  unfold F3
  rw [bFb acc n hl,vC (by simp; omega)]
  unfold eO
  by_cases h:n=[] <;> by_cases h2:n ∈ acc <;> simp [h,h2]
theorem aKg (acc:List (List UInt8)) (n:List UInt8) (hl:acc.length≤1000000000):zH acc n=some (eO acc n):=by
  unfold zH P9
  dsimp only
  rw [bVm acc n hl,vC (by simp; omega)]
  unfold eO
  by_cases h:n=[] <;> by_cases h2:n ∈ acc <;> simp [h,h2]
theorem pY {α γ : Type} {p : List α} {g : α → List (List UInt8) → Option (List (List UInt8))} {h : α → List (List UInt8) → List (List UInt8)} {w : α → Nat} {L : List (List UInt8) → Int → Option γ} {K : List (List UInt8) → Option γ} (hp : p.length ≤ 1048576)
    (hg:∀ y ∈ p,∀ b,b.length+w y≤1000000000→g y b=some (h y b)∧(h y b).length≤b.length+w y)
    (hL:∀ (i:Nat) b,L b (i:Int)=if (decide ((i:Int)<(p.length:Int)))=true then ((idx p (i:Int))>>=fun y=>(g y b)>>=fun z=>L z (IntKind.wrap .i64 ((i:Int)+1))) else K b) :
    ∀ b,b.length+(p.map w).sum≤1000000000→L b 0=K (p.foldl (fun b y=>h y b) b)∧(p.foldl (fun b y=>h y b) b).length≤b.length+(p.map w).sum:=by
  have key:∀ i,i≤p.length→∀ b,b.length+((p.drop i).map w).sum≤1000000000→L b (i:Nat)=K ((p.drop i).foldl (fun b y=>h y b) b)∧((p.drop i).foldl (fun b y=>h y b) b).length≤b.length+((p.drop i).map w).sum:=by
    refine iG ?_ ?_
    · intro b _; rw [hL]; simp
    · intro i hi ih b hb
      rw [List.drop_eq_getElem_cons hi,List.map_cons,List.sum_cons] at hb
      obtain ⟨g1,g2⟩:=hg _ (List.getElem_mem hi) b (by omega)
      obtain ⟨i1,i2⟩:=ih (h p[i] b) (by omega)
      rw [hL,eZ hi,fT hi (by omega)]
      simp only [eF,hi,decide_true,if_true,Option.bind_eq_bind,Option.bind_some,g1]
      rw [List.drop_eq_getElem_cons hi,List.foldl_cons,List.map_cons,List.sum_cons]
      exact ⟨i1,by omega⟩
  intro b hb
  simpa using key 0 (by omega) b (by simpa using hb)
def gX (x:aA) (acc:List (List UInt8)):List (List UInt8):=(jU x acc).getD []
def hQ (q:aQ) (acc:List (List UInt8)):List (List UInt8):=(bV q).foldl (fun a y=>gX y a) (q.from_.foldl (fun a s=>eO a s.table) acc)
def PX (x:aA):Prop:=∀ acc,acc.length+aX x≤1000000000→jU x acc=some (gX x acc)∧(gX x acc).length≤acc.length+aX x ∧
  ∀ (p:List aA) (i:Nat),((pM acc x.kids)>>=fun y2=>C8 p (i:Int) x 0 y2)=xZ p (IntKind.wrap .i64 ((i:Int)+1)) (gX x acc)
theorem aF2 {p:List aA} (hp:p.length≤1048576) (H:∀ y ∈ p,PX y):∀ acc,acc.length+(p.map aX).sum≤1000000000→pM acc p=some (p.foldl (fun a y=>gX y a) acc)∧(p.foldl (fun a y=>gX y a) acc).length≤acc.length+(p.map aX).sum:=by
  have key:∀ i,i≤p.length→∀ b,b.length+((p.drop i).map aX).sum≤1000000000→xZ p (i:Nat) b=some ((p.drop i).foldl (fun b y=>gX y b) b)∧((p.drop i).foldl (fun b y=>gX y b) b).length≤b.length+((p.drop i).map aX).sum:=by
    refine iG ?_ ?_
    · intro b _; rw [aX0]; simp
    · intro i hi ih b hb
      rw [List.drop_eq_getElem_cons hi,List.map_cons,List.sum_cons] at hb
      obtain ⟨g1,g2,g3⟩:=H _ (List.getElem_mem hi) b (by omega)
      obtain ⟨i1,i2⟩:=ih (gX p[i] b) (by omega)
      rw [aX0]
      simp only [eF,eZ hi,hi,decide_true,if_true,Option.bind_eq_bind,Option.bind_some]
      have g4:=g3 p i
      simp only [Option.bind_eq_bind] at g4
      rw [g4,fT hi (by omega),i1]
      rw [List.drop_eq_getElem_cons hi,List.foldl_cons,List.map_cons,List.sum_cons]
      exact ⟨rfl,by omega⟩
  intro b hb
  rw [bPt]
  simpa using key 0 (by omega) b (by simpa using hb)
theorem aC9 (q:aQ):q.from_.length+((bV q).map aX).sum≤eD q:=by
  have h:=zQ q
  have h1:∀ l:List bH,((l.flatMap (fun i=>if i.star then [] else [i.expr])).map aX).sum≤iB l:=by
    intro l
    induction l with
    | nil=>simp
    | cons x l ih =>
      rw [List.flatMap_cons,List.map_append,List.sum_append]
      have h1:((if x.star=true then [] else [x.expr]).map aX).sum≤kN x:=by
        obtain ⟨a,b,c,d⟩:=x
        cases a <;> simp [kN] <;> omega
      simp only [iB]; omega
  have h2:∀ l:List bI,((l.flatMap (fun s=>s.on_)).map aX).sum≤gQ l:=by
    intro l
    induction l with
    | nil=>simp
    | cons x l ih =>
      rw [List.flatMap_cons,List.map_append,List.sum_append]
      obtain ⟨a,b,c⟩:=x
      simp only [gQ,nJ,mG]; omega
  have h3:∀ l:List dU,((l.flatMap (fun k=>[k.expr])).map aX).sum≤kL l:=by
    intro l
    induction l with
    | nil=>simp
    | cons x l ih =>
      rw [List.flatMap_cons,List.map_append,List.sum_append]
      obtain ⟨a,b⟩:=x
      simp only [List.map_cons,List.map_nil,List.sum_cons,List.sum_nil,kL,oP]; omega
  have k1:=h1 q.items
  have k2:=h2 q.from_
  have k3:=h3 q.order
  have k4:=mG q.where_
  simp only [bV,List.map_append,List.sum_append]
  omega
theorem aB6 {α:Type} (l:List α):(l.map fun _=>1).sum=l.length:=by induction l with | nil=>rfl | cons x l ih=>simp [ih]; omega
theorem aG6 (q : aQ) (hz : eD q ≤ 1048576) (H : ∀ y ∈ bV q, PX y) (hE : q.from_.length + ((bV q).map aX).sum ≤ eD q) : ∀ acc, acc.length + eD q ≤ 1000000000 → wP q acc = some (hQ q acc) ∧ (hQ q acc).length ≤ acc.length + eD q ∧
    ∃ b,tV acc q=some b∧pM b (bV q)=some (hQ q acc):=by
  intro acc ha
  have hl:=R4 q
  have e1:=pY (p:=q.from_) (g:=fun s a=>F3 a s.table) (h:=fun s a=>eO a s.table) (w:=fun _=>1) (L:=fun a i=>M3 q a i) (K:=fun a=>(rV q)>>=fun y3=>K4 y3 a 0) (by omega)
    (fun y _ b hb=>⟨aY4 b _ (by omega),aA3 b _⟩) (fun i b=>by rw [M3]) acc (by rw [aB6]; omega)
  have e2:=pY (p:=q.from_) (g:=fun s a=>zH a s.table) (h:=fun s a=>eO a s.table) (w:=fun _=>1) (L:=fun a i=>Q9 q i a) (K:=fun a=>some a) (by omega)
    (fun y _ b hb=>⟨aKg b _ (by omega),aA3 b _⟩) (fun i b=>by rw [aU5]) acc (by rw [aB6]; omega)
  rw [aB6] at e1 e2
  have e3:=pY (p:=bV q) (g:=fun y a=>jU y a) (h:=fun y a=>gX y a) (w:=aX) (L:=fun a i=>K4 (bV q) a i) (K:=fun a=>some a) (by omega)
    (fun y hy b hb=>⟨(H y hy b hb).1,(H y hy b hb).2.1⟩) (fun i b=>by rw [K4]) (q.from_.foldl (fun a s=>eO a s.table) acc) (by have:=e1.2; omega)
  have e4:=aF2 (p:=bV q) (by omega) H (q.from_.foldl (fun a s=>eO a s.table) acc) (by have:=e1.2; omega)
  refine ⟨?_,?_,_,?_,e4.1⟩
  · rw [wP]
    refine e1.1.trans ?_
    simp only [I7 q hz,Option.bind_eq_bind,Option.bind_some]
    exact e3.1
  · have:=e4.2; have:=e1.2
    unfold hQ
    omega
  · rw [aZi]; exact e2.1
theorem aCg:∀ (n:Nat) (x:aA),aX x<n→aX x≤1048576→PX x:=by
  intro n
  induction n with
  | zero=>intro x h _; omega
  | succ n ih =>
    intro x hx hz acc ha
    have hE:=zE x
    have hk':=mG x.kids
    have hq':=O9 x.sub
    have HK:∀ y ∈ x.kids,PX y:=fun y hy=>ih y (by have:=mV hy; omega) (by have:=mV hy; omega)
    have HQ:∀ q ∈ x.sub,∀ acc,acc.length+eD q≤1000000000→wP q acc=some (hQ q acc)∧(hQ q acc).length≤acc.length+eD q∧∃ b,tV acc q=some b∧pM b (bV q)=some (hQ q acc):=fun q hq=>by
      have h1:=qL hq
      exact aG6 q (by omega) (fun y hy=>ih y (by have:=oL hy; omega) (by have:=oL hy; omega)) (aC9 q)
    have k1:=pY (p:=x.kids) (g:=fun y a=>jU y a) (h:=fun y a=>gX y a) (w:=aX) (L:=fun a i=>tJ x a i) (K:=fun a=>qI x a 0) (by omega)
      (fun y hy b hb=>⟨(HK y hy b hb).1,(HK y hy b hb).2.1⟩) (fun i b=>by rw [tJ]) acc (by omega)
    have k2:=pY (p:=x.sub) (g:=fun q a=>wP q a) (h:=fun q a=>hQ q a) (w:=eD) (L:=fun a i=>qI x a i) (K:=fun a=>some a) (by omega)
      (fun q hq b hb=>⟨(HQ q hq b hb).1,(HQ q hq b hb).2.1⟩) (fun i b=>by rw [qI]) (x.kids.foldl (fun a y=>gX y a) acc) (by have:=k1.2; omega)
    have hv:jU x acc=some (x.sub.foldl (fun a q=>hQ q a) (x.kids.foldl (fun a y=>gX y a) acc)):=by
      rw [jU]; exact k1.1.trans k2.1
    have hg:gX x acc=x.sub.foldl (fun a q=>hQ q a) (x.kids.foldl (fun a y=>gX y a) acc):=by unfold gX; rw [hv]; rfl
    refine ⟨by rw [hg]; exact hv,by rw [hg]; have:=k1.2; have:=k2.2; omega,fun p i=>?_⟩
    rw [(aF2 (by omega) HK acc (by omega)).1,hg]
    simp only [Option.bind_eq_bind,Option.bind_some]
    have k3:=pY (p:=x.sub) (g:=fun q a=>(tV a q)>>=fun y4=>(qY q)>>=fun y5=>pM y4 y5) (h:=fun q a=>hQ q a) (w:=eD) (L:=fun a j=>C8 p (i:Int) x j a) (K:=fun a=>xZ p (IntKind.wrap .i64 ((i:Int)+1)) a) (by omega)
      (fun q hq b hb=>by
        obtain ⟨_,q2,c,q3,q4⟩:=HQ q hq b hb
        refine ⟨?_,q2⟩
        simp only [q3,aCq q (by have:=qL hq; omega),q4,Option.bind_eq_bind,Option.bind_some]) (fun j b=>by rw [bS5]; simp only [Option.bind_eq_bind,Option.bind_assoc]) (x.kids.foldl (fun a y=>gX y a) acc) (by have:=k1.2; omega)
    exact k3.1
def nmF:Nat→aA→List (List UInt8)
  | 0,_=>[]
  | n+1,x=>x.kids.flatMap (nmF n)++x.sub.flatMap fun q=>q.from_.map (fun s=>s.table)++(bV q).flatMap (nmF n)
theorem foldl_flat {α β γ:Type} (f:β→γ→β) (g:α→List γ):∀ (l:List α) (b:β),(l.flatMap g).foldl f b=l.foldl (fun b x=>(g x).foldl f b) b
  | [],b=>rfl
  | x::l,b=>by rw [List.flatMap_cons,List.foldl_append,List.foldl_cons,foldl_flat f g l]
theorem aLi {α β:Type} {f g:β→α→β} {P:β→Nat→Prop} {w:α→Nat} (l:List α):∀ (b:β) (k:Nat),P b (k+(l.map w).sum)→(∀ x ∈ l,∀ b k,P b (k+w x)→f b x=g b x∧P (g b x) k)→l.foldl f b=l.foldl g b:=by
  induction l with
  | nil=>intro b k _ _; rfl
  | cons x l ih =>
    intro b k hb h
    obtain ⟨h1,h2⟩:=h x (by simp) b (k+(l.map w).sum) (by rw [List.map_cons,List.sum_cons] at hb; rw [Nat.add_assoc,Nat.add_comm (l.map w).sum]; exact hb)
    rw [List.foldl_cons,List.foldl_cons,h1]
    exact ih _ k h2 fun y hy=>h y (by simp [hy])
theorem bHw (x:aA) (hz:aX x≤1048576):∀ acc,acc.length+aX x≤1000000000→gX x acc=x.sub.foldl (fun a q=>hQ q a) (x.kids.foldl (fun a y=>gX y a) acc):=by
  intro acc ha
  have hE:=zE x
  have hk':=mG x.kids
  have hq':=O9 x.sub
  have TA:∀ y,aX y≤1048576→PX y:=fun y hy=>aCg _ y (Nat.lt_succ_self _) hy
  have HK:∀ y ∈ x.kids,PX y:=fun y hy=>TA y (by have:=mV hy; omega)
  have k1:=pY (p:=x.kids) (g:=fun y a=>jU y a) (h:=fun y a=>gX y a) (w:=aX) (L:=fun a i=>tJ x a i) (K:=fun a=>qI x a 0) (by omega)
    (fun y hy b hb=>⟨(HK y hy b hb).1,(HK y hy b hb).2.1⟩) (fun i b=>by rw [tJ]) acc (by omega)
  have k2:=pY (p:=x.sub) (g:=fun q a=>wP q a) (h:=fun q a=>hQ q a) (w:=eD) (L:=fun a i=>qI x a i) (K:=fun a=>some a) (by omega)
    (fun q hq b hb=>by
      have h1:=qL hq
      have:=aG6 q (by omega) (fun y hy=>TA y (by have:=oL hy; omega)) (aC9 q) b hb
      exact ⟨this.1,this.2.1⟩) (fun i b=>by rw [qI]) (x.kids.foldl (fun a y=>gX y a) acc) (by have:=k1.2; omega)
  have hv:jU x acc=some (x.sub.foldl (fun a q=>hQ q a) (x.kids.foldl (fun a y=>gX y a) acc)):=by
    rw [jU]; exact k1.1.trans k2.1
  unfold gX; rw [hv]; rfl
theorem bX0 (x:aA) (hz:aX x≤1048576) (acc) (ha:acc.length+aX x≤1000000000):(gX x acc).length≤acc.length+aX x:=(aCg _ x (Nat.lt_succ_self _) hz acc ha).2.1
theorem aRn:∀ (l acc:List (List UInt8)),(l.foldl eO acc).length≤acc.length+l.length
  | [],acc=>by simp
  | n::l,acc=>by rw [List.foldl_cons]; have:=aRn l (eO acc n); have:=aA3 acc n; simp only [List.length_cons]; omega
theorem aOn (n : Nat) (l : List aA) (H : ∀ y ∈ l, aX y ≤ 1048576 ∧ ∀ acc, acc.length + aX y ≤ 1000000000 → gX y acc = (nmF n y).foldl eO acc) (acc) (ha : acc.length + (l.map aX).sum ≤ 1000000000) :
    l.foldl (fun a y=>gX y a) acc=(l.flatMap (nmF n)).foldl eO acc:=by
  rw [foldl_flat]
  refine aLi (P:=fun b k=>b.length+k≤1000000000) (w:=aX) l acc 0 (by simpa using ha) fun y hy b k hb=>?_
  obtain ⟨h1,h2⟩:=H y hy
  have e:=h2 b (by omega)
  refine ⟨e,?_⟩
  have:=bX0 y h1 b (by omega)
  rw [← e]; omega
theorem aUt (n : Nat) (q : aQ) (H : ∀ y ∈ bV q, aX y ≤ 1048576 ∧ ∀ acc, acc.length + aX y ≤ 1000000000 → gX y acc = (nmF n y).foldl eO acc) (acc) (ha : acc.length + eD q ≤ 1000000000) :
    hQ q acc=(q.from_.map (fun s=>s.table)++(bV q).flatMap (nmF n)).foldl eO acc:=by
  have hf:=aC9 q
  have e1:q.from_.foldl (fun a s=>eO a s.table) acc=(q.from_.map (fun s=>s.table)).foldl eO acc:=by rw [List.foldl_map]
  have hl:=aRn (q.from_.map fun s=>s.table) acc
  rw [List.length_map] at hl
  unfold hQ
  rw [e1,List.foldl_append]
  exact aOn n _ H _ (by omega)
theorem bCw:∀ (n:Nat) (x:aA),aX x<n→aX x≤1048576→∀ acc,acc.length+aX x≤1000000000→gX x acc=(nmF n x).foldl eO acc:=by
  intro n
  induction n with
  | zero=>intro x h _; omega
  | succ n ih =>
    intro x hx hz acc ha
    have hE:=zE x
    have hk':=mG x.kids
    have hq':=O9 x.sub
    rw [bHw x hz acc ha,nmF,List.foldl_append,foldl_flat (g:=fun q=>q.from_.map (fun s=>s.table)++(bV q).flatMap (nmF n))]
    have e1:=aOn n x.kids (fun y hy=>by have:=mV hy; exact ⟨by omega,ih y (by omega) (by omega)⟩) acc (by omega)
    have hl:(x.kids.foldl (fun a y=>gX y a) acc).length≤acc.length+(x.kids.map aX).sum:=by
      have:=(pY (p:=x.kids) (g:=fun y a=>jU y a) (h:=fun y a=>gX y a) (w:=aX) (L:=fun a i=>tJ x a i) (K:=fun a=>qI x a 0) (by omega)
        (fun y hy b hb=>by have h1:=mV hy; have:=aCg _ y (Nat.lt_succ_self _) (by omega) b hb; exact ⟨this.1,this.2.1⟩) (fun i b=>by rw [tJ]) acc (by omega)).2
      exact this
    rw [← e1]
    refine aLi (P:=fun b k=>b.length+k≤1000000000) (w:=eD) x.sub _ 0 (by omega) fun q hq b k hb=>?_
    have h1:=qL hq
    have e:=aUt n q (fun y hy=>by have:=oL hy; exact ⟨by omega,ih y (by omega) (by omega)⟩) b (by omega)
    refine ⟨e,?_⟩
    rw [← e]
    have:=(aG6 q (by omega) (fun y hy=>aCg _ y (Nat.lt_succ_self _) (by have:=oL hy; omega)) (aC9 q) b (by omega)).2.1
    omega
def aCc (l:List (List UInt8)):Prop:=l.Nodup∧∀ w ∈ l,w≠[]
theorem bVx (acc n) (h:aCc acc):aCc (eO acc n):=by
  unfold eO
  split
  · exact h
  · rename_i hn
    have h1:n≠[]:=fun e=>hn (.inl e)
    have h2:n ∉ acc:=fun e=>hn (.inr e)
    refine ⟨?_,fun w hw=>?_⟩
    · rw [List.nodup_append]
      exact ⟨h.1,by simp,fun a ha b hb=>by simp at hb; subst hb; exact fun e=>h2 (e ▸ ha)⟩
    · rcases List.mem_append.1 hw with hw | hw
      · exact h.2 w hw
      · simp at hw; rw [hw]; exact h1
theorem bHq {acc n w} (h:w ∈ eO acc n):w ∈ acc∨w=n:=by
  unfold eO at h
  split at h
  · exact .inl h
  · rcases List.mem_append.1 h with h | h
    · exact .inl h
    · simp at h; exact .inr h
theorem aVm:∀ (l acc:List (List UInt8)),aCc acc→aCc (l.foldl eO acc)
  | [],_,h=>h
  | n::l,acc,h=>aVm l _ (bVx acc n h)
theorem aRf {w}:∀ (l acc:List (List UInt8)),w ∈ l.foldl eO acc→w ∈ acc∨w ∈ l
  | [],_,h=>.inl h
  | n::l,acc,h=>by
    rcases aRf l _ h with h | h
    · rcases bHq h with h | h
      · exact .inl h
      · exact .inr (by simp [h])
    · exact .inr (by simp [h])
theorem aDy {l m:List aB} (h:l.length+m.length≤4000000000000):appG 32 l m=some (l++m):=vC (by omega)
theorem F9 (l:List aB) (a b:aB):appG 32 l [a,b]=(appG 32 l [a])>>=fun y=>appG 32 y [b]:=by
  unfold appG
  have e1:l.length+[a,b].length=l.length+2:=rfl
  have e2:l.length+[a].length=l.length+1:=rfl
  have e3:(l++[a]).length+[b].length=l.length+2:=by simp
  have e4:(l++[a])++[b]=l++[a,b]:=by simp
  rw [e1,e2]
  by_cases h:(l.length+2) * 32≤140737488355328
  · rw [if_pos h,if_pos (by omega)]
    simp only [Option.bind_eq_bind,Option.bind_some,e3,e4,if_pos h]
  · rw [if_neg h]
    by_cases h1:(l.length+1) * 32≤140737488355328
    · rw [if_pos h1]; simp only [Option.bind_eq_bind,Option.bind_some,e3,if_neg h]
    · rw [if_neg h1]; rfl
def SN (S:List aB→Option (List aB)) (n:Nat) (ns:List (List UInt8)):Prop :=
  ∃ T:List aB,T.length≤n∧(∀ w ∈ ns,∃ t ∈ T,t.kind=2∧t.text=w)∧∀ l,l.length+n≤1000000000000→S l=some (l++T)
theorem SN.mono {S} {n m:Nat} {a b} (h:SN S n a) (hm:n≤m) (hb:∀ w ∈ b,w ∈ a):SN S m b:=by
  obtain ⟨T,h1,h2,h3⟩:=h; exact ⟨T,by omega,fun w hw=>h2 w (hb w hw),fun l hl=>h3 l (by omega)⟩
theorem SN.nil:SN (fun l=>some l) 0 []:=⟨[],by simp,by simp,by simp⟩
theorem SN.seq {S K'} {n m:Nat} {a b} (h1:SN S n a) (h2:SN K' m b):SN (fun l=>(S l)>>=K') (n+m) (a++b):=by
  obtain ⟨T,a1,a2,a3⟩:=h1
  obtain ⟨U,b1,b2,b3⟩:=h2
  refine ⟨T++U,by simp; omega,fun w hw=>?_,fun l hl=>?_⟩
  · rcases List.mem_append.1 hw with hw | hw
    · obtain ⟨t,ht,h⟩:=a2 w hw; exact ⟨t,by simp [ht],h⟩
    · obtain ⟨t,ht,h⟩:=b2 w hw; exact ⟨t,by simp [ht],h⟩
  · have c1:=a3 l (by omega)
    have d1:=b3 (l++T) (by simp; omega)
    simp [c1,d1]
theorem SN.one {t:aB}:SN (fun l=>appG 32 l [t]) 1 [] :=
  ⟨[t],by simp,by simp,fun l hl=>by simp only [aDy (show l.length+[t].length≤4000000000000 by simp; omega)]⟩
theorem SN.nm {w:List UInt8}:SN (fun l=>appG 32 l [aB.mk 2 w 0]) 1 [w] :=
  ⟨[aB.mk 2 w 0],by simp,fun v hv=>⟨aB.mk 2 w 0,by simp,rfl,by simp at hv; exact hv.symm⟩,fun l hl=>by simp only [aDy (show l.length+[aB.mk 2 w 0].length≤4000000000000 by simp; omega)]⟩
theorem SN.go {S S'} {n m:Nat} {a b} (h2:∀ l,S' l=S l) (h:SN S n a) (hm:n≤m) (hb:∀ w ∈ b,w ∈ a):SN S' m b:=by
  rw [show S'=S from funext h2]; exact h.mono hm hb
theorem SN.two {t u:aB}:SN (fun l=>appG 32 l [t,u]) 2 []:=by
  exact SN.go (fun l=>F9 l t u) (SN.seq (SN.one (t:=t)) (SN.one (t:=u))) (by omega) (by simp)
theorem SN.ite {c:Prop} [Decidable c] {S S'} {n:Nat} {a} (h1:SN S n a) (h2:SN S' n a):SN (fun l=>if c then S l else S' l) n a:=by
  by_cases h:c
  · simpa only [if_pos h] using h1
  · simpa only [if_neg h] using h2
theorem SN.loop {α : Type} {p : List α} {LS : List aB → Int → Option (List aB)} {w : α → Nat} {nms : α → List (List UInt8)} {n : Nat} {e : List (List UInt8)}
    (hend:SN (fun l=>LS l (p.length:Nat)) n e)
    (hstep:∀ i (hi:i<p.length),∀ m b,SN (fun l=>LS l ((i+1:Nat):Int)) m b→SN (fun l=>LS l (i:Nat)) (w p[i]+m) (nms p[i]++b)) :
    ∀ i,i≤p.length→SN (fun l=>LS l (i:Nat)) (((p.drop i).map w).sum+n) ((p.drop i).flatMap nms++e):=by
  refine iG ?_ ?_
  · simpa using hend
  · intro i hi ih
    rw [List.drop_eq_getElem_cons hi,List.map_cons,List.sum_cons,Nat.add_assoc,List.flatMap_cons,List.append_assoc]
    exact hstep i hi _ _ ih
theorem s1:dW 1=some (aB.mk 1 [83,69,76,69,67,84] 0):=rfl
theorem s2:dW 2=some (aB.mk 1 [68,73,83,84,73,78,67,84] 0):=rfl
theorem s3:dW 3=some (aB.mk 1 [70,82,79,77] 0):=rfl
theorem s4:dW 4=some (aB.mk 1 [74,79,73,78] 0):=rfl
theorem s5:dW 5=some (aB.mk 1 [79,78] 0):=rfl
theorem s6:dW 6=some (aB.mk 1 [87,72,69,82,69] 0):=rfl
theorem s7:dW 7=some (aB.mk 1 [79,82,68,69,82] 0):=rfl
theorem s8:dW 8=some (aB.mk 1 [66,89] 0):=rfl
theorem s10:dW 10=some (aB.mk 1 [68,69,83,67] 0):=rfl
theorem s11:dW 11=some (aB.mk 1 [76,73,77,73,84] 0):=rfl
theorem s12:dW 12=some (aB.mk 1 [65,83] 0):=rfl
theorem s13:dW 13=some (aB.mk 1 [65,78,68] 0):=rfl
theorem s15:dW 15=some (aB.mk 1 [78,79,84] 0):=rfl
theorem s16:dW 16=some (aB.mk 1 [73,83] 0):=rfl
theorem s17:dW 17=some (aB.mk 1 [73,78] 0):=rfl
theorem s18:dW 18=some (aB.mk 1 [66,69,84,87,69,69,78] 0):=rfl
theorem s19:dW 19=some (aB.mk 1 [69,88,73,83,84,83] 0):=rfl
theorem s20:dW 20=some (aB.mk 1 [78,85,76,76] 0):=rfl
theorem s21:dW 21=some (aB.mk 1 [84,82,85,69] 0):=rfl
theorem s22:dW 22=some (aB.mk 1 [70,65,76,83,69] 0):=rfl
theorem lZ (w):iX w=some (aB.mk 5 w 0):=rfl
theorem vJ (w):qE w=some (aB.mk 2 w 0):=rfl
theorem bN2 {d:Nat} (h:d<10) (x4:List UInt8):ofBytes ([(IntKind.wrap .u8 (IntKind.wrap .i64 (48+(d:Int))))]:List Int)=some [UInt8.ofNat (48+d)]:=by
  match d,h with
  | 0,_=>rfl
  | 1,_=>rfl
  | 2,_=>rfl
  | 3,_=>rfl
  | 4,_=>rfl
  | 5,_=>rfl
  | 6,_=>rfl
  | 7,_=>rfl
  | 8,_=>rfl
  | 9,_=>rfl
theorem tdm (x:Int):(Int.tdiv x 10=((x.natAbs / 10:Nat):Int)∨Int.tdiv x 10 = -((x.natAbs / 10:Nat):Int))∧(Int.tmod x 10=((x.natAbs % 10:Nat):Int)∨Int.tmod x 10 = -((x.natAbs % 10:Nat):Int)):=by
  have hx:x=(x.natAbs:Int)∨x = -(x.natAbs:Int):=by omega
  generalize x.natAbs=n at hx
  rcases hx with rfl | rfl
  · exact ⟨.inl (by simp [Int.tdiv]),.inl (by simp [Int.tmod])⟩
  · exact ⟨.inr (by rw [Int.neg_tdiv]; simp [Int.tdiv]),.inr (by rw [Int.neg_tmod]; simp [Int.tmod])⟩
theorem aRr (p0 x:Int) (out:List UInt8) (ho:out.length≤100) (H:∀ o:List UInt8,o.length≤out.length+1→∃ t,wG p0 (IntKind.wrap .i64 (Int.tdiv x 10)) o=some t) (hx:x≠0):∃ t,wG p0 x out=some t:=by
  obtain ⟨_,hm⟩:=tdm x
  have hlt:x.natAbs % 10<10:=Nat.mod_lt _ (by omega)
  have J:∀ d:Nat,d<10→∃ t,zO x p0 out (d:Int)=some t:=by
    intro d hd
    rw [zO,bN2 hd out]
    simp only [Option.bind_eq_bind,Option.bind_some]
    rw [aIg (by simp; omega)]
    simp only [Option.bind_some]
    exact H _ (by simp)
  rw [wG,if_pos (by simpa using hx)]
  by_cases hn:Int.tmod x 10<0
  · rw [if_pos (by simpa using hn)]
    have e:IntKind.wrap .i64 (0 - Int.tmod x 10)=((x.natAbs % 10:Nat):Int):=by rw [eH (by omega) (by omega)]; omega
    rw [e]; exact J _ hlt
  · rw [if_neg (by simpa using hn)]
    have e:Int.tmod x 10=((x.natAbs % 10:Nat):Int):=by omega
    rw [e]; exact J _ hlt
theorem bFx (p0:Int):∀ (k:Nat) (x:Int) (out:List UInt8),k≤19→x.natAbs<10 ^ k → -9223372036854775808≤x→x≤9223372036854775807→out.length+k≤60→∃ t,wG p0 x out=some t:=by
  intro k
  induction k with
  | zero =>
    intro x out _ hx _ _ ho
    have:x=0:=by simp at hx; exact hx
    subst this
    rw [wG]
    have hc:vM [45] out=some (45::out):=aIg (by simp; omega)
    by_cases hp:p0<0
    · exact ⟨45::out,by simp [hp,hc]⟩
    · exact ⟨out,by simp [hp]⟩
  | succ k ih =>
    intro x out hk hx h1 h2 ho
    by_cases h0:x=0
    · exact ih x out (by omega) (by subst h0; exact Nat.pow_pos (by omega)) h1 h2 (by omega)
    · obtain ⟨hd,_⟩:=tdm x
      have hdd:IntKind.wrap .i64 (Int.tdiv x 10)=Int.tdiv x 10:=eH (by omega) (by omega)
      refine aRr p0 x out (by omega) (fun o hl=>?_) h0
      rw [hdd]
      refine ih _ o (by omega) ?_ (by omega) (by omega) (by omega)
      rw [Nat.pow_succ] at hx
      omega
theorem bAw (n:Int):∃ t,P8 n=some t:=by
  unfold P8
  by_cases h0:n=0
  · exact ⟨_,by rw [if_pos (by simpa using h0)]⟩
  rw [if_neg (by simpa using h0)]
  refine aRr n n [] (by simp) (fun o hl=>?_) h0
  have hw:=IntKind.wrap_i64 (Int.tdiv n 10)
  exact bFx n 19 _ o (by omega) (by have : (10 : Nat) ^ 19 = 10000000000000000000 := (by decide); omega) (by omega) (by omega) (by simp at hl; omega)
theorem bW3 (v:bN):∃ t,aB9 v=some t:=by
  unfold aB9
  obtain ⟨d,hd⟩:=bAw v.num
  by_cases k1:v.kind=1
  · exact ⟨_,by rw [if_pos (by simpa using k1),hd]; rfl⟩
  by_cases k2:v.kind=2
  · exact ⟨_,by rw [if_neg (by simpa using k1),if_pos (by simpa using k2)]⟩
  by_cases k3:v.kind=3
  · by_cases n1:v.num=1
    · exact ⟨_,by rw [if_neg (by simpa using k1),if_neg (by simpa using k2),if_pos (by simpa using k3),if_pos (by simpa using n1),s21]; rfl⟩
    · exact ⟨_,by rw [if_neg (by simpa using k1),if_neg (by simpa using k2),if_pos (by simpa using k3),if_neg (by simpa using n1),s22]; rfl⟩
  · exact ⟨_,by rw [if_neg (by simpa using k1),if_neg (by simpa using k2),if_neg (by simpa using k3),s20]; rfl⟩
theorem bHc {o:Int} (h:1≤o∧o≤14∨o=15∨o=16):∃ t,V6 o=some t:=by
  have h:o=1∨o=2∨o=3∨o=4∨o=5∨o=6∨o=7∨o=8∨o=9∨o=10∨o=11∨o=12∨o=13∨o=14∨o=15∨o=16:=by omega
  rcases h with rfl | rfl | rfl | rfl | rfl | rfl | rfl | rfl | rfl | rfl | rfl | rfl | rfl | rfl | rfl | rfl <;> exact ⟨_,rfl⟩
theorem bB4 (x:aA):∃ n,J8 x=some n∧0≤n∧n≤9:=by
  have ob:∀ o:Int,∃ n,(gM o 1 14>>=fun y1=>if y1=true then (idx ([0,1,2,4,4,4,4,4,4,5,6,6,7,7,7]:List Int) o>>=fun y2=>some y2) else vY)=some n∧0≤n∧n≤9:=by
    intro o
    by_cases h:1≤o∧o≤14
    · have h:o=1∨o=2∨o=3∨o=4∨o=5∨o=6∨o=7∨o=8∨o=9∨o=10∨o=11∨o=12∨o=13∨o=14:=by omega
      rcases h with rfl | rfl | rfl | rfl | rfl | rfl | rfl | rfl | rfl | rfl | rfl | rfl | rfl | rfl <;> exact ⟨_,rfl,by decide,by decide⟩
    · refine ⟨0,?_,by decide,by decide⟩
      unfold gM vY
      simp only [Option.bind_eq_bind,Option.bind_some]
      rw [if_neg]
      intro hh
      by_cases h1:1≤o
      · rw [if_pos (by simpa using h1)] at hh
        exact h ⟨h1,by simpa using hh⟩
      · rw [if_neg (by simpa using h1)] at hh
        simp at hh
  obtain ⟨k,o,no,v,q,nm,ks,sb⟩:=x
  obtain ⟨n,h2,h3,h4⟩:=ob o
  unfold J8 Y6 zV
  simp only [h2]
  by_cases k4:k=4
  · subst k4; exact ⟨n,by simp,h3,h4⟩
  by_cases k3:k=3
  · subst k3
    by_cases o15:o=15
    · subst o15; exact ⟨3,by simp,by omega,by omega⟩
    by_cases o16:o=16
    · subst o16; exact ⟨8,by simp,by omega,by omega⟩
    · exact ⟨0,by simp [o15,o16,vY],by omega,by omega⟩
  by_cases k5:k=5
  · subst k5; exact ⟨4,by simp,by omega,by omega⟩
  by_cases k6:k=6
  · subst k6; exact ⟨4,by simp,by omega,by omega⟩
  by_cases k7:k=7
  · subst k7; exact ⟨4,by simp,by omega,by omega⟩
  by_cases k8:k=8
  · subst k8; exact ⟨4,by simp,by omega,by omega⟩
  by_cases k1:k=1
  · subst k1; exact ⟨9,by simp,by omega,by omega⟩
  by_cases k2:k=2
  · subst k2; exact ⟨9,by simp,by omega,by omega⟩
  by_cases k9:k=9
  · subst k9; exact ⟨9,by simp,by omega,by omega⟩
  exact ⟨0,by simp [k1,k2,k3,k4,k5,k6,k7,k8,k9,vY],by omega,by omega⟩
theorem bSy (x:aA) (i:Nat) (hi:i<x.kids.length) (hl:x.kids.length≤1048576):∃ b,aBl x (i:Int)=some b:=by
  obtain ⟨m,g2,_,_⟩:=bB4 x.kids[i]
  obtain ⟨n,h2,h3,h4⟩:=bB4 x
  have c3:IntKind.wrap .i64 ((x.kids.length:Int) - 1)=(x.kids.length:Int) - 1:=eH (by omega) (by omega)
  have c4:(0:Int)≤(i:Int):=by omega
  have c5:(i:Int)≤(x.kids.length:Int) - 1:=by omega
  have hn:∃ k,aAo x (i:Int)=some k:=by
    unfold aAo gM aAm
    simp only [h2,c3,c4,c5,Option.bind_eq_bind,Option.bind_some,decide_true,if_true]
    repeat' split
    all_goals exact ⟨_,rfl⟩
  obtain ⟨k,hk⟩:=hn
  unfold aBl gM
  simp only [c3,c4,c5,eZ hi,hk,decide_true,if_true,Option.bind_eq_bind,Option.bind_some]
  exact ⟨decide (m<k),by simp [g2]⟩
def XN (n:Nat) (y:aA):Prop:=SN (fun l=>jD l y false) (32 * aX y+16) (nmF n y)
def qnm (n:Nat) (q:aQ):List (List UInt8):=q.from_.map (fun s=>s.table)++(bV q).flatMap (nmF n)
def QN (n:Nat) (q:aQ):Prop:=SN (fun l=>yU l q false) (32 * eD q+5) (qnm n q)
theorem aTw (l:List aB) (w:List UInt8):wW l w=if w=[] then some l else (appG 32 l [aB.mk 1 [65,83] 0])>>=fun y=>(appG 32 y [aB.mk 2 w 0]):=by
  unfold wW
  by_cases h:w=[]
  · simp [h]
  · rw [if_neg (by simp [h]),if_neg h,s12,vJ]
    simp only [Option.bind_eq_bind,Option.bind_some,F9,Option.bind_assoc,Option.bind_fun_some]
theorem SN.as_ (w:List UInt8):SN (fun l=>wW l w) 2 []:=by
  by_cases h:w=[]
  · exact SN.go (fun l=>by rw [aTw,if_pos h]) SN.nil (by omega) (by simp)
  · exact SN.go (fun l=>by rw [aTw,if_neg h]) (SN.seq (SN.one (t:=aB.mk 1 [65,83] 0)) (SN.one (t:=aB.mk 2 w 0))) (by omega) (by simp)
theorem SN.not_ (x:aA):SN (fun l=>xR l x) 1 []:=by
  by_cases h:x.not_=true
  · exact SN.go (fun l=>by unfold xR; rw [if_pos h,s15]; simp only [Option.bind_eq_bind,Option.bind_some,Option.bind_fun_some]) (SN.one (t:=aB.mk 1 [78,79,84] 0)) (by omega) (by simp)
  · exact SN.go (fun l=>by unfold xR; rw [if_neg h]) SN.nil (by omega) (by simp)
theorem SN.qual (w:List UInt8):SN (fun l=>if (!decide (w=[]))=true then (appG 32 l [aB.mk 2 w 0,aB.mk 5 [46] 0]) else some l) 2 [] :=
  SN.ite SN.two (SN.nil.mono (by omega) (by simp))
theorem SN.kid {n:Nat} (x:aA) (i:Nat) (hi:i<x.kids.length) (hl:x.kids.length≤1048576) (h:XN n x.kids[i]):SN (fun l=>qJ l x (i:Int) false) (32 * aX x.kids[i]+18) (nmF n x.kids[i]):=by
  obtain ⟨b,w2⟩:=bSy x i hi hl
  cases b with
  | false=>exact SN.go (fun l=>by rw [qJ,w2,eZ hi]; simp) h (by omega) fun w hw=>hw
  | true =>
    exact SN.go (fun l=>by rw [qJ,w2,eZ hi]; simp only [lZ,Option.bind_eq_bind,Option.bind_some,if_true,beq_self_eq_true,Bool.and_self,Bool.true_and,Option.bind_fun_some]; simp) (SN.seq (SN.one (t:=aB.mk 5 [40] 0)) (SN.seq h (SN.one (t:=aB.mk 5 [41] 0)))) (by omega) (by simp)
theorem SN.where_ {n:Nat} (w:List aA) (h:∀ y ∈ w,XN n y) (h1:w.length≤1):SN (fun l=>vU l w false) (32 * (w.length+bU w)) (w.flatMap (nmF n)):=by
  match w,h1 with
  | [],_=>exact SN.go (fun l=>by rw [vU]; simp) SN.nil (by omega) (by simp)
  | [y],_ =>
    refine SN.go (fun l=>?_) (SN.seq (SN.one (t:=aB.mk 1 [87,72,69,82,69] 0)) (h y (by simp))) (by simp only [List.length_cons,bU]; omega) (by simp)
    rw [vU,if_neg (by simp),s6,show idx [y] 0=some y from rfl]
    simp only [Option.bind_eq_bind,Option.bind_some,Option.bind_fun_some]
  | _::_::_,h=>exact absurd h (by simp)
def aCw (s:bI) (l:List aB):Option (List aB):=(appG 32 l [aB.mk 2 s.table 0])>>=fun l=>(wW l s.as_)>>=fun l=>if (decide (0<(s.on_.length:Int)))=true then (appG 32 l [aB.mk 1 [79,78] 0])>>=fun l=>(idx s.on_ 0)>>=fun y=>jD l y false else some l
theorem SN.on_ {n:Nat} (w:List aA) (h:∀ y ∈ w,XN n y) (h1:w.length≤1):SN (fun l=>if (decide (0<(w.length:Int)))=true then (appG 32 l [aB.mk 1 [79,78] 0])>>=fun l=>(idx w 0)>>=fun y=>jD l y false else some l) (32 * (w.length+bU w)) (w.flatMap (nmF n)):=by
  match w,h1 with
  | [],_=>exact SN.go (fun l=>by simp) SN.nil (by omega) (by simp)
  | [y],_ =>
    refine SN.go (fun l=>?_) (SN.seq (SN.one (t:=aB.mk 1 [79,78] 0)) (h y (by simp))) (by simp only [List.length_cons,bU]; omega) (by simp)
    rw [if_pos (by simp),show idx [y] 0=some y from rfl]
    simp only [Option.bind_eq_bind,Option.bind_some]
  | _::_::_,h=>exact absurd h (by simp)
theorem SN.src {n:Nat} (s:bI) (h:∀ y ∈ s.on_,XN n y) (h1:s.on_.length≤1):SN (aCw s) (32 * (s.on_.length+bU s.on_)+3) ([s.table]++s.on_.flatMap (nmF n)):=by
  unfold aCw
  exact (SN.seq SN.nm (SN.seq (SN.as_ _) (SN.on_ s.on_ h h1))).mono (by omega) (by simp)
def srcP (s:bI) (i:Nat) (l:List aB):Option (List aB):=if 0<i∧0<s.on_.length then appG 32 l [aB.mk 1 [74,79,73,78] 0] else if 0<i then appG 32 l [aB.mk 5 [44] 0] else some l
theorem SN.srcP (s:bI) (i:Nat):SN (srcP s i) 1 []:=SN.ite SN.one (SN.ite SN.one (SN.nil.mono (by omega) (by simp)))
theorem bMf (p:List bI) (i:Nat) (hi:i<p.length) (hl:p.length≤1048576) (l:List aB):uM p false l (i:Nat)=(srcP p[i] i l)>>=fun l=>(aCw p[i] l)>>=fun l=>uM p false l ((i+1:Nat):Int):=by
  have hJ2:∀ l,V8 p false (i:Nat) l=(aCw p[i] l)>>=fun l=>uM p false l ((i+1:Nat):Int):=by
    intro l
    rw [V8]
    unfold aCw aA9
    simp only [eZ hi,vJ,s5,fT hi (show p.length≤4611686018427387904 by omega),Option.bind_eq_bind,Option.bind_some,Option.bind_assoc]
    congr 1; funext a; congr 1; funext b
    by_cases c:(0:Int)<(p[i].on_.length:Int)
    · simp only [c,decide_true,if_true,Option.bind_assoc]
    · simp only [c,decide_false,Bool.false_eq_true,if_false,Option.bind_some]
  rw [uM]
  unfold aAu
  simp only [eF,hi,decide_true,if_true,eZ hi,hJ2]
  unfold srcP
  by_cases c1:0<i
  · have e1:(0:Int)<(i:Int):=by omega
    by_cases c2:0<p[i].on_.length
    · have e2:(0:Int)<(p[i].on_.length:Int):=by omega
      have e3:¬ (p[i].on_.length:Int)=0:=by omega
      have e4:¬ p[i].on_=[]:=fun h=>by rw [h] at c2; simp at c2
      simp [e1,e2,e3,e4,c1,c2,s4]
    · have e2:¬ (0:Int)<(p[i].on_.length:Int):=by omega
      have e3:(p[i].on_.length:Int)=0:=by omega
      have e4:p[i].on_=[]:=List.eq_nil_of_length_eq_zero (by omega)
      simp [e1,e2,e3,c1,c2,e4,lZ]
  · have e1:¬ (0:Int)<(i:Int):=by omega
    have e2:i=0:=by omega
    subst e2
    simp
def aK1 (x:aA):Prop:=(x.kind=1∧x.kids.length=0∧x.sub.length=0)∨(x.kind=2∧x.kids.length=0∧x.sub.length=0)∨(x.kind=3∧(x.op=15∨x.op=16)∧x.kids.length=1∧x.sub.length=0)∨(x.kind=4∧(1≤x.op∧x.op≤14)∧x.kids.length=2∧x.sub.length=0) ∨
  (x.kind=5∧x.kids.length=1∧x.sub.length=0)∨(x.kind=6∧x.kids.length=3∧x.sub.length=0)∨(x.kind=7∧2≤x.kids.length∧x.sub.length=0)∨(x.kind=8∧x.kids.length=1∧x.sub.length=1)∨(x.kind=9∧x.kids.length=0∧x.sub.length=1)
theorem bMo {x:aA} (hk:x.kids.length≤1048576) (hs:x.sub.length≤1048576) (h:zN x=some true):aK1 x:=by
  rw [aZx] at h
  split at h
  · simp at h
  split at h
  · simp at h
  unfold aK1
  have hw:IntKind.wrap .i64 ((x.kids.length:Int)+(x.sub.length:Int))=(x.kids.length:Int)+(x.sub.length:Int):=eH (by omega) (by omega)
  rw [hw] at h
  split at h
  · rename_i k1
    left
    obtain ⟨b,l1,_⟩:=aO5 x.value
    rw [l1] at h
    simp only [Option.bind_eq_bind,Option.bind_some,Option.some.injEq,Bool.and_eq_true,decide_eq_true_eq] at h
    exact ⟨by simpa using k1,by omega,by omega⟩
  split at h
  · rename_i k2
    right; left
    obtain ⟨bn,n1,_⟩:=rY x.name
    obtain ⟨bq,q1,_⟩:=yA x.qual
    rw [n1,q1] at h
    cases bn <;> simp only [Option.bind_eq_bind,Option.bind_some,Option.some.injEq,Bool.and_eq_true,decide_eq_true_eq,if_true,if_false,Bool.false_eq_true,false_and] at h
    exact ⟨by simpa using k2,by omega,by omega⟩
  simp only [Option.some.injEq] at h
  by_cases k3:x.kind=3
  · rw [if_pos k3] at h
    simp only [Bool.and_eq_true,Bool.or_eq_true,decide_eq_true_eq] at h
    exact .inr (.inr (.inl ⟨k3,by omega,by omega,by omega⟩))
  rw [if_neg k3] at h
  by_cases k4:x.kind=4
  · rw [if_pos k4] at h
    simp only [Bool.and_eq_true,Bool.or_eq_true,decide_eq_true_eq] at h
    exact .inr (.inr (.inr (.inl ⟨k4,by omega,by omega,by omega⟩)))
  rw [if_neg k4] at h
  by_cases k5:x.kind=5
  · rw [if_pos k5] at h
    simp only [Bool.and_eq_true,Bool.or_eq_true,decide_eq_true_eq] at h
    exact .inr (.inr (.inr (.inr (.inl ⟨k5,by omega,by omega⟩))))
  rw [if_neg k5] at h
  by_cases k6:x.kind=6
  · rw [if_pos k6] at h
    simp only [Bool.and_eq_true,Bool.or_eq_true,decide_eq_true_eq] at h
    exact .inr (.inr (.inr (.inr (.inr (.inl ⟨k6,by omega,by omega⟩)))))
  rw [if_neg k6] at h
  by_cases k7:x.kind=7
  · rw [if_pos k7] at h
    simp only [Bool.and_eq_true,Bool.or_eq_true,decide_eq_true_eq] at h
    exact .inr (.inr (.inr (.inr (.inr (.inr (.inl ⟨k7,by omega,by omega⟩))))))
  rw [if_neg k7] at h
  by_cases k8:x.kind=8
  · rw [if_pos k8] at h
    simp only [Bool.and_eq_true,Bool.or_eq_true,decide_eq_true_eq] at h
    exact .inr (.inr (.inr (.inr (.inr (.inr (.inr (.inl ⟨k8,by omega,by omega⟩)))))))
  rw [if_neg k8] at h
  by_cases k9:x.kind=9
  · rw [if_pos k9] at h
    simp only [Bool.and_eq_true,Bool.or_eq_true,decide_eq_true_eq] at h
    exact .inr (.inr (.inr (.inr (.inr (.inr (.inr (.inr (⟨k9,by omega,by omega⟩))))))))
  rw [if_neg k9] at h
  simp at h
theorem aOg {m:Option Bool} {K:Bool→Option Bool} (h:(m>>=fun y=>if (!y)=true then some false else K y)=some true):m=some true∧K true=some true:=by
  cases m with
  | none=>simp at h
  | some b=>cases b with
    | true=>simpa using h
    | false=>simp at h
theorem bHh (l:List aA) (hl:l.length≤1048576):∀ i,i≤l.length→qO l (i:Nat)=some true→∀ y ∈ l.drop i,gN y=some true:=by
  refine iG ?_ ?_
  · intro _ y hy; simp at hy
  · intro i hi ih h y hy
    rw [qO] at h
    simp only [eF,eZ hi,fT hi (by omega),hi,decide_true,if_true] at h
    rw [Option.bind_eq_bind,Option.bind_some] at h
    obtain ⟨h1,h2⟩:=aOg h
    rw [List.drop_eq_getElem_cons hi] at hy
    rcases List.mem_cons.1 hy with rfl | hy
    · exact h1
    · exact ih h2 y hy
theorem aMr {m:Option Bool} {K:Option Bool} (h:(m>>=fun y=>if y=true then some false else K)=some true):K=some true:=by
  cases m with
  | none=>simp at h
  | some b=>cases b with
    | true=>simp at h
    | false=>simpa using h
theorem bWx (q:aQ) (hl:q.from_.length≤1048576):∀ i,i≤q.from_.length→qK q (i:Nat)=some true→qK q (q.from_.length:Nat)=some true∧∀ s ∈ q.from_.drop i,s.on_.length≤1:=by
  refine iG (fun h=>⟨h,fun s hs=>by simp at hs⟩) ?_
  intro i hi ih h
  rw [qK] at h
  simp only [eF,eZ hi,fT hi (by omega),hi,decide_true,if_true] at h
  have hon:q.from_[i].on_.length≤1:=by
    refine Nat.le_of_not_lt fun hlt=>?_
    obtain ⟨bn,n1,_⟩:=rY q.from_[i].table
    obtain ⟨bm,m1,_⟩:=yA q.from_[i].as_
    have e:decide ((1:Int)<(q.from_[i].on_.length:Int))=true:=by simp; omega
    have h':=h
    simp only [Option.bind_eq_bind,Option.bind_some] at h'
    rw [n1] at h'
    simp only [Option.bind_some] at h'
    rw [m1,e] at h'
    cases bn <;> cases bm <;> simp at h'
  simp only [Option.bind_eq_bind,← Option.bind_assoc] at h
  obtain ⟨h1,h2⟩:=ih (aMr h)
  refine ⟨h1,fun s hs=>?_⟩
  rw [List.drop_eq_getElem_cons hi] at hs
  rcases List.mem_cons.1 hs with rfl | hs
  · exact hon
  · exact h2 s hs
theorem bEp (q:aQ) (hl:q.items.length≤1048576):∀ i,i≤q.items.length→qG q (i:Nat)=some true→qG q (q.items.length:Nat)=some true:=by
  refine iG (fun h=>h) ?_
  intro i hi ih h
  rw [qG] at h
  simp only [eF,eZ hi,fT hi (by omega),hi,decide_true,if_true] at h
  simp only [Option.bind_eq_bind,← Option.bind_assoc] at h
  exact ih (aMr h)
theorem aX2 (q:aQ) (hz:eD q≤1048576) (h:nP q=some true):(∀ y ∈ bV q,gN y=some true)∧q.where_.length≤1∧∀ s ∈ q.from_,s.on_.length≤1:=by
  have hq:=zQ q
  have hle:=R4 q
  rw [nP] at h
  have hw:q.where_.length≤1:=by
    refine Nat.le_of_not_lt fun hlt=>?_
    have e:decide ((1:Int)<(q.where_.length:Int))=true:=by simp; omega
    unfold gM at h
    rw [e] at h
    simp only [Option.bind_eq_bind,Option.bind_some] at h
    revert h
    generalize (if decide (1≤(q.items.length:Int))=true then decide ((q.items.length:Int)≤12) else false)=b1
    generalize (if decide (1≤(q.from_.length:Int))=true then decide ((q.from_.length:Int)≤3) else false)=b2
    intro h
    cases b1 <;> cases b2 <;> simp at h
  simp only [Option.bind_eq_bind,← Option.bind_assoc] at h
  have h:=bEp q (by omega) 0 (by omega) (aMr h)
  rw [qG] at h
  simp only [eF,Nat.lt_irrefl,decide_false,Bool.false_eq_true,if_false] at h
  obtain ⟨h,hon⟩:=bWx q (by omega) 0 (by omega) h
  rw [qK] at h
  simp only [eF,Nat.lt_irrefl,decide_false,Bool.false_eq_true,if_false,I7 q hz,Option.bind_eq_bind,Option.bind_some] at h
  exact ⟨by simpa using bHh (bV q) (by omega) 0 (by omega) h,hw,by simpa using hon⟩
theorem bTd (x:aA) (hl:x.kids.length≤1048576):∀ i,i≤x.kids.length→qV x (i:Nat)=some true→(∀ y ∈ x.kids.drop i,gN y=some true)∧qV x (x.kids.length:Nat)=some true:=by
  refine iG (fun h=>⟨fun y hy=>by simp at hy,h⟩) ?_
  intro i hi ih h
  rw [qV] at h
  simp only [eF,eZ hi,fT hi (by omega),hi,decide_true,if_true] at h
  rw [Option.bind_eq_bind,Option.bind_some] at h
  obtain ⟨h1,h2⟩:=aOg h
  obtain ⟨h3,h4⟩:=ih h2
  refine ⟨fun y hy=>?_,h4⟩
  rw [List.drop_eq_getElem_cons hi] at hy
  rcases List.mem_cons.1 hy with rfl | hy
  · exact h1
  · exact h3 y hy
theorem bN4 (x:aA) (hz:aX x≤1048576) (h:gN x=some true):aK1 x∧(∀ y ∈ x.kids,gN y=some true)∧∀ q,x.sub[0]?=some q→nP q=some true:=by
  have hE:=zE x
  rw [gN] at h
  obtain ⟨h1,h2⟩:=aOg h
  obtain ⟨h3,h4⟩:=bTd x (by omega) 0 (by omega) h2
  refine ⟨bMo (by omega) (by omega) h1,by simpa using h3,fun q hq=>?_⟩
  have hm:q ∈ x.sub:=List.mem_of_getElem? hq
  have:=qL hm
  rw [qV] at h4
  have hne:¬ (x.sub.length:Int)=0:=by
    have:0<x.sub.length:=List.length_pos_of_mem hm
    omega
  have hi:idx x.sub 0=some q:=by rw [show (0:Int)=((0:Nat):Int) from rfl,aPt,hq]
  simp only [eF,Nat.lt_irrefl,hne,hi,decide_false,Bool.false_eq_true,if_false,beq_self_eq_true,Bool.and_self,if_true,Option.bind_eq_bind,Option.bind_some] at h4
  cases hr:nP q with
  | none=>rw [hr] at h4; simp at h4
  | some b=>rw [hr] at h4; simpa using h4
theorem xL {α:Type} (z:α→Nat) (c:Nat):∀ l:List α,(l.map fun x=>32 * z x+c).sum=32 * (l.map z).sum+c * l.length
  | []=>by simp
  | x::l=>by simp only [List.map_cons,List.sum_cons,xL z c l,List.length_cons,Nat.mul_add]; omega
theorem aTy:∀ l:List bH,iB l=(l.map kN).sum
  | []=>by simp [iB]
  | x::l=>by simp [iB,aTy l]
theorem bBg:∀ l:List bI,gQ l=(l.map nJ).sum
  | []=>by simp [gQ]
  | x::l=>by simp [gQ,bBg l]
theorem bB9:∀ l:List dU,kL l=(l.map oP).sum
  | []=>by simp [kL]
  | x::l=>by simp [kL,bB9 l]
def nmI (n:Nat) (i:bH):List (List UInt8):=if i.star then [] else nmF n i.expr
def nmO (n:Nat) (k:dU):List (List UInt8):=nmF n k.expr
def nmR (n:Nat) (s:bI):List (List UInt8):=[s.table]++s.on_.flatMap (nmF n)
theorem SN.order {n:Nat} (q:aQ) (hz:eD q≤1048576) (h:∀ y ∈ bV q,XN n y):SN (fun l=>oU false q l 0) (32 * (q.order.map oP).sum+19 * q.order.length+2) (q.order.flatMap (nmO n)):=by
  have hq:=zQ q
  have t:=SN.loop (p:=q.order) (LS:=fun l i=>oU false q l i) (w:=fun x=>32 * oP x+19) (nms:=nmO n) (n:=2) (e:=[]) ?_ ?_ 0 (by omega)
  · rw [List.drop_zero,xL,List.append_nil] at t
    exact t
  · obtain ⟨d,hd⟩:=bAw q.limit
    by_cases hlim:0≤q.limit
    · refine SN.go (fun l=>?_) (SN.seq (SN.one (t:=aB.mk 1 [76,73,77,73,84] 0)) (SN.one (t:=aB.mk 3 d 0))) (by omega) (by simp)
      rw [oU]
      unfold U2
      simp only [eF,Nat.lt_irrefl,decide_false,Bool.false_eq_true,if_false,hlim,decide_true,if_true,s11,hd,F9,Option.bind_eq_bind,Option.bind_some,Option.bind_assoc,Option.bind_fun_some]
    · refine SN.go (fun l=>?_) SN.nil (by omega) (by simp)
      rw [oU]
      unfold U2
      simp only [eF,Nat.lt_irrefl,decide_false,Bool.false_eq_true,if_false,hlim]
  · intro i hi m b ih
    have hx:XN n q.order[i].expr:=h _ (by simp only [bV,List.mem_append,List.mem_flatMap]; exact .inr ⟨q.order[i],List.getElem_mem hi,by simp⟩)
    have hzx:aX q.order[i].expr≤oP q.order[i]:=by obtain ⟨a,b⟩:=q.order[i]; simp only [oP]; omega
    have hw:IntKind.wrap .i64 ((i:Int)+1)=((i+1:Nat):Int):=fT hi (by omega)
    have tl:SN (fun l=>if q.order[i].desc=true then ((appG 32 l [aB.mk 1 [68,69,83,67] 0])>>=fun l=>oU false q l ((i+1:Nat):Int)) else (oU false q l ((i+1:Nat):Int))) (m+1) b :=
      SN.ite ((SN.seq SN.one ih).mono (by omega) (by simp)) (ih.mono (by omega) fun w hw=>hw)
    have eS:∀ l,V4 false (i:Int) q l=(jD l q.order[i].expr false)>>=fun l=>if q.order[i].desc=true then ((appG 32 l [aB.mk 1 [68,69,83,67] 0])>>=fun l=>oU false q l ((i+1:Nat):Int)) else (oU false q l ((i+1:Nat):Int)):=by
      intro l
      rw [V4]
      simp only [aCv,hw,eZ hi,s10,Option.bind_eq_bind,Option.bind_some]
    have t2:=SN.seq hx tl
    by_cases h0:i=0
    · refine SN.go (fun l=>?_) (SN.seq (SN.one (t:=aB.mk 1 [79,82,68,69,82] 0)) (SN.seq (SN.one (t:=aB.mk 1 [66,89] 0)) t2)) (by omega) (by simp [nmO])
      rw [oU]
      simp only [eF,hi,decide_true,if_true,s7,s8,F9,Option.bind_eq_bind,Option.bind_some,Option.bind_assoc]
      rw [if_pos (by simp [h0])]
      simp only [eS,Option.bind_eq_bind]
    · refine SN.go (fun l=>?_) (SN.seq (SN.one (t:=aB.mk 5 [44] 0)) t2) (by omega) (by simp [nmO])
      rw [oU]
      simp only [eF,hi,decide_true,if_true,lZ,Option.bind_eq_bind,Option.bind_some,Option.bind_assoc]
      rw [if_neg (by simp [h0])]
      simp only [eS,Option.bind_eq_bind]
theorem SN.from_ {n:Nat} (p:List bI) (hp:p.length≤1048576) (h:∀ s ∈ p,∀ y ∈ s.on_,XN n y) (h1:∀ s ∈ p,s.on_.length≤1):SN (fun l=>aCs l p false) (32 * (p.map nJ).sum+21 * p.length) (p.flatMap (nmR n)):=by
  have t:=SN.loop (p:=p) (LS:=fun l i=>uM p false l i) (w:=fun x=>32 * nJ x+21) (nms:=nmR n) (n:=0) (e:=[]) ?_ ?_ 0 (by omega)
  · rw [List.drop_zero,xL,List.append_nil] at t
    exact SN.go (fun l=>by rw [aCs]; rfl) t (by omega) fun w hw=>hw
  · refine SN.go (fun l=>?_) SN.nil (by omega) (by simp)
    rw [uM]
    simp only [eF,Nat.lt_irrefl,decide_false,Bool.false_eq_true,if_false]
  · intro i hi m b ih
    have hm:=List.getElem_mem hi
    have hzs:p[i].on_.length+bU p[i].on_≤nJ p[i]:=by obtain ⟨a,b,c⟩:=p[i]; simp only [nJ]; omega
    refine SN.go (fun l=>by rw [bMf p i hi hp]) (SN.seq (SN.srcP p[i] i) (SN.seq (SN.src p[i] (h _ hm) (h1 _ hm)) ih)) (by omega) (by simp [nmR])
theorem SN.items {n : Nat} (q : aQ) (hz : eD q ≤ 1048576) (h : ∀ y ∈ bV q, XN n y) (h1 : q.where_.length ≤ 1) (h2 : ∀ s ∈ q.from_, s.on_.length ≤ 1) : SN (fun l => sV false q l 0)
    (32 * (q.items.map kN).sum+19 * q.items.length+(1+(32 * (q.from_.map nJ).sum+21 * q.from_.length+(32 * (q.where_.length+bU q.where_)+(32 * (q.order.map oP).sum+19 * q.order.length+2)))))
    (q.items.flatMap (nmI n)++(q.from_.flatMap (nmR n)++(q.where_.flatMap (nmF n)++q.order.flatMap (nmO n)))):=by
  have hq:=zQ q
  have t:=SN.loop (p:=q.items) (LS:=fun l i=>sV false q l i) (w:=fun x=>32 * kN x+19) (nms:=nmI n) (n:=1+(32 * (q.from_.map nJ).sum+21 * q.from_.length+(32 * (q.where_.length+bU q.where_)+(32 * (q.order.map oP).sum+19 * q.order.length+2)))) (e:=q.from_.flatMap (nmR n)++(q.where_.flatMap (nmF n)++q.order.flatMap (nmO n))) ?_ ?_ 0 (by omega)
  · rw [List.drop_zero,xL] at t
    exact t
  · refine SN.go (fun l=>?_) (SN.seq (SN.one (t:=aB.mk 1 [70,82,79,77] 0)) (SN.seq (SN.from_ (n:=n) q.from_ (by omega) (fun s hs y hy=>h y (by simp only [bV,List.mem_append,List.mem_flatMap]; exact .inl (.inl (.inr ⟨s,hs,hy⟩)))) h2) (SN.seq (SN.where_ (n:=n) q.where_ (fun y hy=>h y (by simp only [bV,List.mem_append]; exact .inl (.inr hy))) h1) (SN.order q hz h)))) (by omega) (by simp)
    rw [sV]
    simp only [eF,Nat.lt_irrefl,decide_false,Bool.false_eq_true,if_false,s3,Option.bind_eq_bind,Option.bind_some]
  · intro i hi m b ih
    have hw:IntKind.wrap .i64 ((i:Int)+1)=((i+1:Nat):Int):=fT hi (by omega)
    have eS:∀ l,sV false q l (i:Int)=(if 0<(i:Int) then appG 32 l [aB.mk 5 [44] 0] else some l)>>=fun l=>(G5 l q.items[i] false)>>=fun l=>sV false q l ((i+1:Nat):Int):=by
      intro l
      conv=>lhs; rw [sV]
      simp only [eF,hi,decide_true,if_true,lZ,aAb,eZ hi,hw,Option.bind_eq_bind,Option.bind_some]
      by_cases c:(0:Int)<(i:Int)
      · simp only [c,decide_true,if_true]
      · simp only [c,decide_false,Bool.false_eq_true,if_false,Option.bind_some]
    have hzi:aX q.items[i].expr≤kN q.items[i]:=by generalize q.items[i]=it; cases it; simp only [kN]; omega
    have it:SN (fun l=>G5 l q.items[i] false) (32 * kN q.items[i]+18) (nmI n q.items[i]):=by
      by_cases hs:q.items[i].star=true
      · refine SN.go (fun l=>?_) (SN.seq (SN.qual q.items[i].qual) (SN.one (t:=aB.mk 5 [42] 0))) (by omega) (by simp [nmI,hs])
        rw [G5]
        unfold aC1
        by_cases c:q.items[i].qual=[]
        · simp only [hs,c,vJ,lZ,decide_true,Bool.not_true,Bool.false_eq_true,if_false,Option.bind_eq_bind,Option.bind_some,Option.bind_assoc,Option.bind_fun_some]
        · simp only [hs,c,vJ,lZ,decide_false,Bool.not_true,Bool.not_false,if_true,Bool.false_eq_true,if_false,Option.bind_eq_bind,Option.bind_some,Option.bind_assoc,Option.bind_fun_some]
      · have hx:XN n q.items[i].expr:=h _ (by simp only [bV,List.mem_append,List.mem_flatMap]; exact .inl (.inl (.inl ⟨q.items[i],List.getElem_mem hi,by simp [hs]⟩)))
        have hs':q.items[i].star=false:=by simpa using hs
        refine SN.go (fun l=>?_) (SN.seq hx (SN.as_ q.items[i].as_)) (by omega) (by simp [nmI,hs'])
        rw [G5]
        simp only [hs',Bool.not_false,if_true,Option.bind_eq_bind,Option.bind_fun_some]
    exact SN.go eS (SN.seq (SN.ite SN.one (SN.nil.mono (by omega) (by simp)):SN (fun l=>if 0<(i:Int) then appG 32 l [aB.mk 5 [44] 0] else some l) 1 []) (SN.seq it ih)) (by omega) (by simp)
theorem aYg {n:Nat} (q:aQ) (hz:eD q≤1048576) (h:∀ y ∈ bV q,XN n y) (h1:q.where_.length≤1) (h2:∀ s ∈ q.from_,s.on_.length≤1):QN n q:=by
  have hq:=zQ q
  have t:=SN.items q hz h h1 h2
  rw [aTy,bBg,bB9] at hq
  refine SN.go (fun l=>?_) (SN.seq (SN.one (t:=aB.mk 1 [83,69,76,69,67,84] 0)) (SN.seq (SN.ite (SN.one (t:=aB.mk 1 [68,73,83,84,73,78,67,84] 0)) (SN.nil.mono (by omega) (by simp)):SN (fun l=>if q.distinct=true then appG 32 l [aB.mk 1 [68,73,83,84,73,78,67,84] 0] else some l) 1 []) t)) (by omega) ?_
  · rw [yU]
    by_cases hd:q.distinct=true
    · simp only [hd,if_true,V9,s1,s2,Option.bind_eq_bind,Option.bind_some]
    · simp only [hd,if_false,Bool.false_eq_true,V9,s1,Option.bind_eq_bind,Option.bind_some]
  · intro w hw
    simp only [qnm,bV,List.flatMap_append,List.mem_append,List.mem_flatMap,List.mem_map] at hw
    simp only [List.nil_append,List.mem_append,List.mem_flatMap]
    rcases hw with ⟨s,hs,rfl⟩ | ((⟨y,⟨i,hi,hy⟩,hw⟩ | ⟨y,⟨s,hs,hy⟩,hw⟩) | ⟨y,hy,hw⟩) | ⟨y,⟨k,hk,hy⟩,hw⟩
    · exact .inr (.inl ⟨s,hs,by simp [nmR]⟩)
    · refine .inl ⟨i,hi,?_⟩
      unfold nmI
      cases hst:i.star with
      | true=>rw [hst] at hy; simp at hy
      | false=>rw [hst] at hy; simp at hy; subst hy; simpa using hw
    · exact .inr (.inl ⟨s,hs,by simp only [nmR,List.mem_append,List.mem_flatMap]; exact .inr ⟨y,hy,hw⟩⟩)
    · exact .inr (.inr (.inl ⟨y,hy,hw⟩))
    · simp at hy; subst hy
      exact .inr (.inr (.inr ⟨k,hk,hw⟩))
theorem SN.inL {n:Nat} (x:aA) (hz:aX x≤1048576) (h:∀ y ∈ x.kids,XN n y) (h1:1≤x.kids.length):SN (fun l=>yP false x l 1) (32 * ((x.kids.drop 1).map aX).sum+19 * (x.kids.drop 1).length+1) ((x.kids.drop 1).flatMap (nmF n)):=by
  have hE:=zE x
  have t:=SN.loop (p:=x.kids) (LS:=fun l i=>yP false x l i) (w:=fun y=>32 * aX y+19) (nms:=nmF n) (n:=1) (e:=[]) ?_ ?_ 1 h1
  · rw [xL,List.append_nil] at t
    exact t
  · refine SN.go (fun l=>?_) (SN.one (t:=aB.mk 5 [41] 0)) (by omega) (by simp)
    rw [yP]
    simp only [eF,Nat.lt_irrefl,decide_false,Bool.false_eq_true,if_false,lZ,Option.bind_eq_bind,Option.bind_some,Option.bind_fun_some]
  · intro i hi m b ih
    have hw:IntKind.wrap .i64 ((i:Int)+1)=((i+1:Nat):Int):=fT hi (by omega)
    refine SN.go (fun l=>?_) (SN.seq (SN.ite SN.one (SN.nil.mono (by omega) (by simp)):SN (fun l=>if 1<(i:Int) then appG 32 l [aB.mk 5 [44] 0] else some l) 1 []) (SN.seq (SN.kid x i hi (by omega) (h _ (List.getElem_mem hi))) ih)) (by omega) (by simp)
    rw [yP]
    simp only [eF,hi,decide_true,if_true,lZ,aBp,hw,Option.bind_eq_bind,Option.bind_some]
    by_cases c:(1:Int)<(i:Int)
    · simp only [c,decide_true,if_true]
    · simp only [c,decide_false,Bool.false_eq_true,if_false,Option.bind_some]
theorem SN.op {o:Int} (h:1≤o∧o≤14∨o=15∨o=16):SN (fun l=>(V6 o)>>=fun t=>appG 32 l [t]) 1 []:=by
  obtain ⟨t,h1⟩:=bHc h
  exact SN.go (fun l=>by rw [h1]; rfl) (SN.one (t:=t)) (by omega) (by simp)
theorem aRl {α:Type} {l:List α} {x:α} (h:l[0]?=some x):idx l 0=some x:=by rw [show (0:Int)=((0:Nat):Int) from rfl,aPt,h]
theorem SN.sub {n:Nat} (q:aQ) (h:QN n q):SN (fun l=>(appG 32 l [aB.mk 5 [40] 0])>>=fun l=>(yU l q false)>>=fun l=>appG 32 l [aB.mk 5 [41] 0]) (32 * eD q+7) (qnm n q) :=
  (SN.seq SN.one (SN.seq h SN.one)).mono (by omega) (by simp)
theorem bFz (n:Nat) (ks:List aA) (hn:2≤ks.length):(ks[0]?.map aX).getD 0+((ks.drop 1).map aX).sum≤bU ks∧(ks.drop 1).length+1=ks.length∧∀ hi:0<ks.length,∀ w ∈ ks.flatMap (nmF n),w ∈ nmF n ks[0]∨w ∈ (ks.drop 1).flatMap (nmF n):=by
  match ks,hn with
  | a::b::c,_ =>
    refine ⟨by simp [bU,mG],by simp,fun _ w hw=>?_⟩
    rw [List.flatMap_cons,List.mem_append] at hw
    exact hw
set_option maxHeartbeats 1000000 in
theorem bIs:∀ n:Nat,∀ x:aA,aX x<n→aX x≤1048576→gN x=some true→XN n x:=by
  intro n
  induction n with
  | zero=>intro x h _ _; omega
  | succ n ih =>
    intro x hx hz hr
    have hE:=zE x
    obtain ⟨sh,hk,hq⟩:=bN4 x hz hr
    have HK:∀ y ∈ x.kids,XN n y:=fun y hy=>ih y (by have:=mV hy; omega) (by have:=mV hy; omega) (hk y hy)
    have HQ:∀ q,x.sub[0]?=some q→QN n q:=fun q hs=>by
      have hm:q ∈ x.sub:=List.mem_of_getElem? hs
      have h1:=qL hm
      obtain ⟨r1,r2,r3⟩:=aX2 q (by omega) (hq q hs)
      exact aYg q (by omega) (fun y hy=>by
        have h2:=oL hy
        exact ih y (by omega) (by omega) (r1 y hy)) r2 r3
    have KD:∀ i (hi:i<x.kids.length),SN (fun l=>qJ l x (i:Int) false) (32 * ((x.kids[i]?.map aX).getD 0)+18) (nmF n x.kids[i]):=fun i hi=>by
      have:=SN.kid x i hi (by omega) (HK _ (List.getElem_mem hi))
      simpa [hi] using this
    have zk:=mG x.kids
    have hsub:∀ q,x.sub[0]?=some q→32 * eD q+32≤32 * (x.sub.length+fM x.sub):=fun q hs=>by
      have:=qL (List.mem_of_getElem? hs); omega
    have getS:x.sub.length=1→∃ q,x.sub=[q]:=fun h=>List.length_eq_one_iff.1 h
    have nil0:∀ {α:Type} {l:List α},l.length=0→l=[]:=fun h=>List.eq_nil_of_length_eq_zero h
    unfold XN
    rcases sh with ⟨k,hn,hs⟩ | ⟨k,hn,hs⟩ | ⟨k,ho,hn,hs⟩ | ⟨k,ho,hn,hs⟩ | ⟨k,hn,hs⟩ | ⟨k,hn,hs⟩ | ⟨k,hn,hs⟩ | ⟨k,hn,hs⟩ | ⟨k,hn,hs⟩
    · obtain ⟨t,l1⟩:=bW3 x.value
      refine SN.go (fun l=>?_) (SN.one (t:=t)) (by omega) (by simp [nmF,nil0 hn,nil0 hs])
      rw [jD]
      simp only [k,decide_true,if_true,l1,Option.bind_eq_bind,Option.bind_some,Option.bind_fun_some]
    · refine SN.go (fun l=>?_) (SN.seq (SN.qual x.qual) (SN.one (t:=aB.mk 2 x.name 0))) (by omega) (by simp [nmF,nil0 hn,nil0 hs])
      rw [jD]
      unfold aC0
      simp only [k,Int.reduceEq,decide_false,Bool.false_eq_true,if_false,decide_true,if_true,vJ,lZ,Option.bind_eq_bind,Option.bind_some,Option.bind_fun_some]
      by_cases c:x.qual=[] <;> simp [c]
    · have k0:=KD 0 (by omega)
      have zz:(x.kids[0]?.map aX).getD 0≤bU x.kids:=by
        have hi:0<x.kids.length:=by omega
        have:=mV (List.getElem_mem hi); simp [hi]; omega
      refine SN.go (fun l=>?_) (SN.seq (SN.op (.inr ho)) k0) (by omega) ?_
      · rw [jD]
        simp only [k,Int.reduceEq,decide_false,Bool.false_eq_true,if_false,decide_true,if_true,Option.bind_eq_bind,Option.bind_assoc,Option.bind_fun_some,Int.natCast_zero]
      · obtain ⟨a,ha⟩:=List.length_eq_one_iff.1 hn
        simp [nmF,ha,nil0 hs]
    · have k0:=KD 0 (by omega)
      have k1:=KD 1 (by omega)
      obtain ⟨a,b,hab⟩:∃ a b,x.kids=[a,b]:=by
        match hh:x.kids,hn with
        | [a,b],_=>exact ⟨a,b,rfl⟩
      have zz:(x.kids[0]?.map aX).getD 0+(x.kids[1]?.map aX).getD 0≤bU x.kids:=by simp [hab,bU]
      refine SN.go (fun l=>?_) (SN.seq k0 (SN.seq (SN.op (.inl ho)) k1)) (by omega) (by simp [nmF,hab,nil0 hs])
      rw [jD]
      simp only [k,Int.reduceEq,decide_false,Bool.false_eq_true,if_false,decide_true,if_true,Option.bind_eq_bind,Option.bind_assoc,Option.bind_fun_some,Int.natCast_zero,Int.natCast_one]
    · have k0:=KD 0 (by omega)
      obtain ⟨a,ha⟩:=List.length_eq_one_iff.1 hn
      have zz:(x.kids[0]?.map aX).getD 0≤bU x.kids:=by simp [ha,bU]
      refine SN.go (fun l=>?_) (SN.seq k0 (SN.seq (SN.one (t:=aB.mk 1 [73,83] 0)) (SN.seq (SN.not_ x) (SN.one (t:=aB.mk 1 [78,85,76,76] 0))))) (by omega) (by simp [nmF,ha,nil0 hs])
      rw [jD]
      simp only [k,Int.reduceEq,decide_false,Bool.false_eq_true,if_false,decide_true,if_true,s16,s20,Option.bind_eq_bind,Option.bind_some,Option.bind_fun_some,Int.natCast_zero]
    · have k0:=KD 0 (by omega)
      have k1:=KD 1 (by omega)
      have k2:=KD 2 (by omega)
      obtain ⟨a,b,c,habc⟩:∃ a b c,x.kids=[a,b,c]:=by
        match hh:x.kids,hn with
        | [a,b,c],_=>exact ⟨a,b,c,rfl⟩
      have zz:(x.kids[0]?.map aX).getD 0+(x.kids[1]?.map aX).getD 0+(x.kids[2]?.map aX).getD 0≤bU x.kids:=by simp [habc,bU]; omega
      refine SN.go (fun l=>?_) (SN.seq k0 (SN.seq (SN.not_ x) (SN.seq (SN.one (t:=aB.mk 1 [66,69,84,87,69,69,78] 0)) (SN.seq k1 (SN.seq (SN.one (t:=aB.mk 1 [65,78,68] 0)) k2))))) (by omega) (by simp [nmF,habc,nil0 hs])
      rw [jD]
      simp only [k,Int.reduceEq,decide_false,Bool.false_eq_true,if_false,decide_true,if_true,s13,s18,Option.bind_eq_bind,Option.bind_some,Option.bind_fun_some,Int.natCast_zero,Int.natCast_one]
      rfl
    · have k0:=KD 0 (by omega)
      have tl:=SN.inL x hz HK (by omega)
      have zz:=bFz n x.kids hn
      refine SN.go (fun l=>?_) (SN.seq k0 (SN.seq (SN.not_ x) (SN.seq (SN.one (t:=aB.mk 1 [73,78] 0)) (SN.seq (SN.one (t:=aB.mk 5 [40] 0)) tl)))) (by omega) (fun w hw=>?_)
      · rw [jD]
        simp only [k,Int.reduceEq,decide_false,Bool.false_eq_true,if_false,decide_true,if_true,s17,lZ,F9,Option.bind_eq_bind,Option.bind_some,Option.bind_assoc,Int.natCast_zero]
      · rw [nmF,nil0 hs,List.flatMap_nil,List.append_nil] at hw
        simp only [List.nil_append,List.mem_append]
        exact zz.2.2 (by omega) w hw
    · obtain ⟨q,hq1⟩:=getS hs
      have hq0:x.sub[0]?=some q:=by rw [hq1]; rfl
      have k0:=KD 0 (by omega)
      obtain ⟨a,ha⟩:=List.length_eq_one_iff.1 hn
      have zz:(x.kids[0]?.map aX).getD 0≤bU x.kids:=by simp [ha,bU]
      have zs:=hsub q hq0
      refine SN.go (fun l=>?_) (SN.seq k0 (SN.seq (SN.not_ x) (SN.seq (SN.one (t:=aB.mk 1 [73,78] 0)) (SN.sub q (HQ q hq0))))) (by omega) (by simp [nmF,ha,hq1,qnm])
      rw [jD]
      simp only [k,Int.reduceEq,decide_false,Bool.false_eq_true,if_false,decide_true,if_true,aRl hq0,s17,lZ,F9,Option.bind_eq_bind,Option.bind_some,Option.bind_assoc,Option.bind_fun_some,Int.natCast_zero]
    · obtain ⟨q,hq1⟩:=getS hs
      have hq0:x.sub[0]?=some q:=by rw [hq1]; rfl
      have zs:=hsub q hq0
      refine SN.go (fun l=>?_) (SN.seq (SN.one (t:=aB.mk 1 [69,88,73,83,84,83] 0)) (SN.sub q (HQ q hq0))) (by omega) (by simp [nmF,nil0 hn,hq1,qnm])
      rw [jD]
      simp only [k,Int.reduceEq,decide_false,Bool.false_eq_true,if_false,decide_true,if_true,aRl hq0,s19,lZ,F9,Option.bind_eq_bind,Option.bind_some,Option.bind_assoc,Option.bind_fun_some]
end Go.Ab
