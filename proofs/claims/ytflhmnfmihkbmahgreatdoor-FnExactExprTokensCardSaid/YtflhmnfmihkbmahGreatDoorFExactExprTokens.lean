/- The functions of the program,as Lean functions (printed by a program). -/
import Derived.Test.YtflhmnfmihkbmahGreatDoorAbF1
namespace Go.Ab
open Go
structure cZ where
  kind:Int
  num:Int
  text:(List UInt8)
instance:Inhabited cZ:=⟨(cZ.mk 0 0 [])⟩
mutual
structure aB where
  kind:Int
  op:Int
  not_:Bool
  value:cZ
  qual:(List UInt8)
  name:(List UInt8)
  kids:(List aB)
  sub:(List aJ)
structure aZ where
  star:Bool
  qual:(List UInt8)
  expr:aB
  as_:(List UInt8)
structure aJ where
  distinct:Bool
  items:(List aZ)
  from_:(List aR)
  where_:(List aB)
  order:(List aX)
  limit:Int
structure aX where
  expr:aB
  desc:Bool
structure aR where
  table:(List UInt8)
  as_:(List UInt8)
  on_:(List aB)
end
instance:Inhabited aB:=⟨(aB.mk 0 0 false (cZ.mk 0 0 []) [] [] [] [])⟩
instance:Inhabited aZ:=⟨(aZ.mk false [] (aB.mk 0 0 false (cZ.mk 0 0 []) [] [] [] []) [])⟩
instance:Inhabited aJ:=⟨(aJ.mk false [] [] [] [] 0)⟩
instance:Inhabited aX:=⟨(aX.mk (aB.mk 0 0 false (cZ.mk 0 0 []) [] [] [] []) false)⟩
instance:Inhabited aR:=⟨(aR.mk [] [] [])⟩
structure aA where
  kind:Int
  text:(List UInt8)
  at_:Int
instance:Inhabited aA:=⟨(aA.mk 0 [] 0)⟩
structure xY where
  list:(List aA)
  full:Bool
instance:Inhabited xY:=⟨(xY.mk [] false)⟩
structure iM where
  op:Bool
  not_:Bool
  value:Bool
  name:Bool
  least:Int
  most:Int
  subs:Int
instance:Inhabited iM:=⟨(iM.mk false false false false 0 0 0)⟩
def okGValue (x:cZ):Prop:=okI x.kind∧okI x.num∧okS x.text
mutual
def okGExpr:aB→Prop
  | ⟨a0,a1,a2,a3,a4,a5,a6,a7⟩=>okI a0∧okI a1∧okB a2∧okGValue a3∧okS a4∧okS a5∧(a6.length≤9223372036854775807∧okLGExpr a6)∧(a7.length≤9223372036854775807∧okLGQuery a7)
def okGItem:aZ→Prop
  | ⟨a0,a1,a2,a3⟩=>okB a0∧okS a1∧okGExpr a2∧okS a3
def okGQuery:aJ→Prop
  | ⟨a0,a1,a2,a3,a4,a5⟩=>okB a0∧(a1.length≤9223372036854775807∧okLGItem a1)∧(a2.length≤9223372036854775807∧okLGSource a2)∧(a3.length≤9223372036854775807∧okLGExpr a3)∧(a4.length≤9223372036854775807∧okLGSortKey a4)∧okI a5
def okGSortKey:aX→Prop
  | ⟨a0,a1⟩=>okGExpr a0∧okB a1
def okGSource:aR→Prop
  | ⟨a0,a1,a2⟩=>okS a0∧okS a1∧(a2.length≤9223372036854775807∧okLGExpr a2)
def okLGExpr:List aB→Prop
  | []=>True
  | x::l=>okGExpr x∧okLGExpr l
def okLGItem:List aZ→Prop
  | []=>True
  | x::l=>okGItem x∧okLGItem l
def okLGQuery:List aJ→Prop
  | []=>True
  | x::l=>okGQuery x∧okLGQuery l
def okLGSortKey:List aX→Prop
  | []=>True
  | x::l=>okGSortKey x∧okLGSortKey l
def okLGSource:List aR→Prop
  | []=>True
  | x::l=>okGSource x∧okLGSource l
end
def okGToken (x:aA):Prop:=okI x.kind∧okS x.text∧okI x.at_
def okGPrinter (x:xY):Prop:=(okL okGToken) x.list∧okB x.full
def okGForm (x:iM):Prop:=okB x.op∧okB x.not_∧okB x.value∧okB x.name∧okI x.least∧okI x.most∧okI x.subs
def wY (p0:aJ) (kG:(List aB)) (x46:Int):Option (List aB) :=
  if (decide (x46<(p0.order.length:Int)))=true then ((idx p0.order x46)>>=fun y9=>(appG 136 kG ([y9.expr]:List aB))>>=fun y10=>wY p0 y10 (IntKind.wrap .i64 (x46+1))) else (some kG)
  partial_fixpoint
def vK (p0:aJ) (dX:(List aB)) (x30:Int):Option (List aB) :=
  if (decide (x30<(p0.from_.length:Int)))=true then ((idx p0.from_ x30)>>=fun y5=>(appG 136 dX y5.on_)>>=fun y6=>vK p0 y6 (IntKind.wrap .i64 (x30+1))) else ((appG 136 dX p0.where_)>>=fun y7=>wY p0 y7 0)
  partial_fixpoint
mutual
def K8 (p0:aJ) (x14:Int) (fV:(List aB)):Option (List aB) :=
  U2 p0 fV (IntKind.wrap .i64 (x14+1))
  partial_fixpoint
def U2 (p0:aJ) (x3:(List aB)) (x14:Int):Option (List aB) :=
  if (decide (x14<(p0.items.length:Int)))=true then ((idx p0.items x14)>>=fun y1=>if (!y1.star)=true then ((appG 136 x3 ([y1.expr]:List aB))>>=fun y2=>K8 p0 x14 y2) else (K8 p0 x14 x3)) else (vK p0 x3 0)
  partial_fixpoint
end
def xO (p0:aJ):Option (List aB) :=
  U2 p0 ([]:List aB) 0
mutual
def xU (p0:(List aB)) (x3:Int) (x8:Int):Option Int :=
  if (decide (x8<(p0.length:Int)))=true then ((idx p0 x8)>>=fun y1=>(pG y1)>>=fun y2=>xU p0 (if y2 > x3 then y2 else x3) (IntKind.wrap .i64 (x8+1))) else (some x3)
  partial_fixpoint
def aJm (p0:(List aB)):Option Int :=
  xU p0 0 0
  partial_fixpoint
def D8 (p0:aJ):Option Int :=
  (xO p0)>>=fun y1=>(aJm y1)>>=fun y2=>some y2
  partial_fixpoint
def E8 (p0:aB) (fV:Int) (x23:Int):Option Int :=
  if (decide (x23<(p0.sub.length:Int)))=true then ((idx p0.sub x23)>>=fun y4=>(D8 y4)>>=fun y5=>E8 p0 (if y5 > fV then y5 else fV) (IntKind.wrap .i64 (x23+1))) else (some (IntKind.wrap .i64 (1+fV)))
  partial_fixpoint
def Q8 (p0:aB) (x3:Int) (x11:Int):Option Int :=
  if (decide (x11<(p0.kids.length:Int)))=true then ((idx p0.kids x11)>>=fun y1=>(pG y1)>>=fun y2=>Q8 p0 (if y2 > x3 then y2 else x3) (IntKind.wrap .i64 (x11+1))) else (E8 p0 x3 0)
  partial_fixpoint
def pG (p0:aB):Option Int :=
  Q8 p0 0 0
  partial_fixpoint
end
def rX (p0:(List UInt8)):Option Bool :=
  (some (if (decide (1≤(p0.length:Int)))=true then (decide ((p0.length:Int)≤20)) else false))>>=fun y1=>some y1
def wB (p0:(List UInt8)):Option Bool :=
  (if (true&&((decide (p0=[]))==false))=true then rX p0 else some default)>>=fun y1=>(some (if (decide (p0=[]))=true then true else y1))>>=fun y2=>some y2
mutual
def I6 (p1:(List aB)) (p0:(List aB)) (x17:Int):Option Bool :=
  if (decide (x17<(p0.length:Int)))=true then ((idx p0 x17)>>=fun y1=>(idx p1 x17)>>=fun y2=>(xN y1 y2)>>=fun y3=>if (!y3)=true then (some false) else (I6 p1 p0 (IntKind.wrap .i64 (x17+1)))) else (some true)
  partial_fixpoint
def aHr (p0:(List aB)) (p1:(List aB)):Option Bool :=
  if (!decide ((p0.length:Int)=(p1.length:Int)))=true then (some false) else (I6 p1 p0 0)
  partial_fixpoint
def yU (p0:(List aB)) (p1:(List aB)):Option Bool :=
  (aHr p0 p1)>>=fun y1=>some y1
  partial_fixpoint
def aQb (p0:aR) (p1:aR):Option Bool :=
  (some (if (decide (p0.table=p1.table))=true then (decide (p0.as_=p1.as_)) else false))>>=fun y1=>(if (true&&(y1==true))=true then yU p0.on_ p1.on_ else some default)>>=fun y2=>(some (if y1=true then y2 else false))>>=fun y3=>some y3
  partial_fixpoint
def aDa (p1:(List aR)) (p0:(List aR)) (x17:Int):Option Bool :=
  if (decide (x17<(p0.length:Int)))=true then ((idx p0 x17)>>=fun y1=>(idx p1 x17)>>=fun y2=>(aQb y1 y2)>>=fun y3=>if (!y3)=true then (some false) else (aDa p1 p0 (IntKind.wrap .i64 (x17+1)))) else (some true)
  partial_fixpoint
def aPg (p0:(List aR)) (p1:(List aR)):Option Bool :=
  if (!decide ((p0.length:Int)=(p1.length:Int)))=true then (some false) else (aDa p1 p0 0)
  partial_fixpoint
def aPk (p0:aX) (p1:aX):Option Bool :=
  (if (true&&((p0.desc==p1.desc)==true))=true then xN p0.expr p1.expr else some default)>>=fun y1=>(some (if (p0.desc==p1.desc)=true then y1 else false))>>=fun y2=>some y2
  partial_fixpoint
def aDz (p1:(List aX)) (p0:(List aX)) (x17:Int):Option Bool :=
  if (decide (x17<(p0.length:Int)))=true then ((idx p0 x17)>>=fun y1=>(idx p1 x17)>>=fun y2=>(aPk y1 y2)>>=fun y3=>if (!y3)=true then (some false) else (aDz p1 p0 (IntKind.wrap .i64 (x17+1)))) else (some true)
  partial_fixpoint
def aJy (p0:(List aX)) (p1:(List aX)):Option Bool :=
  if (!decide ((p0.length:Int)=(p1.length:Int)))=true then (some false) else (aDz p1 p0 0)
  partial_fixpoint
def aPl (p0:aZ) (p1:aZ):Option Bool :=
  (some (if (p0.star==p1.star)=true then (decide (p0.qual=p1.qual)) else false))>>=fun y1=>(some (if y1=true then (decide (p0.as_=p1.as_)) else false))>>=fun y2=>(if (true&&(y2==true))=true then xN p0.expr p1.expr else some default)>>=fun y3=>(some (if y2=true then y3 else false))>>=fun y4=>some y4
  partial_fixpoint
def aDg (p1:(List aZ)) (p0:(List aZ)) (x17:Int):Option Bool :=
  if (decide (x17<(p0.length:Int)))=true then ((idx p0 x17)>>=fun y1=>(idx p1 x17)>>=fun y2=>(aPl y1 y2)>>=fun y3=>if (!y3)=true then (some false) else (aDg p1 p0 (IntKind.wrap .i64 (x17+1)))) else (some true)
  partial_fixpoint
def aOq (p0:(List aZ)) (p1:(List aZ)):Option Bool :=
  if (!decide ((p0.length:Int)=(p1.length:Int)))=true then (some false) else (aDg p1 p0 0)
  partial_fixpoint
def aO3 (p0:aJ) (p1:aJ):Option Bool :=
  (some (if (p0.distinct==p1.distinct)=true then (decide (p0.limit=p1.limit)) else false))>>=fun y1=>(if (true&&(y1==true))=true then aOq p0.items p1.items else some default)>>=fun y2=>(some (if y1=true then y2 else false))>>=fun y3=>(if (true&&(y3==true))=true then aPg p0.from_ p1.from_ else some default)>>=fun y4=>(some (if y3=true then y4 else false))>>=fun y5=>(if (true&&(y5==true))=true then yU p0.where_ p1.where_ else some default)>>=fun y6=>(some (if y5=true then y6 else false))>>=fun y7=>(if (true&&(y7==true))=true then aJy p0.order p1.order else some default)>>=fun y8=>(some (if y7=true then y8 else false))>>=fun y9=>some y9
  partial_fixpoint
def Y3 (p1:(List aJ)) (p0:(List aJ)) (x17:Int):Option Bool :=
  if (decide (x17<(p0.length:Int)))=true then ((idx p0 x17)>>=fun y1=>(idx p1 x17)>>=fun y2=>(aO3 y1 y2)>>=fun y3=>if (!y3)=true then (some false) else (Y3 p1 p0 (IntKind.wrap .i64 (x17+1)))) else (some true)
  partial_fixpoint
def aBk (p0:(List aJ)) (p1:(List aJ)):Option Bool :=
  if (!decide ((p0.length:Int)=(p1.length:Int)))=true then (some false) else (Y3 p1 p0 0)
  partial_fixpoint
def xN (p0:aB) (p1:aB):Option Bool :=
  (some (if (decide (p0.kind=p1.kind))=true then (decide (p0.op=p1.op)) else false))>>=fun y1=>(some (if y1=true then (p0.not_==p1.not_) else false))>>=fun y2=>(some (if y2=true then ((decide (p0.value.kind=p1.value.kind))&&((decide (p0.value.num=p1.value.num))&&((decide (p0.value.text=p1.value.text))&&true))) else false))>>=fun y3=>(some (if y3=true then (decide (p0.qual=p1.qual)) else false))>>=fun y4=>(some (if y4=true then (decide (p0.name=p1.name)) else false))>>=fun y5=>(if (true&&(y5==true))=true then yU p0.kids p1.kids else some default)>>=fun y6=>(some (if y5=true then y6 else false))>>=fun y7=>(if (true&&(y7==true))=true then aBk p0.sub p1.sub else some default)>>=fun y8=>(some (if y7=true then y8 else false))>>=fun y9=>some y9
  partial_fixpoint
end
def R6 (p0:aB):Option Bool :=
  (xN p0 (aB.mk 0 0 false (cZ.mk 0 0 []) [] [] ([]:List aB) ([]:List aJ)))>>=fun y1=>some y1
def A8 (p0:cZ):Option Bool :=
  if (decide (p0.kind=0))=true then ((some (if (decide (p0.num=0))=true then (decide (p0.text=[])) else false))>>=fun y1=>some y1) else (if (decide (p0.kind=1))=true then (some (decide (p0.text=[]))) else (if (decide (p0.kind=2))=true then ((some (if (decide (p0.num=0))=true then (decide ((p0.text.length:Int)≤200)) else false))>>=fun y2=>some y2) else (if (decide (p0.kind=3))=true then ((some (if (decide (p0.num=0))=true then true else (decide (p0.num=1))))>>=fun y3=>(some (if y3=true then (decide (p0.text=[])) else false))>>=fun y4=>some y4) else (some false))))
def N9 (p0:cZ):Option Bool :=
  (A8 p0)>>=fun y1=>(if (true&&(y1==true))=true then some (if (!decide (p0.kind=1))=true then true else (decide (0≤p0.num))) else some default)>>=fun y2=>(some (if y1=true then y2 else false))>>=fun y3=>(some (if y3=true then (decide ((p0.text.length:Int)≤40)) else false))>>=fun y4=>some y4
def D9 (p0:aB):Option (iM×Bool) :=
  if (decide (p0.kind=1))=true then ((N9 p0.value)>>=fun y1=>some ((iM.mk false false true false 0 0 0),y1)) else (if (decide (p0.kind=2))=true then ((rX p0.name)>>=fun y2=>(if ((true&&(y2==true))&&((decide (p0.qual=[]))==false))=true then rX p0.qual else some default)>>=fun y3=>(if (true&&(y2==true))=true then some (if (decide (p0.qual=[]))=true then true else y3) else some default)>>=fun y4=>(some (if y2=true then y4 else false))>>=fun y5=>some ((iM.mk false false false true 0 0 0),y5)) else (if (decide (p0.kind=3))=true then ((some (if (decide (p0.op=15))=true then true else (decide (p0.op=16))))>>=fun y6=>some ((iM.mk true false false false 1 1 0),y6)) else (if (decide (p0.kind=4))=true then ((some (if (decide (1≤p0.op))=true then (decide (p0.op≤14)) else false))>>=fun y7=>some ((iM.mk true false false false 2 2 0),y7)) else (if (decide (p0.kind=5))=true then (some ((iM.mk false true false false 1 1 0),true)) else (if (decide (p0.kind=6))=true then (some ((iM.mk false true false false 3 3 0),true)) else (if (decide (p0.kind=7))=true then (some ((iM.mk false true false false 2 9 0),true)) else (if (decide (p0.kind=8))=true then (some ((iM.mk false true false false 1 1 1),true)) else (if (decide (p0.kind=9))=true then (some ((iM.mk false false false false 0 0 1),true)) else (some ((iM.mk false false false false 0 0 0),false))))))))))
mutual
def aBy (p0:aB):Option Bool :=
  (pV p0)>>=fun y1=>some (!y1)
  partial_fixpoint
def yM (p0:(List aB)) (x8:Int):Option Int :=
  if (decide (x8<(p0.length:Int)))=true then ((idx p0 x8)>>=fun y1=>(aBy y1)>>=fun y2=>if y2=true then (some x8) else (yM p0 (IntKind.wrap .i64 (x8+1)))) else (some (-1))
  partial_fixpoint
def aDj (p0:(List aB)):Option Int :=
  yM p0 0
  partial_fixpoint
def aJl (p0:(List aB)):Option Bool :=
  (aDj p0)>>=fun y1=>some (decide (0≤y1))
  partial_fixpoint
def xG (p0:(List aB)):Option Bool :=
  (aJl p0)>>=fun y1=>some (!y1)
  partial_fixpoint
def yF (p0:aJ) (x92:Int):Option Bool :=
  if (decide (x92<(p0.from_.length:Int)))=true then ((idx p0.from_ x92)>>=fun y17=>(rX y17.table)>>=fun y18=>(if (true&&((!y18)==false))=true then wB y17.as_ else some default)>>=fun y19=>(some (if (!y18)=true then true else (!y19)))>>=fun y20=>(some (if y20=true then true else (decide (1<(y17.on_.length:Int)))))>>=fun y21=>(if (true&&(y21==false))=true then some (if (decide (x92=0))=true then (decide (0<(y17.on_.length:Int))) else false) else some default)>>=fun y22=>(some (if y21=true then true else y22))>>=fun y23=>if y23=true then (some false) else (yF p0 (IntKind.wrap .i64 (x92+1)))) else ((xO p0)>>=fun y24=>(xG y24)>>=fun y25=>some y25)
  partial_fixpoint
def E5 (p0:aJ) (x49:Int):Option Bool :=
  if (decide (x49<(p0.items.length:Int)))=true then ((idx p0.items x49)>>=fun y7=>(if (true&&(y7.star==true))=true then wB y7.qual else some default)>>=fun y8=>(if (true&&(y7.star==true))=true then some (if (!y8)=true then true else (!decide (y7.as_=[]))) else some default)>>=fun y9=>(if ((true&&(y7.star==true))&&(y9==false))=true then R6 y7.expr else some default)>>=fun y10=>(if (true&&(y7.star==true))=true then some (if y9=true then true else (!y10)) else some default)>>=fun y11=>(some (if y7.star=true then y11 else false))>>=fun y12=>(if (((true&&(y12==false))&&((!y7.star)==true))&&((!decide (y7.qual=[]))==false))=true then wB y7.as_ else some default)>>=fun y13=>(if ((true&&(y12==false))&&((!y7.star)==true))=true then some (if (!decide (y7.qual=[]))=true then true else (!y13)) else some default)>>=fun y14=>(if (true&&(y12==false))=true then some (if (!y7.star)=true then y14 else false) else some default)>>=fun y15=>(some (if y12=true then true else y15))>>=fun y16=>if y16=true then (some false) else (E5 p0 (IntKind.wrap .i64 (x49+1)))) else (yF p0 0)
  partial_fixpoint
def U0 (p0:aJ):Option Bool :=
  (some (if (decide ((p0.items.length:Int)<1))=true then true else (decide (12<(p0.items.length:Int)))))>>=fun y1=>(some (if y1=true then true else (decide ((p0.from_.length:Int)<1))))>>=fun y2=>(some (if y2=true then true else (decide (3<(p0.from_.length:Int)))))>>=fun y3=>(some (if y3=true then true else (decide (1<(p0.where_.length:Int)))))>>=fun y4=>(some (if y4=true then true else (decide (12<(p0.order.length:Int)))))>>=fun y5=>(some (if y5=true then true else (decide (p0.limit<(-1)))))>>=fun y6=>if y6=true then (some false) else (E5 p0 0)
  partial_fixpoint
def aIg (p0:aJ):Option Bool :=
  (U0 p0)>>=fun y1=>some (!y1)
  partial_fixpoint
def zH (p0:(List aJ)) (x8:Int):Option Int :=
  if (decide (x8<(p0.length:Int)))=true then ((idx p0 x8)>>=fun y1=>(aIg y1)>>=fun y2=>if y2=true then (some x8) else (zH p0 (IntKind.wrap .i64 (x8+1)))) else (some (-1))
  partial_fixpoint
def aAk (p0:(List aJ)):Option Int :=
  zH p0 0
  partial_fixpoint
def zG (p0:(List aJ)):Option Bool :=
  (aAk p0)>>=fun y1=>some (decide (0≤y1))
  partial_fixpoint
def pV (p0:aB):Option Bool :=
  (D9 p0)>>=fun y1=>(if (true&&((!y1.2)==false))=true then some (if (!y1.1.op)=true then (!decide (p0.op=0)) else false) else some default)>>=fun y2=>(some (if (!y1.2)=true then true else y2))>>=fun y3=>(if (true&&(y3==false))=true then some (if (!y1.1.not_)=true then p0.not_ else false) else some default)>>=fun y4=>(some (if y3=true then true else y4))>>=fun y5=>(if (true&&(y5==false))=true then some (if (!y1.1.value)=true then (!((decide (p0.value.kind=0))&&((decide (p0.value.num=0))&&((decide (p0.value.text=[]))&&true)))) else false) else some default)>>=fun y6=>(some (if y5=true then true else y6))>>=fun y7=>(if ((true&&(y7==false))&&((!y1.1.name)==true))=true then some (if (!decide (p0.qual=[]))=true then true else (!decide (p0.name=[]))) else some default)>>=fun y8=>(if (true&&(y7==false))=true then some (if (!y1.1.name)=true then y8 else false) else some default)>>=fun y9=>(some (if y7=true then true else y9))>>=fun y10=>if y10=true then (some false) else ((some (if (decide ((p0.kids.length:Int)<y1.1.least))=true then true else (decide (y1.1.most<(p0.kids.length:Int)))))>>=fun y11=>(some (if y11=true then true else (!decide ((p0.sub.length:Int)=y1.1.subs))))>>=fun y12=>if y12=true then (some false) else ((xG p0.kids)>>=fun y13=>(if (true&&(y13==true))=true then zG p0.sub else some default)>>=fun y14=>(some (if y13=true then (!y14) else false))>>=fun y15=>some y15))
  partial_fixpoint
end
def aEk (p0:Int) (p1:Int):Option Bool :=
  (some (if (decide (p0≤24))=true then (decide (p1≤200)) else false))>>=fun y1=>some y1
mutual
def wT (p0:aJ):Option Int :=
  (xO p0)>>=fun y1=>(I8 y1)>>=fun y2=>some y2
  partial_fixpoint
def O4 (p0:aB) (x3:Int) (x13:Int):Option Int :=
  if (decide (x13<(p0.sub.length:Int)))=true then ((idx p0.sub x13)>>=fun y2=>(wT y2)>>=fun y3=>O4 p0 (IntKind.wrap .i64 (x3+y3)) (IntKind.wrap .i64 (x13+1))) else (some x3)
  partial_fixpoint
def K7 (p0:(List aB)) (x3:Int) (x8:Int):Option Int :=
  if (decide (x8<(p0.length:Int)))=true then ((idx p0 x8)>>=fun y1=>(qF y1)>>=fun y2=>K7 p0 (IntKind.wrap .i64 (x3+y2)) (IntKind.wrap .i64 (x8+1))) else (some x3)
  partial_fixpoint
def I8 (p0:(List aB)):Option Int :=
  K7 p0 0 0
  partial_fixpoint
def qF (p0:aB):Option Int :=
  (I8 p0.kids)>>=fun y1=>O4 p0 (IntKind.wrap .i64 (1+y1)) 0
  partial_fixpoint
end
def aCb (p0:aB):Option Bool :=
  (pG p0)>>=fun y1=>(qF p0)>>=fun y2=>(aEk y1 y2)>>=fun y3=>(if (true&&(y3==true))=true then pV p0 else some default)>>=fun y4=>(some (if y3=true then y4 else false))>>=fun y5=>some y5
def vC (c0_0:(List aA)) (c0_1:Bool) (p1:Int) (p2:(List UInt8)):Option (Bool×(List aA)) :=
  (appG 32 c0_0 ([(aA.mk p1 p2 0)]:List aA))>>=fun y1=>some (c0_1,y1)
def jP (c0_0:(List aA)) (c0_1:Bool) (p1:(List UInt8)):Option (Bool×(List aA)) :=
  (vC c0_0 c0_1 5 p1)>>=fun y1=>some (y1.1,y1.2)
def nD (c0_0:(List aA)) (c0_1:Bool) (p1:Int):Option (Bool×(List aA)) :=
  if (decide (0<p1))=true then ((jP c0_0 c0_1 [44])>>=fun y1=>some (y1.1,y1.2)) else (some (c0_1,c0_0))
def V3 (x20:Bool):Option Int :=
  if x20=true then (some 7) else (some 0)
def aAd (p0:Int) (x17:Bool):Option Int :=
  if x17=true then (some 6) else (if (decide (p0=12))=true then (V3 (decide (p0=12))) else (if (decide (p0=13))=true then (V3 (decide (p0=13))) else (V3 (decide (p0=14)))))
def uU (p0:Int) (x8:Bool):Option Int :=
  if x8=true then (some 4) else (if (decide (p0=9))=true then (some 5) else (if (decide (p0=10))=true then (aAd p0 (decide (p0=10))) else (aAd p0 (decide (p0=11)))))
def aBl (p0:Int):Option Int :=
  if (decide (p0=1))=true then (some 1) else (if (decide (p0=2))=true then (some 2) else (if (decide (p0=3))=true then (uU p0 (decide (p0=3))) else (if (decide (p0=4))=true then (uU p0 (decide (p0=4))) else (if (decide (p0=5))=true then (uU p0 (decide (p0=5))) else (if (decide (p0=6))=true then (uU p0 (decide (p0=6))) else (if (decide (p0=7))=true then (uU p0 (decide (p0=7))) else (uU p0 (decide (p0=8)))))))))
def aCh:Option Int :=
  some 0
def Q3 (x23:Bool):Option Int :=
  if x23=true then (some 9) else (aCh)
def zV (p0:aB) (x18:Bool):Option Int :=
  if x18=true then (some 4) else (if (decide (p0.kind=1))=true then (Q3 (decide (p0.kind=1))) else (if (decide (p0.kind=2))=true then (Q3 (decide (p0.kind=2))) else (Q3 (decide (p0.kind=9)))))
def E9 (p0:aB):Option Int :=
  if (decide (p0.kind=4))=true then ((aBl p0.op)>>=fun y1=>some y1) else (if (decide (p0.kind=3))=true then (if (decide (p0.op=15))=true then (some 3) else (if (decide (p0.op=16))=true then (some 8) else (aCh))) else (if (decide (p0.kind=5))=true then (zV p0 (decide (p0.kind=5))) else (if (decide (p0.kind=6))=true then (zV p0 (decide (p0.kind=6))) else (if (decide (p0.kind=7))=true then (zV p0 (decide (p0.kind=7))) else (zV p0 (decide (p0.kind=8)))))))
def aA8:Option Int :=
  some 5
def aB3 (p0:aB) (p1:Int):Option Int :=
  (E9 p0)>>=fun y1=>(some (if (decide (p1<0))=true then true else (decide ((p0.kids.length:Int)≤p1))))>>=fun y2=>(some (if y2=true then true else (decide (y1=0))))>>=fun y3=>(some (if y3=true then true else (decide (y1=9))))>>=fun y4=>if y4=true then (some 0) else (if (decide (p0.kind=4))=true then (if (decide (y1=4))=true then (some 5) else (some (IntKind.wrap .i64 (y1+(if 1<p1 then 1 else p1))))) else (if (decide (p0.kind=3))=true then (some y1) else (if (decide (p0.kind=7))=true then (if (decide (0<p1))=true then (some 1) else (aA8)) else (aA8))))
def aAj (p0:aB) (p1:Int):Option Bool :=
  (some (if (decide (0≤p1))=true then (decide (p1<(p0.kids.length:Int))) else false))>>=fun y1=>(if (true&&(y1==true))=true then idx p0.kids p1 else some default)>>=fun y2=>(if (true&&(y1==true))=true then E9 y2 else some default)>>=fun y3=>(if (true&&(y1==true))=true then aB3 p0 p1 else some default)>>=fun y4=>(some (if y1=true then (decide (y3<y4)) else false))>>=fun y5=>some y5
def aB9 (p0:(List UInt8)) (p1:(List UInt8)):Option (List (List UInt8)) :=
  G6 p0 p1
def oJ (y1:(List (List UInt8))) (x9:Int) (dI:Bool) (kJ:(List aA)):Option (Bool×(List aA)) :=
  if (decide (x9<(y1.length:Int)))=true then ((idx y1 x9)>>=fun y2=>(vC kJ dI 1 y2)>>=fun y3=>oJ y1 (IntKind.wrap .i64 (x9+1)) y3.1 y3.2) else (some (dI,kJ))
  partial_fixpoint
def dC (c0_0:(List aA)) (c0_1:Bool) (p1:(List UInt8)):Option (Bool×(List aA)) :=
  (aB9 p1 [32])>>=fun y1=>oJ y1 0 c0_1 c0_0
def aAn (p0:Int):Option (List UInt8) :=
  some (Lib.itoa p0)
def yC (p0:Int):Option (List UInt8) :=
  (aAn p0)>>=fun y1=>some y1
def aNz (p0:(List UInt8)) (p1:(List UInt8)) (p2:(List UInt8)):Option (List UInt8) :=
  aKi p0 p1 p2
def aOz (p0:(List UInt8)) (p1:(List UInt8)):Option (List UInt8) :=
  (lV p1 p1)>>=fun y1=>(aNz p0 p1 y1)>>=fun y2=>(lV p1 y2)>>=fun y3=>(lV y3 p1)>>=fun y4=>some y4
def aMw (p0:(List UInt8)):Option (List UInt8) :=
  (aOz p0 [39])>>=fun y1=>some y1
def vG (p0:cZ):Option (List UInt8) :=
  (A8 p0)>>=fun y1=>if (!y1)=true then (some [63]) else (if (decide (p0.kind=1))=true then ((yC p0.num)>>=fun y2=>some y2) else (if (decide (p0.kind=2))=true then ((aMw p0.text)>>=fun y3=>some y3) else (if (decide (p0.kind=3))=true then (if (decide (p0.num=1))=true then (some [84,82,85,69]) else (some [70,65,76,83,69])) else (some [78,85,76,76]))))
def aAb (c0_0:(List aA)) (c0_1:Bool) (p1:cZ):Option (Bool×(List aA)) :=
  if (decide (p1.kind=1))=true then ((yC p1.num)>>=fun y1=>(vC c0_0 c0_1 3 y1)>>=fun y2=>some (y2.1,y2.2)) else (if (decide (p1.kind=2))=true then ((vC c0_0 c0_1 4 p1.text)>>=fun y3=>some (y3.1,y3.2)) else ((vG p1)>>=fun y4=>(dC c0_0 c0_1 y4)>>=fun y5=>some (y5.1,y5.2)))
def qC (c0_0:(List aA)) (c0_1:Bool) (p1:(List UInt8)):Option (Bool×(List aA)) :=
  (vC c0_0 c0_1 2 p1)>>=fun y1=>some (y1.1,y1.2)
def nW (c0_0:(List aA)) (c0_1:Bool) (p1:Bool):Option (Bool×(List aA)) :=
  if p1=true then ((dC c0_0 c0_1 [78,79,84])>>=fun y1=>some (y1.1,y1.2)) else (some (c0_1,c0_0))
def aBi (p0:Int):Option (List UInt8) :=
  (some (if (decide (p0<1))=true then true else (decide (16<p0))))>>=fun y1=>if y1=true then (some []) else ((idx ([[79,82],[65,78,68],[61],[60,62],[60],[60,61],[62],[62,61],[124,124],[43],[45],[42],[47],[37],[78,79,84],[45]]:List (List UInt8)) (IntKind.wrap .i64 (p0 - 1)))>>=fun y2=>some y2)
def rH (c0_0:(List aA)) (c0_1:Bool) (p1:Int):Option (Bool×(List aA)) :=
  (some (if (decide (p1=1))=true then true else (decide (p1=2))))>>=fun y1=>(some (if y1=true then true else (decide (p1=15))))>>=fun y2=>if y2=true then ((aBi p1)>>=fun y3=>(dC c0_0 c0_1 y3)>>=fun y4=>some (y4.1,y4.2)) else ((aBi p1)>>=fun y5=>(jP c0_0 c0_1 y5)>>=fun y6=>some (y6.1,y6.2))
def xI (c0_0:(List aA)) (c0_1:Bool) (p1:(List UInt8)):Option (Bool×(List aA)) :=
  if (!decide (p1=[]))=true then ((qC c0_0 c0_1 p1)>>=fun y1=>(jP y1.2 y1.1 [46])>>=fun y2=>some (y2.1,y2.2)) else (some (c0_1,c0_0))
def uE (c0_0:(List aA)) (c0_1:Bool) (p1:(List UInt8)):Option (Bool×(List aA)) :=
  if (!decide (p1=[]))=true then ((dC c0_0 c0_1 [65,83])>>=fun y1=>(qC y1.2 y1.1 p1)>>=fun y2=>some (y2.1,y2.2)) else (some (c0_1,c0_0))
mutual
def wK (c0_0:(List aA)) (c0_1:Bool) (p1:(List aB)):Option (Bool×(List aA)) :=
  if (decide (0<(p1.length:Int)))=true then ((dC c0_0 c0_1 [87,72,69,82,69])>>=fun y1=>(idx p1 0)>>=fun y2=>(gQ y1.2 y1.1 y2)>>=fun y3=>some (y3.1,y3.2)) else (some (c0_1,c0_0))
  partial_fixpoint
def wC (p2:aR) (dI:Bool) (mF:(List aA)):Option (Bool×(List aA)) :=
  (qC mF dI p2.table)>>=fun y4=>(uE y4.2 y4.1 p2.as_)>>=fun y5=>if (decide (0<(p2.on_.length:Int)))=true then ((dC y5.2 y5.1 [79,78])>>=fun y6=>(idx p2.on_ 0)>>=fun y7=>(gQ y6.2 y6.1 y7)>>=fun y8=>some (y8.1,y8.2)) else (some (y5.1,y5.2))
  partial_fixpoint
def F4 (c0_0:(List aA)) (c0_1:Bool) (p1:Int) (p2:aR):Option (Bool×(List aA)) :=
  (some (if (decide (0<p1))=true then (decide (0<(p2.on_.length:Int))) else false))>>=fun y1=>if y1=true then ((dC c0_0 c0_1 [74,79,73,78])>>=fun y2=>wC p2 y2.1 y2.2) else ((nD c0_0 c0_1 p1)>>=fun y3=>wC p2 y3.1 y3.2)
  partial_fixpoint
def Y2 (p1:aJ) (x66:Int) (mR:Bool) (mJ:(List aA)):Option (Bool×(List aA)) :=
  jA p1 (IntKind.wrap .i64 (x66+1)) mR mJ
  partial_fixpoint
def P8 (x66:Int) (p1:aJ) (y17:aX) (lF:Bool) (mZ:(List aA)):Option (Bool×(List aA)) :=
  (nD mZ lF x66)>>=fun y23=>(gQ y23.2 y23.1 y17.expr)>>=fun y24=>if y17.desc=true then ((dC y24.2 y24.1 [68,69,83,67])>>=fun y25=>Y2 p1 x66 y25.1 y25.2) else (Y2 p1 x66 y24.1 y24.2)
  partial_fixpoint
def jA (p1:aJ) (x66:Int) (iY:Bool) (jC:(List aA)):Option (Bool×(List aA)) :=
  if (decide (x66<(p1.order.length:Int)))=true then ((idx p1.order x66)>>=fun y17=>if (decide (x66=0))=true then ((dC jC iY [79,82,68,69,82,32,66,89])>>=fun y18=>P8 x66 p1 y17 y18.1 y18.2) else (P8 x66 p1 y17 iY jC)) else (if (decide (0≤p1.limit))=true then ((dC jC iY [76,73,77,73,84])>>=fun y20=>(yC p1.limit)>>=fun y21=>(vC y20.2 y20.1 3 y21)>>=fun y22=>some (y22.1,y22.2)) else (some (iY,jC)))
  partial_fixpoint
def sN (p1:aJ) (x49:Int) (kN:Bool) (kZ:(List aA)):Option (Bool×(List aA)) :=
  if (decide (x49<(p1.from_.length:Int)))=true then ((idx p1.from_ x49)>>=fun y13=>(F4 kZ kN x49 y13)>>=fun y14=>sN p1 (IntKind.wrap .i64 (x49+1)) y14.1 y14.2) else ((wK kZ kN p1.where_)>>=fun y15=>jA p1 0 y15.1 y15.2)
  partial_fixpoint
def Q9 (p1:aJ) (x19:Int) (lX:Bool) (mW:(List aA)):Option (Bool×(List aA)) :=
  nY p1 (IntKind.wrap .i64 (x19+1)) lX mW
  partial_fixpoint
def nY (p1:aJ) (x19:Int) (kX:Bool) (kR:(List aA)):Option (Bool×(List aA)) :=
  if (decide (x19<(p1.items.length:Int)))=true then ((idx p1.items x19)>>=fun y4=>(nD kR kX x19)>>=fun y5=>if y4.star=true then ((xI y5.2 y5.1 y4.qual)>>=fun y6=>(jP y6.2 y6.1 [42])>>=fun y7=>Q9 p1 x19 y7.1 y7.2) else ((gQ y5.2 y5.1 y4.expr)>>=fun y9=>(uE y9.2 y9.1 y4.as_)>>=fun y10=>Q9 p1 x19 y10.1 y10.2)) else ((dC kR kX [70,82,79,77])>>=fun y11=>sN p1 0 y11.1 y11.2)
  partial_fixpoint
def R7 (p1:aJ) (dI:Bool) (lG:(List aA)):Option (Bool×(List aA)) :=
  nY p1 0 dI lG
  partial_fixpoint
def yI (c0_0:(List aA)) (c0_1:Bool) (p1:aJ):Option (Bool×(List aA)) :=
  (dC c0_0 c0_1 [83,69,76,69,67,84])>>=fun y1=>if p1.distinct=true then ((dC y1.2 y1.1 [68,73,83,84,73,78,67,84])>>=fun y2=>R7 p1 y2.1 y2.2) else (R7 p1 y1.1 y1.2)
  partial_fixpoint
def wI (c0_0:(List aA)) (c0_1:Bool) (p1:aJ):Option (Bool×(List aA)) :=
  (jP c0_0 c0_1 [40])>>=fun y1=>(yI y1.2 y1.1 p1)>>=fun y2=>(jP y2.2 y2.1 [41])>>=fun y3=>some (y3.1,y3.2)
  partial_fixpoint
def iX (c0_0:(List aA)) (c0_1:Bool) (p1:aB) (p2:Int):Option (Bool×(List aA)) :=
  (aAj p1 p2)>>=fun y1=>(if ((true&&((!y1)==true))&&(c0_1==true))=true then idx p1.kids p2 else some default)>>=fun y2=>(if ((true&&((!y1)==true))&&(c0_1==true))=true then E9 y2 else some default)>>=fun y3=>(if (true&&((!y1)==true))=true then some (if c0_1=true then (!decide (y3=9)) else false) else some default)>>=fun y4=>(some (if (!y1)=true then (!y4) else false))>>=fun y5=>if y5=true then ((idx p1.kids p2)>>=fun y6=>(gQ c0_0 c0_1 y6)>>=fun y7=>some (y7.1,y7.2)) else ((jP c0_0 c0_1 [40])>>=fun y8=>(idx p1.kids p2)>>=fun y9=>(gQ y8.2 y8.1 y9)>>=fun y10=>(jP y10.2 y10.1 [41])>>=fun y11=>some (y11.1,y11.2))
  partial_fixpoint
def sQ (p1:aB) (x4:Int) (dI:Bool) (kP:(List aA)):Option (Bool×(List aA)) :=
  if (decide (x4<(p1.kids.length:Int)))=true then ((nD kP dI (IntKind.wrap .i64 (x4 - 1)))>>=fun y27=>(iX y27.2 y27.1 p1 x4)>>=fun y28=>sQ p1 (IntKind.wrap .i64 (x4+1)) y28.1 y28.2) else ((jP kP dI [41])>>=fun y29=>some (y29.1,y29.2))
  partial_fixpoint
def gQ (c0_0:(List aA)) (c0_1:Bool) (p1:aB):Option (Bool×(List aA)) :=
  if (decide (p1.kind=1))=true then ((aAb c0_0 c0_1 p1.value)>>=fun y1=>some (y1.1,y1.2)) else (if (decide (p1.kind=2))=true then ((xI c0_0 c0_1 p1.qual)>>=fun y2=>(qC y2.2 y2.1 p1.name)>>=fun y3=>some (y3.1,y3.2)) else (if (decide (p1.kind=3))=true then ((rH c0_0 c0_1 p1.op)>>=fun y4=>(iX y4.2 y4.1 p1 0)>>=fun y5=>some (y5.1,y5.2)) else (if (decide (p1.kind=9))=true then ((dC c0_0 c0_1 [69,88,73,83,84,83])>>=fun y6=>(idx p1.sub 0)>>=fun y7=>(wI y6.2 y6.1 y7)>>=fun y8=>some (y8.1,y8.2)) else ((iX c0_0 c0_1 p1 0)>>=fun y9=>if (decide (p1.kind=4))=true then ((rH y9.2 y9.1 p1.op)>>=fun y10=>(iX y10.2 y10.1 p1 1)>>=fun y11=>some (y11.1,y11.2)) else (if (decide (p1.kind=5))=true then ((dC y9.2 y9.1 [73,83])>>=fun y12=>(nW y12.2 y12.1 p1.not_)>>=fun y13=>(dC y13.2 y13.1 [78,85,76,76])>>=fun y14=>some (y14.1,y14.2)) else (if (decide (p1.kind=6))=true then ((nW y9.2 y9.1 p1.not_)>>=fun y15=>(dC y15.2 y15.1 [66,69,84,87,69,69,78])>>=fun y16=>(iX y16.2 y16.1 p1 1)>>=fun y17=>(dC y17.2 y17.1 [65,78,68])>>=fun y18=>(iX y18.2 y18.1 p1 2)>>=fun y19=>some (y19.1,y19.2)) else (if (decide (p1.kind=8))=true then ((nW y9.2 y9.1 p1.not_)>>=fun y20=>(dC y20.2 y20.1 [73,78])>>=fun y21=>(idx p1.sub 0)>>=fun y22=>(wI y21.2 y21.1 y22)>>=fun y23=>some (y23.1,y23.2)) else (if (decide (p1.kind=7))=true then ((nW y9.2 y9.1 p1.not_)>>=fun y24=>(dC y24.2 y24.1 [73,78])>>=fun y25=>(jP y25.2 y25.1 [40])>>=fun y26=>sQ p1 1 y26.1 y26.2) else (some (y9.1,y9.2))))))))))
  partial_fixpoint
end
def J8 (p0:aB):Option (List aA) :=
  (aCb p0)>>=fun y1=>if (!y1)=true then (some ([]:List aA)) else ((gQ ([]:List aA) false p0)>>=fun y2=>some y2.2)
def tN (p0:Int) (p1:Int):Option Int :=
  if (decide (p1<p0))=true then (some p0) else (some p1)
def xC (p0:aJ) (jG:(List aB)) (x6:Int):Option (List aB) :=
  if (decide (x6<(p0.order.length:Int)))=true then ((idx p0.order x6)>>=fun y10=>(appG 136 jG ([y10.expr]:List aB))>>=fun y11=>xC p0 y11 (IntKind.wrap .i64 (x6+1))) else (some jG)
  partial_fixpoint
def vX (p0:aJ) (kW:(List aB)) (x5:Int):Option (List aB) :=
  if (decide (x5<(p0.from_.length:Int)))=true then ((idx p0.from_ x5)>>=fun y6=>(appG 136 kW y6.on_)>>=fun y7=>vX p0 y7 (IntKind.wrap .i64 (x5+1))) else ((appG 136 kW p0.where_)>>=fun y8=>xC p0 y8 0)
  partial_fixpoint
mutual
def K5 (x4:Int) (p0:aJ) (dX:(List aB)):Option (List aB) :=
  P6 p0 dX (IntKind.wrap .i64 (x4+1))
  partial_fixpoint
def P6 (p0:aJ) (x3:(List aB)) (x4:Int):Option (List aB) :=
  if (decide (x4<(p0.items.length:Int)))=true then ((idx p0.items x4)>>=fun y1=>if (!y1.star)=true then ((idx p0.items x4)>>=fun y2=>(appG 136 x3 ([y2.expr]:List aB))>>=fun y3=>K5 x4 p0 y3) else (K5 x4 p0 x3)) else (vX p0 x3 0)
  partial_fixpoint
end
def yQ (p0:aJ):Option (List aB) :=
  P6 p0 ([]:List aB) 0
mutual
def C9 (y1:(List aB)) (x3:Int) (x5:Int):Option Int :=
  if (decide (x5<(y1.length:Int)))=true then ((idx y1 x5)>>=fun y2=>(nQ y2)>>=fun y3=>(tN x3 y3)>>=fun y4=>C9 y1 y4 (IntKind.wrap .i64 (x5+1))) else (some x3)
  partial_fixpoint
def A9 (p0:aJ):Option Int :=
  (yQ p0)>>=fun y1=>C9 y1 0 0
  partial_fixpoint
def zX (p0:aB) (dX:Int) (x5:Int):Option Int :=
  if (decide (x5<(p0.sub.length:Int)))=true then ((idx p0.sub x5)>>=fun y5=>(A9 y5)>>=fun y6=>(tN dX y6)>>=fun y7=>zX p0 y7 (IntKind.wrap .i64 (x5+1))) else (some (IntKind.wrap .i64 (dX+1)))
  partial_fixpoint
def M7 (p0:aB) (x3:Int) (x4:Int):Option Int :=
  if (decide (x4<(p0.kids.length:Int)))=true then ((idx p0.kids x4)>>=fun y1=>(nQ y1)>>=fun y2=>(tN x3 y2)>>=fun y3=>M7 p0 y3 (IntKind.wrap .i64 (x4+1))) else (zX p0 x3 0)
  partial_fixpoint
def nQ (p0:aB):Option Int :=
  M7 p0 0 0
  partial_fixpoint
end
mutual
def wP (x6:Int) (y7:(List aB)) (p0:aB) (jY:Int) (x8:Int):Option Int :=
  (some (if (decide (x8<(y7.length:Int)))=true then (decide (0≤jY)) else false))>>=fun y9=>if y9=true then ((idx y7 x8)>>=fun y10=>(vR y10 jY)>>=fun y11=>wP x6 y7 p0 y11 (IntKind.wrap .i64 (x8+1))) else (uX p0 jY (IntKind.wrap .i64 (x6+1)))
  partial_fixpoint
def uX (p0:aB) (jZ:Int) (x6:Int):Option Int :=
  (some (if (decide (x6<(p0.sub.length:Int)))=true then (decide (0≤jZ)) else false))>>=fun y5=>if y5=true then ((idx p0.sub x6)>>=fun y6=>(yQ y6)>>=fun y7=>wP x6 y7 p0 jZ 0) else (some jZ)
  partial_fixpoint
def yB (p0:aB) (x1:Int) (x5:Int):Option Int :=
  (some (if (decide (x5<(p0.kids.length:Int)))=true then (decide (0≤x1)) else false))>>=fun y1=>if y1=true then ((idx p0.kids x5)>>=fun y2=>(vR y2 x1)>>=fun y3=>yB p0 y3 (IntKind.wrap .i64 (x5+1))) else (uX p0 x1 0)
  partial_fixpoint
def vR (p0:aB) (p1:Int):Option Int :=
  yB p0 (IntKind.wrap .i64 (p1 - 1)) 0
  partial_fixpoint
end
def iZ (p0:Int) (p1:Int) (p2:Int):Option Bool :=
  (some (if (decide (p1≤p0))=true then (decide (p0≤p2)) else false))>>=fun y1=>some y1
def oQ (p0:(List UInt8)):Option Bool :=
  (iZ (p0.length:Int) 1 20)>>=fun y1=>some y1
def nC (p0:(List UInt8)):Option Bool :=
  (if (true&&((decide (p0=[]))==false))=true then oQ p0 else some default)>>=fun y1=>(some (if (decide (p0=[]))=true then true else y1))>>=fun y2=>some y2
mutual
def Y6 (p0:aJ) (p1:aJ) (x11:Int):Option Bool :=
  if (decide (x11<(p0.order.length:Int)))=true then ((idx p0.order x11)>>=fun y18=>(idx p1.order x11)>>=fun y19=>(if (true&&((!(y18.desc==y19.desc))==false))=true then idx p0.order x11 else some default)>>=fun y20=>(if (true&&((!(y18.desc==y19.desc))==false))=true then idx p1.order x11 else some default)>>=fun y21=>(if (true&&((!(y18.desc==y19.desc))==false))=true then tQ y20.expr y21.expr else some default)>>=fun y22=>(some (if (!(y18.desc==y19.desc))=true then true else (!y22)))>>=fun y23=>if y23=true then (some false) else (Y6 p0 p1 (IntKind.wrap .i64 (x11+1)))) else (some true)
  partial_fixpoint
def aHl (p0:aJ) (p1:aJ) (x8:Int):Option Bool :=
  if (decide (x8<(p0.from_.length:Int)))=true then ((idx p0.from_ x8)>>=fun y13=>(idx p1.from_ x8)>>=fun y14=>(some (if (!decide (y13.table=y14.table))=true then true else (!decide (y13.as_=y14.as_))))>>=fun y15=>(if (true&&(y15==false))=true then yJ y13.on_ y14.on_ else some default)>>=fun y16=>(some (if y15=true then true else (!y16)))>>=fun y17=>if y17=true then (some false) else (aHl p0 p1 (IntKind.wrap .i64 (x8+1)))) else (Y6 p0 p1 0)
  partial_fixpoint
def aJj (p0:aJ) (p1:aJ) (x5:Int):Option Bool :=
  if (decide (x5<(p0.items.length:Int)))=true then ((idx p0.items x5)>>=fun y7=>(idx p1.items x5)>>=fun y8=>(some (if (!(y7.star==y8.star))=true then true else (!decide (y7.qual=y8.qual))))>>=fun y9=>(some (if y9=true then true else (!decide (y7.as_=y8.as_))))>>=fun y10=>(if (true&&(y10==false))=true then tQ y7.expr y8.expr else some default)>>=fun y11=>(some (if y10=true then true else (!y11)))>>=fun y12=>if y12=true then (some false) else (aJj p0 p1 (IntKind.wrap .i64 (x5+1)))) else (aHl p0 p1 0)
  partial_fixpoint
def aOw (p0:aJ) (p1:aJ):Option Bool :=
  (some (if (!(p0.distinct==p1.distinct))=true then true else (!decide (p0.limit=p1.limit))))>>=fun y1=>(some (if y1=true then true else (!decide ((p0.items.length:Int)=(p1.items.length:Int)))))>>=fun y2=>(some (if y2=true then true else (!decide ((p0.from_.length:Int)=(p1.from_.length:Int)))))>>=fun y3=>(some (if y3=true then true else (!decide ((p0.order.length:Int)=(p1.order.length:Int)))))>>=fun y4=>(if (true&&(y4==false))=true then yJ p0.where_ p1.where_ else some default)>>=fun y5=>(some (if y4=true then true else (!y5)))>>=fun y6=>if y6=true then (some false) else (aJj p0 p1 0)
  partial_fixpoint
def U7 (p0:aB) (p1:aB) (x5:Int):Option Bool :=
  if (decide (x5<(p0.sub.length:Int)))=true then ((idx p0.sub x5)>>=fun y9=>(idx p1.sub x5)>>=fun y10=>(aOw y9 y10)>>=fun y11=>if (!y11)=true then (some false) else (U7 p0 p1 (IntKind.wrap .i64 (x5+1)))) else (some true)
  partial_fixpoint
def aAf (p0:(List aB)) (p1:(List aB)) (x5:Int):Option Bool :=
  if (decide (x5<(p0.length:Int)))=true then ((idx p0 x5)>>=fun y1=>(idx p1 x5)>>=fun y2=>(tQ y1 y2)>>=fun y3=>if (!y3)=true then (some false) else (aAf p0 p1 (IntKind.wrap .i64 (x5+1)))) else (some true)
  partial_fixpoint
def yJ (p0:(List aB)) (p1:(List aB)):Option Bool :=
  if (!decide ((p0.length:Int)=(p1.length:Int)))=true then (some false) else (aAf p0 p1 0)
  partial_fixpoint
def tQ (p0:aB) (p1:aB):Option Bool :=
  (some (if (!decide (p0.kind=p1.kind))=true then true else (!decide (p0.op=p1.op))))>>=fun y1=>(some (if y1=true then true else (!(p0.not_==p1.not_))))>>=fun y2=>(some (if y2=true then true else (!((decide (p0.value.kind=p1.value.kind))&&((decide (p0.value.num=p1.value.num))&&((decide (p0.value.text=p1.value.text))&&true))))))>>=fun y3=>(some (if y3=true then true else (!decide (p0.qual=p1.qual))))>>=fun y4=>(some (if y4=true then true else (!decide (p0.name=p1.name))))>>=fun y5=>(some (if y5=true then true else (!decide ((p0.sub.length:Int)=(p1.sub.length:Int)))))>>=fun y6=>(if (true&&(y6==false))=true then yJ p0.kids p1.kids else some default)>>=fun y7=>(some (if y6=true then true else (!y7)))>>=fun y8=>if y8=true then (some false) else (U7 p0 p1 0)
  partial_fixpoint
end
def Q5 (p0:cZ):Option Bool :=
  if (decide (p0.kind=0))=true then ((some (if (decide (p0.num=0))=true then (decide (p0.text=[])) else false))>>=fun y1=>some y1) else (if (decide (p0.kind=1))=true then (some (decide (p0.text=[]))) else (if (decide (p0.kind=2))=true then ((some (if (decide (p0.num=0))=true then (decide ((p0.text.length:Int)≤200)) else false))>>=fun y2=>some y2) else (if (decide (p0.kind=3))=true then ((iZ p0.num 0 1)>>=fun y3=>(some (if y3=true then (decide (p0.text=[])) else false))>>=fun y4=>some y4) else (some false))))
def uN (p0:cZ):Option Bool :=
  (Q5 p0)>>=fun y1=>(if (true&&(y1==true))=true then some (if (!decide (p0.kind=1))=true then true else (decide (0≤p0.num))) else some default)>>=fun y2=>(some (if y1=true then y2 else false))>>=fun y3=>(some (if y3=true then (decide ((p0.text.length:Int)≤40)) else false))>>=fun y4=>some y4
def F5 (p0:aB):Option Bool :=
  (if (true&&((!decide (p0.kind=2))==true))=true then some (if (!decide (p0.qual=[]))=true then true else (!decide (p0.name=[]))) else some default)>>=fun y1=>(some (if (!decide (p0.kind=2))=true then y1 else false))>>=fun y2=>(if (true&&(y2==false))=true then some (if (!decide (p0.kind=1))=true then (!((decide (p0.value.kind=0))&&((decide (p0.value.num=0))&&((decide (p0.value.text=[]))&&true)))) else false) else some default)>>=fun y3=>(some (if y2=true then true else y3))>>=fun y4=>if y4=true then (some false) else ((some (if (!decide (p0.kind=3))=true then (!decide (p0.kind=4)) else false))>>=fun y5=>(some (if y5=true then (!decide (p0.op=0)) else false))>>=fun y6=>(if ((true&&(y6==false))&&(p0.not_==true))=true then iZ p0.kind 5 8 else some default)>>=fun y7=>(if (true&&(y6==false))=true then some (if p0.not_=true then (!y7) else false) else some default)>>=fun y8=>(some (if y6=true then true else y8))>>=fun y9=>if y9=true then (some false) else (if (decide (p0.kind=1))=true then ((uN p0.value)>>=fun y10=>(some (if y10=true then (decide ((IntKind.wrap .i64 ((p0.kids.length:Int)+(p0.sub.length:Int)))=0)) else false))>>=fun y11=>some y11) else (if (decide (p0.kind=2))=true then ((oQ p0.name)>>=fun y12=>(if (true&&(y12==true))=true then nC p0.qual else some default)>>=fun y13=>(some (if y12=true then y13 else false))>>=fun y14=>(some (if y14=true then (decide ((IntKind.wrap .i64 ((p0.kids.length:Int)+(p0.sub.length:Int)))=0)) else false))>>=fun y15=>some y15) else (if (decide (p0.kind=3))=true then ((some (if (decide (p0.op=15))=true then true else (decide (p0.op=16))))>>=fun y16=>(some (if y16=true then (decide ((p0.kids.length:Int)=1)) else false))>>=fun y17=>(some (if y17=true then (decide ((p0.sub.length:Int)=0)) else false))>>=fun y18=>some y18) else (if (decide (p0.kind=4))=true then ((iZ p0.op 1 14)>>=fun y19=>(some (if y19=true then (decide ((p0.kids.length:Int)=2)) else false))>>=fun y20=>(some (if y20=true then (decide ((p0.sub.length:Int)=0)) else false))>>=fun y21=>some y21) else (if (decide (p0.kind=5))=true then ((some (if (decide ((p0.kids.length:Int)=1))=true then (decide ((p0.sub.length:Int)=0)) else false))>>=fun y22=>some y22) else (if (decide (p0.kind=6))=true then ((some (if (decide ((p0.kids.length:Int)=3))=true then (decide ((p0.sub.length:Int)=0)) else false))>>=fun y23=>some y23) else (if (decide (p0.kind=7))=true then ((iZ (p0.kids.length:Int) 2 9)>>=fun y24=>(some (if y24=true then (decide ((p0.sub.length:Int)=0)) else false))>>=fun y25=>some y25) else (if (decide (p0.kind=8))=true then ((some (if (decide ((p0.kids.length:Int)=1))=true then (decide ((p0.sub.length:Int)=1)) else false))>>=fun y26=>some y26) else (if (decide (p0.kind=9))=true then ((some (if (decide ((p0.kids.length:Int)=0))=true then (decide ((p0.sub.length:Int)=1)) else false))>>=fun y27=>some y27) else (some false)))))))))))
mutual
def oV (y24:(List aB)) (x8:Int):Option Bool :=
  if (decide (x8<(y24.length:Int)))=true then ((idx y24 x8)>>=fun y25=>(jI y25)>>=fun y26=>if (!y26)=true then (some false) else (oV y24 (IntKind.wrap .i64 (x8+1)))) else (some true)
  partial_fixpoint
def pQ (p0:aJ) (x5:Int):Option Bool :=
  if (decide (x5<(p0.from_.length:Int)))=true then ((idx p0.from_ x5)>>=fun y17=>(oQ y17.table)>>=fun y18=>(if (true&&((!y18)==false))=true then nC y17.as_ else some default)>>=fun y19=>(some (if (!y18)=true then true else (!y19)))>>=fun y20=>(some (if y20=true then true else (decide (1<(y17.on_.length:Int)))))>>=fun y21=>(if (true&&(y21==false))=true then some (if (decide (x5=0))=true then (decide (0<(y17.on_.length:Int))) else false) else some default)>>=fun y22=>(some (if y21=true then true else y22))>>=fun y23=>if y23=true then (some false) else (pQ p0 (IntKind.wrap .i64 (x5+1)))) else ((yQ p0)>>=fun y24=>oV y24 0)
  partial_fixpoint
def oM (p0:aJ) (x3:Int):Option Bool :=
  if (decide (x3<(p0.items.length:Int)))=true then ((idx p0.items x3)>>=fun y7=>(if (true&&(y7.star==true))=true then nC y7.qual else some default)>>=fun y8=>(if (true&&(y7.star==true))=true then some (if (!y8)=true then true else (!decide (y7.as_=[]))) else some default)>>=fun y9=>(if ((true&&(y7.star==true))&&(y9==false))=true then tQ y7.expr (aB.mk 0 0 false (cZ.mk 0 0 []) [] [] ([]:List aB) ([]:List aJ)) else some default)>>=fun y10=>(if (true&&(y7.star==true))=true then some (if y9=true then true else (!y10)) else some default)>>=fun y11=>(some (if y7.star=true then y11 else false))>>=fun y12=>(if (((true&&(y12==false))&&((!y7.star)==true))&&((!decide (y7.qual=[]))==false))=true then nC y7.as_ else some default)>>=fun y13=>(if ((true&&(y12==false))&&((!y7.star)==true))=true then some (if (!decide (y7.qual=[]))=true then true else (!y13)) else some default)>>=fun y14=>(if (true&&(y12==false))=true then some (if (!y7.star)=true then y14 else false) else some default)>>=fun y15=>(some (if y12=true then true else y15))>>=fun y16=>if y16=true then (some false) else (oM p0 (IntKind.wrap .i64 (x3+1)))) else (pQ p0 0)
  partial_fixpoint
def oU (p0:aJ):Option Bool :=
  (iZ (p0.items.length:Int) 1 12)>>=fun y1=>(if (true&&((!y1)==false))=true then iZ (p0.from_.length:Int) 1 3 else some default)>>=fun y2=>(some (if (!y1)=true then true else (!y2)))>>=fun y3=>(some (if y3=true then true else (decide (1<(p0.where_.length:Int)))))>>=fun y4=>(some (if y4=true then true else (decide (12<(p0.order.length:Int)))))>>=fun y5=>(some (if y5=true then true else (decide (p0.limit<(-1)))))>>=fun y6=>if y6=true then (some false) else (oM p0 0)
  partial_fixpoint
def qV (p0:aB) (x3:Int):Option Bool :=
  if (decide (x3<(p0.kids.length:Int)))=true then ((idx p0.kids x3)>>=fun y2=>(jI y2)>>=fun y3=>if (!y3)=true then (some false) else (qV p0 (IntKind.wrap .i64 (x3+1)))) else ((if (true&&((decide ((p0.sub.length:Int)=0))==false))=true then idx p0.sub 0 else some default)>>=fun y4=>(if (true&&((decide ((p0.sub.length:Int)=0))==false))=true then oU y4 else some default)>>=fun y5=>(some (if (decide ((p0.sub.length:Int)=0))=true then true else y5))>>=fun y6=>some y6)
  partial_fixpoint
def jI (p0:aB):Option Bool :=
  (F5 p0)>>=fun y1=>if (!y1)=true then (some false) else (qV p0 0)
  partial_fixpoint
end
def aA2 (p0:aB):Option Bool :=
  (vR p0 200)>>=fun y1=>(if (true&&((decide (0≤y1))==true))=true then jI p0 else some default)>>=fun y2=>(some (if (decide (0≤y1))=true then y2 else false))>>=fun y3=>(if (true&&(y3==true))=true then nQ p0 else some default)>>=fun y4=>(some (if y3=true then (decide (y4≤24)) else false))>>=fun y5=>some y5
def vN (p0:(List UInt8)):Option aA :=
  some (aA.mk 2 p0 0)
def aAw (p1:aB) (x0:(List aA)):Option (List aA) :=
  (vN p1.name)>>=fun y41=>(appG 32 x0 ([y41]:List aA))>>=fun y42=>some y42
def jX (p0:(List UInt8)):Option aA :=
  some (aA.mk 5 p0 0)
def uT:Option Int :=
  some 0
def xP (p0:aB) (x9:Bool):Option Int :=
  if x9=true then (some 4) else (if (decide (p0.kind=3))=true then (if (decide (p0.op=15))=true then (some 3) else (if (decide (p0.op=16))=true then (some 8) else (uT))) else (if (decide (p0.kind=4))=true then ((iZ p0.op 1 14)>>=fun y1=>if y1=true then ((idx ([0,1,2,4,4,4,4,4,4,5,6,6,7,7,7]:List Int) p0.op)>>=fun y2=>some y2) else (uT)) else (uT)))
def L9 (p0:aB) (x5:Bool):Option Int :=
  if x5=true then (some 9) else (if (decide (p0.kind=5))=true then (xP p0 (decide (p0.kind=5))) else (if (decide (p0.kind=6))=true then (xP p0 (decide (p0.kind=6))) else (if (decide (p0.kind=7))=true then (xP p0 (decide (p0.kind=7))) else (xP p0 (decide (p0.kind=8))))))
def xZ (p0:aB):Option Int :=
  if (decide (p0.kind=1))=true then (L9 p0 (decide (p0.kind=1))) else (if (decide (p0.kind=2))=true then (L9 p0 (decide (p0.kind=2))) else (L9 p0 (decide (p0.kind=9))))
def aA1:Option Int :=
  some 5
def X4 (p0:aB) (p1:Int):Option Int :=
  (xZ p0)>>=fun y1=>(iZ p1 0 (IntKind.wrap .i64 ((p0.kids.length:Int) - 1)))>>=fun y2=>(some (if (!y2)=true then true else (decide (y1=0))))>>=fun y3=>(some (if y3=true then true else (decide (y1=9))))>>=fun y4=>if y4=true then (some 0) else (if (decide (p0.kind=3))=true then (some y1) else (if (decide (p0.kind=4))=true then (if (decide (y1=4))=true then (some 5) else (if (decide (p1=0))=true then (some y1) else (some (IntKind.wrap .i64 (y1+1))))) else (if (decide (p0.kind=7))=true then (if (decide (0<p1))=true then (some 1) else (aA1)) else (aA1))))
def aAz (p0:aB) (p1:Int):Option Bool :=
  (iZ p1 0 (IntKind.wrap .i64 ((p0.kids.length:Int) - 1)))>>=fun y1=>(if (true&&(y1==true))=true then idx p0.kids p1 else some default)>>=fun y2=>(if (true&&(y1==true))=true then xZ y2 else some default)>>=fun y3=>(if (true&&(y1==true))=true then X4 p0 p1 else some default)>>=fun y4=>(some (if y1=true then (decide (y3<y4)) else false))>>=fun y5=>some y5
def aJu:Option (List (List UInt8)) :=
  some ([[],[83,69,76,69,67,84],[68,73,83,84,73,78,67,84],[70,82,79,77],[74,79,73,78],[79,78],[87,72,69,82,69],[79,82,68,69,82],[66,89],[65,83,67],[68,69,83,67],[76,73,77,73,84],[65,83],[65,78,68],[79,82],[78,79,84],[73,83],[73,78],[66,69,84,87,69,69,78],[69,88,73,83,84,83],[78,85,76,76],[84,82,85,69],[70,65,76,83,69],[73,78,83,69,82,84],[73,78,84,79],[86,65,76,85,69,83],[85,80,68,65,84,69],[83,69,84],[68,69,76,69,84,69]]:List (List UInt8))
def aLl (p0:Int):Option (List UInt8) :=
  (iZ p0 1 28)>>=fun y1=>if (!y1)=true then (some []) else ((aJu)>>=fun y2=>(idx y2 p0)>>=fun y3=>some y3)
def eP (p0:Int):Option aA :=
  (aLl p0)>>=fun y1=>some (aA.mk 1 y1 0)
mutual
def yH (x0:Int) (p0:Int) (x4:(List UInt8)) (x5:Int):Option (List UInt8) :=
  (ofBytes ([(IntKind.wrap .u8 (IntKind.wrap .i64 (48+x5)))]:List Int))>>=fun y2=>(lV y2 x4)>>=fun y3=>F6 p0 (IntKind.wrap .i64 (Int.tdiv x0 10)) y3
  partial_fixpoint
def F6 (p0:Int) (x0:Int) (x4:(List UInt8)):Option (List UInt8) :=
  if (!decide (x0=0))=true then (if (decide ((Int.tmod x0 10)<0))=true then (yH x0 p0 x4 (IntKind.wrap .i64 (0 - (Int.tmod x0 10)))) else (yH x0 p0 x4 (Int.tmod x0 10))) else (if (decide (p0<0))=true then ((lV [45] x4)>>=fun y1=>some y1) else (some x4))
  partial_fixpoint
end
def O0 (p0:Int):Option (List UInt8) :=
  if (decide (p0=0))=true then (some [48]) else (F6 p0 p0 [])
def aB2 (p0:cZ):Option aA :=
  if (decide (p0.kind=1))=true then ((O0 p0.num)>>=fun y1=>some (aA.mk 3 y1 0)) else (if (decide (p0.kind=2))=true then (some (aA.mk 4 p0.text 0)) else (if (decide (p0.kind=3))=true then (if (decide (p0.num=1))=true then ((eP 21)>>=fun y2=>some y2) else ((eP 22)>>=fun y3=>some y3)) else ((eP 20)>>=fun y4=>some y4)))
def pR (p0:(List aA)) (p1:aB):Option (List aA) :=
  if p1.not_=true then ((eP 15)>>=fun y1=>(appG 32 p0 ([y1]:List aA))>>=fun y2=>some y2) else (some p0)
def aFl (p0:Int):Option (List UInt8) :=
  (iZ p0 1 16)>>=fun y1=>if (!y1)=true then (some []) else ((idx ([[],[79,82],[65,78,68],[61],[60,62],[60],[60,61],[62],[62,61],[124,124],[43],[45],[42],[47],[37],[78,79,84],[45]]:List (List UInt8)) p0)>>=fun y2=>some y2)
def sF (p0:Int):Option aA :=
  (some (if (decide (p0=1))=true then true else (decide (p0=2))))>>=fun y1=>(some (if y1=true then true else (decide (p0=15))))>>=fun y2=>if y2=true then ((aFl p0)>>=fun y3=>some (aA.mk 1 y3 0)) else ((aFl p0)>>=fun y4=>(jX y4)>>=fun y5=>some y5)
def uQ (p0:(List aA)) (p1:(List UInt8)):Option (List aA) :=
  if (decide (p1=[]))=true then (some p0) else ((eP 12)>>=fun y1=>(vN p1)>>=fun y2=>(appG 32 p0 ([y1,y2]:List aA))>>=fun y3=>some y3)
def aAo (x0:(List aA)):Option (List aA) :=
  (jX [42])>>=fun y6=>(appG 32 x0 ([y6]:List aA))>>=fun y7=>some y7
def S9 (vE:(List aA)):Option (List aA) :=
  some vE
mutual
def oP (p0:(List aA)) (p1:(List aB)) (p2:Bool):Option (List aA) :=
  if (decide ((p1.length:Int)=0))=true then (some p0) else ((eP 6)>>=fun y1=>(appG 32 p0 ([y1]:List aA))>>=fun y2=>(idx p1 0)>>=fun y3=>(gU y2 y3 p2)>>=fun y4=>some y4)
  partial_fixpoint
def Z5 (p2:Bool) (x8:Int) (p1:aJ) (lW:(List aA)):Option (List aA) :=
  iL p2 p1 lW (IntKind.wrap .i64 (x8+1))
  partial_fixpoint
def H7 (p2:Bool) (x8:Int) (p1:aJ) (lQ:(List aA)):Option (List aA) :=
  (idx p1.order x8)>>=fun y26=>(gU lQ y26.expr p2)>>=fun y27=>(idx p1.order x8)>>=fun y28=>if y28.desc=true then ((eP 10)>>=fun y29=>(appG 32 y27 ([y29]:List aA))>>=fun y30=>Z5 p2 x8 p1 y30) else (Z5 p2 x8 p1 y27)
  partial_fixpoint
def iL (p2:Bool) (p1:aJ) (jV:(List aA)) (x8:Int):Option (List aA) :=
  if (decide (x8<(p1.order.length:Int)))=true then (if (decide (x8=0))=true then ((eP 7)>>=fun y16=>(eP 8)>>=fun y17=>(appG 32 jV ([y16,y17]:List aA))>>=fun y18=>H7 p2 x8 p1 y18) else ((jX [44])>>=fun y20=>(appG 32 jV ([y20]:List aA))>>=fun y21=>H7 p2 x8 p1 y21)) else (if (decide (0≤p1.limit))=true then ((eP 11)>>=fun y22=>(O0 p1.limit)>>=fun y23=>(appG 32 jV ([y22,(aA.mk 3 y23 0)]:List aA))>>=fun y24=>S9 y24) else (S9 jV))
  partial_fixpoint
def M5 (p0:(List aA)) (p1:aZ) (p2:Bool):Option (List aA) :=
  if (!p1.star)=true then ((gU p0 p1.expr p2)>>=fun y1=>(uQ y1 p1.as_)>>=fun y2=>some y2) else (if (!decide (p1.qual=[]))=true then ((vN p1.qual)>>=fun y3=>(jX [46])>>=fun y4=>(appG 32 p0 ([y3,y4]:List aA))>>=fun y5=>aAo y5) else (aAo p0))
  partial_fixpoint
def aAt (p2:Bool) (x7:Int) (p1:aJ) (lC:(List aA)):Option (List aA) :=
  (idx p1.items x7)>>=fun y14=>(M5 lC y14 p2)>>=fun y15=>nL p2 p1 y15 (IntKind.wrap .i64 (x7+1))
  partial_fixpoint
def aA4 (p1:(List aR)) (p2:Bool) (x7:Int) (lZ:(List aA)):Option (List aA) :=
  qH p1 p2 lZ (IntKind.wrap .i64 (x7+1))
  partial_fixpoint
def V9 (p1:(List aR)) (p2:Bool) (x7:Int) (mU:(List aA)):Option (List aA) :=
  (idx p1 x7)>>=fun y11=>(vN y11.table)>>=fun y12=>(appG 32 mU ([y12]:List aA))>>=fun y13=>(idx p1 x7)>>=fun y14=>(uQ y13 y14.as_)>>=fun y15=>(idx p1 x7)>>=fun y16=>if (decide (0<(y16.on_.length:Int)))=true then ((eP 5)>>=fun y17=>(appG 32 y15 ([y17]:List aA))>>=fun y18=>(idx p1 x7)>>=fun y19=>(idx y19.on_ 0)>>=fun y20=>(gU y18 y20 p2)>>=fun y21=>aA4 p1 p2 x7 y21) else (aA4 p1 p2 x7 y15)
  partial_fixpoint
def aAl (p1:(List aR)) (p2:Bool) (x7:Int) (fU:(List aA)):Option (List aA) :=
  (if (true&&((decide (0<x7))==true))=true then idx p1 x7 else some default)>>=fun y6=>(some (if (decide (0<x7))=true then (decide ((y6.on_.length:Int)=0)) else false))>>=fun y7=>if y7=true then ((jX [44])>>=fun y8=>(appG 32 fU ([y8]:List aA))>>=fun y9=>V9 p1 p2 x7 y9) else (V9 p1 p2 x7 fU)
  partial_fixpoint
def qH (p1:(List aR)) (p2:Bool) (x0:(List aA)) (x7:Int):Option (List aA) :=
  if (decide (x7<(p1.length:Int)))=true then ((if (true&&((decide (0<x7))==true))=true then idx p1 x7 else some default)>>=fun y1=>(some (if (decide (0<x7))=true then (decide (0<(y1.on_.length:Int))) else false))>>=fun y2=>if y2=true then ((eP 4)>>=fun y3=>(appG 32 x0 ([y3]:List aA))>>=fun y4=>aAl p1 p2 x7 y4) else (aAl p1 p2 x7 x0)) else (some x0)
  partial_fixpoint
def K9 (p0:(List aA)) (p1:(List aR)) (p2:Bool):Option (List aA) :=
  qH p1 p2 p0 0
  partial_fixpoint
def nL (p2:Bool) (p1:aJ) (fU:(List aA)) (x7:Int):Option (List aA) :=
  if (decide (x7<(p1.items.length:Int)))=true then (if (decide (0<x7))=true then ((jX [44])>>=fun y6=>(appG 32 fU ([y6]:List aA))>>=fun y7=>aAt p2 x7 p1 y7) else (aAt p2 x7 p1 fU)) else ((eP 3)>>=fun y9=>(appG 32 fU ([y9]:List aA))>>=fun y10=>(K9 y10 p1.from_ p2)>>=fun y11=>(oP y11 p1.where_ p2)>>=fun y12=>iL p2 p1 y12 0)
  partial_fixpoint
def O3 (p2:Bool) (p1:aJ) (x0:(List aA)):Option (List aA) :=
  nL p2 p1 x0 0
  partial_fixpoint
def qU (p0:(List aA)) (p1:aJ) (p2:Bool):Option (List aA) :=
  (eP 1)>>=fun y1=>(appG 32 p0 ([y1]:List aA))>>=fun y2=>if p1.distinct=true then ((eP 2)>>=fun y3=>(appG 32 y2 ([y3]:List aA))>>=fun y4=>O3 p2 p1 y4) else (O3 p2 p1 y2)
  partial_fixpoint
def iW (p0:(List aA)) (p1:aB) (p2:Int) (p3:Bool):Option (List aA) :=
  (idx p1.kids p2)>>=fun y1=>(aAz p1 p2)>>=fun y2=>(if ((true&&(y2==false))&&(p3==true))=true then xZ y1 else some default)>>=fun y3=>(if (true&&(y2==false))=true then some (if p3=true then (decide (y3<9)) else false) else some default)>>=fun y4=>(some (if y2=true then true else y4))>>=fun y5=>if y5=true then ((jX [40])>>=fun y6=>(appG 32 p0 ([y6]:List aA))>>=fun y7=>(gU y7 y1 p3)>>=fun y8=>(jX [41])>>=fun y9=>(appG 32 y8 ([y9]:List aA))>>=fun y10=>some y10) else ((gU p0 y1 p3)>>=fun y11=>some y11)
  partial_fixpoint
def aAy (p2:Bool) (x7:Int) (p1:aB) (mP:(List aA)):Option (List aA) :=
  (iW mP p1 x7 p2)>>=fun y48=>rY p2 p1 y48 (IntKind.wrap .i64 (x7+1))
  partial_fixpoint
def rY (p2:Bool) (p1:aB) (kM:(List aA)) (x7:Int):Option (List aA) :=
  if (decide (x7<(p1.kids.length:Int)))=true then (if (decide (1<x7))=true then ((jX [44])>>=fun y43=>(appG 32 kM ([y43]:List aA))>>=fun y44=>aAy p2 x7 p1 y44) else (aAy p2 x7 p1 kM)) else ((jX [41])>>=fun y46=>(appG 32 kM ([y46]:List aA))>>=fun y47=>some y47)
  partial_fixpoint
def gU (p0:(List aA)) (p1:aB) (p2:Bool):Option (List aA) :=
  if (decide (p1.kind=1))=true then ((aB2 p1.value)>>=fun y1=>(appG 32 p0 ([y1]:List aA))>>=fun y2=>some y2) else (if (decide (p1.kind=2))=true then (if (!decide (p1.qual=[]))=true then ((vN p1.qual)>>=fun y3=>(jX [46])>>=fun y4=>(appG 32 p0 ([y3,y4]:List aA))>>=fun y5=>aAw p1 y5) else (aAw p1 p0)) else (if (decide (p1.kind=3))=true then ((sF p1.op)>>=fun y6=>(appG 32 p0 ([y6]:List aA))>>=fun y7=>(iW y7 p1 0 p2)>>=fun y8=>some y8) else (if (decide (p1.kind=9))=true then ((eP 19)>>=fun y9=>(jX [40])>>=fun y10=>(appG 32 p0 ([y9,y10]:List aA))>>=fun y11=>(idx p1.sub 0)>>=fun y12=>(qU y11 y12 p2)>>=fun y13=>(jX [41])>>=fun y14=>(appG 32 y13 ([y14]:List aA))>>=fun y15=>some y15) else ((iW p0 p1 0 p2)>>=fun y16=>if (decide (p1.kind=4))=true then ((sF p1.op)>>=fun y17=>(appG 32 y16 ([y17]:List aA))>>=fun y18=>(iW y18 p1 1 p2)>>=fun y19=>some y19) else (if (decide (p1.kind=5))=true then ((eP 16)>>=fun y20=>(appG 32 y16 ([y20]:List aA))>>=fun y21=>(pR y21 p1)>>=fun y22=>(eP 20)>>=fun y23=>(appG 32 y22 ([y23]:List aA))>>=fun y24=>some y24) else (if (decide (p1.kind=6))=true then ((pR y16 p1)>>=fun y25=>(eP 18)>>=fun y26=>(appG 32 y25 ([y26]:List aA))>>=fun y27=>(iW y27 p1 1 p2)>>=fun y28=>(eP 13)>>=fun y29=>(appG 32 y28 ([y29]:List aA))>>=fun y30=>(iW y30 p1 2 p2)>>=fun y31=>some y31) else ((pR y16 p1)>>=fun y32=>(eP 17)>>=fun y33=>(jX [40])>>=fun y34=>(appG 32 y32 ([y33,y34]:List aA))>>=fun y35=>if (decide (p1.kind=8))=true then ((idx p1.sub 0)>>=fun y36=>(qU y35 y36 p2)>>=fun y37=>(jX [41])>>=fun y38=>(appG 32 y37 ([y38]:List aA))>>=fun y39=>some y39) else (rY p2 p1 y35 1))))))))
  partial_fixpoint
end
def Z7 (p0:aB):Option (List aA) :=
  (aA2 p0)>>=fun y1=>if (!y1)=true then (some ([]:List aA)) else ((gU ([]:List aA) p0 false)>>=fun y2=>some y2)
def H8 (p0:cZ) (p1:cZ):Option Bool :=
  if (!decide (p0.kind=p1.kind))=true then (some false) else (if (!decide (p0.num=p1.num))=true then (some false) else (if (!decide (p0.text=p1.text))=true then (some false) else (some true)))
mutual
def vJ (p0:aR) (p1:aR):Option Bool :=
  if (!decide (p0.table=p1.table))=true then (some false) else (if (!decide (p0.as_=p1.as_))=true then (some false) else ((qW p0.on_ p1.on_)>>=fun y1=>if (!y1)=true then (some false) else (some true)))
  partial_fixpoint
def aB6 (p0:(List aR)) (p1:(List aR)) (x5:Int):Option Bool :=
  if (decide (x5<(p0.length:Int)))=true then ((idx p0 x5)>>=fun y1=>(idx p1 x5)>>=fun y2=>(vJ y1 y2)>>=fun y3=>if (!y3)=true then (some false) else (aB6 p0 p1 (IntKind.wrap .i64 (x5+1)))) else (some true)
  partial_fixpoint
def aB1 (p0:(List aR)) (p1:(List aR)):Option Bool :=
  if (!decide ((p0.length:Int)=(p1.length:Int)))=true then (some false) else (aB6 p0 p1 0)
  partial_fixpoint
def yZ (p0:aX) (p1:aX):Option Bool :=
  (nE p0.expr p1.expr)>>=fun y1=>if (!y1)=true then (some false) else (if (!(p0.desc==p1.desc))=true then (some false) else (some true))
  partial_fixpoint
def aBb (p0:(List aX)) (p1:(List aX)) (x5:Int):Option Bool :=
  if (decide (x5<(p0.length:Int)))=true then ((idx p0 x5)>>=fun y1=>(idx p1 x5)>>=fun y2=>(yZ y1 y2)>>=fun y3=>if (!y3)=true then (some false) else (aBb p0 p1 (IntKind.wrap .i64 (x5+1)))) else (some true)
  partial_fixpoint
def X6 (p0:(List aX)) (p1:(List aX)):Option Bool :=
  if (!decide ((p0.length:Int)=(p1.length:Int)))=true then (some false) else (aBb p0 p1 0)
  partial_fixpoint
def zB (p0:aZ) (p1:aZ):Option Bool :=
  if (!(p0.star==p1.star))=true then (some false) else (if (!decide (p0.qual=p1.qual))=true then (some false) else ((nE p0.expr p1.expr)>>=fun y1=>if (!y1)=true then (some false) else (if (!decide (p0.as_=p1.as_))=true then (some false) else (some true))))
  partial_fixpoint
def aCo (p0:(List aZ)) (p1:(List aZ)) (x5:Int):Option Bool :=
  if (decide (x5<(p0.length:Int)))=true then ((idx p0 x5)>>=fun y1=>(idx p1 x5)>>=fun y2=>(zB y1 y2)>>=fun y3=>if (!y3)=true then (some false) else (aCo p0 p1 (IntKind.wrap .i64 (x5+1)))) else (some true)
  partial_fixpoint
def aCn (p0:(List aZ)) (p1:(List aZ)):Option Bool :=
  if (!decide ((p0.length:Int)=(p1.length:Int)))=true then (some false) else (aCo p0 p1 0)
  partial_fixpoint
def yD (p0:aJ) (p1:aJ):Option Bool :=
  if (!(p0.distinct==p1.distinct))=true then (some false) else ((aCn p0.items p1.items)>>=fun y1=>if (!y1)=true then (some false) else ((aB1 p0.from_ p1.from_)>>=fun y2=>if (!y2)=true then (some false) else ((qW p0.where_ p1.where_)>>=fun y3=>if (!y3)=true then (some false) else ((X6 p0.order p1.order)>>=fun y4=>if (!y4)=true then (some false) else (if (!decide (p0.limit=p1.limit))=true then (some false) else (some true))))))
  partial_fixpoint
def aC9 (p0:(List aJ)) (p1:(List aJ)) (x5:Int):Option Bool :=
  if (decide (x5<(p0.length:Int)))=true then ((idx p0 x5)>>=fun y1=>(idx p1 x5)>>=fun y2=>(yD y1 y2)>>=fun y3=>if (!y3)=true then (some false) else (aC9 p0 p1 (IntKind.wrap .i64 (x5+1)))) else (some true)
  partial_fixpoint
def aBm (p0:(List aJ)) (p1:(List aJ)):Option Bool :=
  if (!decide ((p0.length:Int)=(p1.length:Int)))=true then (some false) else (aC9 p0 p1 0)
  partial_fixpoint
def zP (p0:(List aB)) (p1:(List aB)) (x5:Int):Option Bool :=
  if (decide (x5<(p0.length:Int)))=true then ((idx p0 x5)>>=fun y1=>(idx p1 x5)>>=fun y2=>(nE y1 y2)>>=fun y3=>if (!y3)=true then (some false) else (zP p0 p1 (IntKind.wrap .i64 (x5+1)))) else (some true)
  partial_fixpoint
def qW (p0:(List aB)) (p1:(List aB)):Option Bool :=
  if (!decide ((p0.length:Int)=(p1.length:Int)))=true then (some false) else (zP p0 p1 0)
  partial_fixpoint
def nE (p0:aB) (p1:aB):Option Bool :=
  if (!decide (p0.kind=p1.kind))=true then (some false) else (if (!decide (p0.op=p1.op))=true then (some false) else (if (!(p0.not_==p1.not_))=true then (some false) else ((H8 p0.value p1.value)>>=fun y1=>if (!y1)=true then (some false) else (if (!decide (p0.qual=p1.qual))=true then (some false) else (if (!decide (p0.name=p1.name))=true then (some false) else ((qW p0.kids p1.kids)>>=fun y2=>if (!y2)=true then (some false) else ((aBm p0.sub p1.sub)>>=fun y3=>if (!y3)=true then (some false) else (some true))))))))
  partial_fixpoint
end
def aC3 (p0:aA) (p1:aA):Option Bool :=
  if (!decide (p0.kind=p1.kind))=true then (some false) else (if (!decide (p0.text=p1.text))=true then (some false) else (if (!decide (p0.at_=p1.at_))=true then (some false) else (some true)))
def K6 (p0:(List aA)) (p1:(List aA)) (x5:Int):Option Bool :=
  if (decide (x5<(p0.length:Int)))=true then ((idx p0 x5)>>=fun y1=>(idx p1 x5)>>=fun y2=>(aC3 y1 y2)>>=fun y3=>if (!y3)=true then (some false) else (K6 p0 p1 (IntKind.wrap .i64 (x5+1)))) else (some true)
  partial_fixpoint
def vM (p0:(List aA)) (p1:(List aA)):Option Bool :=
  if (!decide ((p0.length:Int)=(p1.length:Int)))=true then (some false) else (K6 p0 p1 0)
def wQ (x0:Int) (x3:(List UInt8)):Option (List UInt8) :=
  if (decide (0<x0))=true then ((ofBytes ([(IntKind.wrap .u8 (IntKind.wrap .i64 (48+(Int.tmod x0 10))))]:List Int))>>=fun y1=>(lV y1 x3)>>=fun y2=>wQ (IntKind.wrap .i64 (Int.tdiv x0 10)) y2) else ((lV [109] x3)>>=fun y3=>some y3)
  partial_fixpoint
def jF (p0:Int):Option (List UInt8) :=
  if (decide (p0≤0))=true then (some [109,48]) else (wQ p0 [])
def uD (p0:(List aA)) (x1:Int) (x5:Int):Option Int :=
  if (decide (x5<(p0.length:Int)))=true then ((idx p0 x5)>>=fun y1=>if (!decide (y1.kind=x1))=true then (some (-1)) else ((idx p0 x5)>>=fun y2=>(jF (IntKind.wrap .i64 (x1+1)))>>=fun y3=>if (!decide (y2.text=y3))=true then (some (-1)) else ((idx p0 x5)>>=fun y4=>if (!decide (y4.at_=(IntKind.wrap .i64 ((IntKind.wrap .i64 (x1+1))+1))))=true then (some (-1)) else (uD p0 (IntKind.wrap .i64 ((IntKind.wrap .i64 ((IntKind.wrap .i64 (x1+1))+1))+1)) (IntKind.wrap .i64 (x5+1)))))) else (some x1)
  partial_fixpoint
def R8 (p0:(List aA)) (p1:Int):Option Int :=
  uD p0 p1 0
mutual
def uG (x1:Int) (x5:Int) (aU:(List aR)):Option (Int×(List aR)) :=
  if (decide (x5<(aU.length:Int)))=true then ((jF x1)>>=fun y1=>(idx aU x5)>>=fun y2=>(jF (IntKind.wrap .i64 (x1+1)))>>=fun y3=>(tL y2.on_ (IntKind.wrap .i64 ((IntKind.wrap .i64 (x1+1))+1)))>>=fun y4=>uG y4.1 (IntKind.wrap .i64 (x5+1)) (aU.set (x5).toNat (aR.mk y1 y3 y4.2))) else (some (x1,aU))
  partial_fixpoint
def aC6 (p0:(List aR)) (p1:Int):Option (Int×(List aR)) :=
  uG p1 0 p0
  partial_fixpoint
def wS (x1:Int) (x5:Int) (aU:(List aX)):Option (Int×(List aX)) :=
  if (decide (x5<(aU.length:Int)))=true then ((idx aU x5)>>=fun y1=>(jF (IntKind.wrap .i64 ((IntKind.wrap .i64 ((IntKind.wrap .i64 ((IntKind.wrap .i64 ((IntKind.wrap .i64 (x1+1))+1))+1))+1))+1)))>>=fun y2=>(jF (IntKind.wrap .i64 ((IntKind.wrap .i64 ((IntKind.wrap .i64 ((IntKind.wrap .i64 ((IntKind.wrap .i64 ((IntKind.wrap .i64 (x1+1))+1))+1))+1))+1))+1)))>>=fun y3=>(jF (IntKind.wrap .i64 ((IntKind.wrap .i64 ((IntKind.wrap .i64 ((IntKind.wrap .i64 ((IntKind.wrap .i64 ((IntKind.wrap .i64 ((IntKind.wrap .i64 (x1+1))+1))+1))+1))+1))+1))+1)))>>=fun y4=>(tL y1.expr.kids (IntKind.wrap .i64 ((IntKind.wrap .i64 ((IntKind.wrap .i64 ((IntKind.wrap .i64 ((IntKind.wrap .i64 ((IntKind.wrap .i64 ((IntKind.wrap .i64 ((IntKind.wrap .i64 (x1+1))+1))+1))+1))+1))+1))+1))+1)))>>=fun y5=>(wR y1.expr.sub y5.1)>>=fun y6=>wS (IntKind.wrap .i64 (y6.1+1)) (IntKind.wrap .i64 (x5+1)) (aU.set (x5).toNat (aX.mk (aB.mk x1 (IntKind.wrap .i64 (x1+1)) (decide ((Int.tmod (IntKind.wrap .i64 ((IntKind.wrap .i64 (x1+1))+1)) 3)=0)) (cZ.mk (IntKind.wrap .i64 ((IntKind.wrap .i64 ((IntKind.wrap .i64 (x1+1))+1))+1)) (IntKind.wrap .i64 ((IntKind.wrap .i64 ((IntKind.wrap .i64 ((IntKind.wrap .i64 (x1+1))+1))+1))+1)) y2) y3 y4 y5.2 y6.2) (decide ((Int.tmod y6.1 3)=0))))) else (some (x1,aU))
  partial_fixpoint
def aAq (p0:(List aX)) (p1:Int):Option (Int×(List aX)) :=
  wS p1 0 p0
  partial_fixpoint
def wZ (x1:Int) (x5:Int) (aU:(List aZ)):Option (Int×(List aZ)) :=
  if (decide (x5<(aU.length:Int)))=true then ((idx aU x5)>>=fun y1=>(jF (IntKind.wrap .i64 (x1+1)))>>=fun y2=>(jF (IntKind.wrap .i64 ((IntKind.wrap .i64 ((IntKind.wrap .i64 ((IntKind.wrap .i64 ((IntKind.wrap .i64 ((IntKind.wrap .i64 ((IntKind.wrap .i64 (x1+1))+1))+1))+1))+1))+1))+1)))>>=fun y3=>(jF (IntKind.wrap .i64 ((IntKind.wrap .i64 ((IntKind.wrap .i64 ((IntKind.wrap .i64 ((IntKind.wrap .i64 ((IntKind.wrap .i64 ((IntKind.wrap .i64 ((IntKind.wrap .i64 (x1+1))+1))+1))+1))+1))+1))+1))+1)))>>=fun y4=>(jF (IntKind.wrap .i64 ((IntKind.wrap .i64 ((IntKind.wrap .i64 ((IntKind.wrap .i64 ((IntKind.wrap .i64 ((IntKind.wrap .i64 ((IntKind.wrap .i64 ((IntKind.wrap .i64 ((IntKind.wrap .i64 (x1+1))+1))+1))+1))+1))+1))+1))+1))+1)))>>=fun y5=>(tL y1.expr.kids (IntKind.wrap .i64 ((IntKind.wrap .i64 ((IntKind.wrap .i64 ((IntKind.wrap .i64 ((IntKind.wrap .i64 ((IntKind.wrap .i64 ((IntKind.wrap .i64 ((IntKind.wrap .i64 ((IntKind.wrap .i64 ((IntKind.wrap .i64 (x1+1))+1))+1))+1))+1))+1))+1))+1))+1))+1)))>>=fun y6=>(wR y1.expr.sub y6.1)>>=fun y7=>(jF y7.1)>>=fun y8=>wZ (IntKind.wrap .i64 (y7.1+1)) (IntKind.wrap .i64 (x5+1)) (aU.set (x5).toNat (aZ.mk (decide ((Int.tmod x1 3)=0)) y2 (aB.mk (IntKind.wrap .i64 ((IntKind.wrap .i64 (x1+1))+1)) (IntKind.wrap .i64 ((IntKind.wrap .i64 ((IntKind.wrap .i64 (x1+1))+1))+1)) (decide ((Int.tmod (IntKind.wrap .i64 ((IntKind.wrap .i64 ((IntKind.wrap .i64 ((IntKind.wrap .i64 (x1+1))+1))+1))+1)) 3)=0)) (cZ.mk (IntKind.wrap .i64 ((IntKind.wrap .i64 ((IntKind.wrap .i64 ((IntKind.wrap .i64 ((IntKind.wrap .i64 (x1+1))+1))+1))+1))+1)) (IntKind.wrap .i64 ((IntKind.wrap .i64 ((IntKind.wrap .i64 ((IntKind.wrap .i64 ((IntKind.wrap .i64 ((IntKind.wrap .i64 (x1+1))+1))+1))+1))+1))+1)) y3) y4 y5 y6.2 y7.2) y8))) else (some (x1,aU))
  partial_fixpoint
def aC0 (p0:(List aZ)) (p1:Int):Option (Int×(List aZ)) :=
  wZ p1 0 p0
  partial_fixpoint
def wJ (x1:Int) (x5:Int) (aU:(List aJ)):Option (Int×(List aJ)) :=
  if (decide (x5<(aU.length:Int)))=true then ((idx aU x5)>>=fun y1=>(aC0 y1.items (IntKind.wrap .i64 (x1+1)))>>=fun y2=>(aC6 y1.from_ y2.1)>>=fun y3=>(tL y1.where_ y3.1)>>=fun y4=>(aAq y1.order y4.1)>>=fun y5=>wJ (IntKind.wrap .i64 (y5.1+1)) (IntKind.wrap .i64 (x5+1)) (aU.set (x5).toNat (aJ.mk (decide ((Int.tmod x1 3)=0)) y2.2 y3.2 y4.2 y5.2 y5.1))) else (some (x1,aU))
  partial_fixpoint
def wR (p0:(List aJ)) (p1:Int):Option (Int×(List aJ)) :=
  wJ p1 0 p0
  partial_fixpoint
def wF (x1:Int) (x5:Int) (aU:(List aB)):Option (Int×(List aB)) :=
  if (decide (x5<(aU.length:Int)))=true then ((idx aU x5)>>=fun y1=>(jF (IntKind.wrap .i64 ((IntKind.wrap .i64 ((IntKind.wrap .i64 ((IntKind.wrap .i64 ((IntKind.wrap .i64 (x1+1))+1))+1))+1))+1)))>>=fun y2=>(jF (IntKind.wrap .i64 ((IntKind.wrap .i64 ((IntKind.wrap .i64 ((IntKind.wrap .i64 ((IntKind.wrap .i64 ((IntKind.wrap .i64 (x1+1))+1))+1))+1))+1))+1)))>>=fun y3=>(jF (IntKind.wrap .i64 ((IntKind.wrap .i64 ((IntKind.wrap .i64 ((IntKind.wrap .i64 ((IntKind.wrap .i64 ((IntKind.wrap .i64 ((IntKind.wrap .i64 (x1+1))+1))+1))+1))+1))+1))+1)))>>=fun y4=>(tL y1.kids (IntKind.wrap .i64 ((IntKind.wrap .i64 ((IntKind.wrap .i64 ((IntKind.wrap .i64 ((IntKind.wrap .i64 ((IntKind.wrap .i64 ((IntKind.wrap .i64 ((IntKind.wrap .i64 (x1+1))+1))+1))+1))+1))+1))+1))+1)))>>=fun y5=>(wR y1.sub y5.1)>>=fun y6=>wF y6.1 (IntKind.wrap .i64 (x5+1)) (aU.set (x5).toNat (aB.mk x1 (IntKind.wrap .i64 (x1+1)) (decide ((Int.tmod (IntKind.wrap .i64 ((IntKind.wrap .i64 (x1+1))+1)) 3)=0)) (cZ.mk (IntKind.wrap .i64 ((IntKind.wrap .i64 ((IntKind.wrap .i64 (x1+1))+1))+1)) (IntKind.wrap .i64 ((IntKind.wrap .i64 ((IntKind.wrap .i64 ((IntKind.wrap .i64 (x1+1))+1))+1))+1)) y2) y3 y4 y5.2 y6.2))) else (some (x1,aU))
  partial_fixpoint
def tL (p0:(List aB)) (p1:Int):Option (Int×(List aB)) :=
  wF p1 0 p0
  partial_fixpoint
end
def aB7 (p0:aB) (p1:Int):Option (Int×(List aB)×(List aJ)) :=
  (tL p0.kids p1)>>=fun y1=>(wR p0.sub y1.1)>>=fun y2=>some (y2.1,y1.2,y2.2)
def uW (x1:Int) (x5:Int) (aU:(List aA)):Option (Int×(List aA)) :=
  if (decide (x5<(aU.length:Int)))=true then ((idx aU x5)>>=fun y1=>(jF (IntKind.wrap .i64 (x1+1)))>>=fun y2=>uW (IntKind.wrap .i64 ((IntKind.wrap .i64 ((IntKind.wrap .i64 (x1+1))+1))+1)) (IntKind.wrap .i64 (x5+1)) (aU.set (x5).toNat (aA.mk x1 y2 (IntKind.wrap .i64 ((IntKind.wrap .i64 (x1+1))+1))))) else (some (x1,aU))
  partial_fixpoint
def aCa (p0:(List aA)) (p1:Int):Option (Int×(List aA)) :=
  uW p1 0 p0
def Q7 (p0:cZ) (p1:Int):Option Int :=
  if (decide ((IntKind.wrap .i64 (p1 - (p0.text.length:Int)))<0))=true then (some (-1)) else (some (IntKind.wrap .i64 (p1 - (p0.text.length:Int))))
mutual
def wM (p0:aR) (p1:Int):Option Int :=
  if (decide ((IntKind.wrap .i64 (p1 - (p0.table.length:Int)))<0))=true then (some (-1)) else (if (decide ((IntKind.wrap .i64 ((IntKind.wrap .i64 (p1 - (p0.table.length:Int))) - (p0.as_.length:Int)))<0))=true then (some (-1)) else ((qN p0.on_ (IntKind.wrap .i64 ((IntKind.wrap .i64 (p1 - (p0.table.length:Int))) - (p0.as_.length:Int))))>>=fun y1=>if (decide (y1<0))=true then (some (-1)) else (some y1)))
  partial_fixpoint
def aBs (p0:(List aR)) (x1:Int) (x5:Int):Option Int :=
  if (decide (x5<(p0.length:Int)))=true then ((idx p0 x5)>>=fun y1=>(wM y1 x1)>>=fun y2=>if (decide (y2<0))=true then (some (-1)) else (aBs p0 y2 (IntKind.wrap .i64 (x5+1)))) else (some x1)
  partial_fixpoint
def aBd (p0:(List aR)) (p1:Int):Option Int :=
  if (decide ((IntKind.wrap .i64 (p1 - (p0.length:Int)))<0))=true then (some (-1)) else (aBs p0 (IntKind.wrap .i64 (p1 - (p0.length:Int))) 0)
  partial_fixpoint
def xW (p0:aX) (p1:Int):Option Int :=
  (nK p0.expr p1)>>=fun y1=>if (decide (y1<0))=true then (some (-1)) else (some y1)
  partial_fixpoint
def aC1 (p0:(List aX)) (x1:Int) (x5:Int):Option Int :=
  if (decide (x5<(p0.length:Int)))=true then ((idx p0 x5)>>=fun y1=>(xW y1 x1)>>=fun y2=>if (decide (y2<0))=true then (some (-1)) else (aC1 p0 y2 (IntKind.wrap .i64 (x5+1)))) else (some x1)
  partial_fixpoint
def aAe (p0:(List aX)) (p1:Int):Option Int :=
  if (decide ((IntKind.wrap .i64 (p1 - (p0.length:Int)))<0))=true then (some (-1)) else (aC1 p0 (IntKind.wrap .i64 (p1 - (p0.length:Int))) 0)
  partial_fixpoint
def yY (p0:aZ) (p1:Int):Option Int :=
  if (decide ((IntKind.wrap .i64 (p1 - (p0.qual.length:Int)))<0))=true then (some (-1)) else ((nK p0.expr (IntKind.wrap .i64 (p1 - (p0.qual.length:Int))))>>=fun y1=>if (decide (y1<0))=true then (some (-1)) else (if (decide ((IntKind.wrap .i64 (y1 - (p0.as_.length:Int)))<0))=true then (some (-1)) else (some (IntKind.wrap .i64 (y1 - (p0.as_.length:Int))))))
  partial_fixpoint
def aB8 (p0:(List aZ)) (x1:Int) (x5:Int):Option Int :=
  if (decide (x5<(p0.length:Int)))=true then ((idx p0 x5)>>=fun y1=>(yY y1 x1)>>=fun y2=>if (decide (y2<0))=true then (some (-1)) else (aB8 p0 y2 (IntKind.wrap .i64 (x5+1)))) else (some x1)
  partial_fixpoint
def Z8 (p0:(List aZ)) (p1:Int):Option Int :=
  if (decide ((IntKind.wrap .i64 (p1 - (p0.length:Int)))<0))=true then (some (-1)) else (aB8 p0 (IntKind.wrap .i64 (p1 - (p0.length:Int))) 0)
  partial_fixpoint
def F8 (p0:aJ) (p1:Int):Option Int :=
  (Z8 p0.items p1)>>=fun y1=>if (decide (y1<0))=true then (some (-1)) else ((aBd p0.from_ y1)>>=fun y2=>if (decide (y2<0))=true then (some (-1)) else ((qN p0.where_ y2)>>=fun y3=>if (decide (y3<0))=true then (some (-1)) else ((aAe p0.order y3)>>=fun y4=>if (decide (y4<0))=true then (some (-1)) else (some y4))))
  partial_fixpoint
def aBt (p0:(List aJ)) (x1:Int) (x5:Int):Option Int :=
  if (decide (x5<(p0.length:Int)))=true then ((idx p0 x5)>>=fun y1=>(F8 y1 x1)>>=fun y2=>if (decide (y2<0))=true then (some (-1)) else (aBt p0 y2 (IntKind.wrap .i64 (x5+1)))) else (some x1)
  partial_fixpoint
def aBz (p0:(List aJ)) (p1:Int):Option Int :=
  if (decide ((IntKind.wrap .i64 (p1 - (p0.length:Int)))<0))=true then (some (-1)) else (aBt p0 (IntKind.wrap .i64 (p1 - (p0.length:Int))) 0)
  partial_fixpoint
def zO (p0:(List aB)) (x1:Int) (x5:Int):Option Int :=
  if (decide (x5<(p0.length:Int)))=true then ((idx p0 x5)>>=fun y1=>(nK y1 x1)>>=fun y2=>if (decide (y2<0))=true then (some (-1)) else (zO p0 y2 (IntKind.wrap .i64 (x5+1)))) else (some x1)
  partial_fixpoint
def qN (p0:(List aB)) (p1:Int):Option Int :=
  if (decide ((IntKind.wrap .i64 (p1 - (p0.length:Int)))<0))=true then (some (-1)) else (zO p0 (IntKind.wrap .i64 (p1 - (p0.length:Int))) 0)
  partial_fixpoint
def nK (p0:aB) (p1:Int):Option Int :=
  (Q7 p0.value p1)>>=fun y1=>if (decide (y1<0))=true then (some (-1)) else (if (decide ((IntKind.wrap .i64 (y1 - (p0.qual.length:Int)))<0))=true then (some (-1)) else (if (decide ((IntKind.wrap .i64 ((IntKind.wrap .i64 (y1 - (p0.qual.length:Int))) - (p0.name.length:Int)))<0))=true then (some (-1)) else ((qN p0.kids (IntKind.wrap .i64 ((IntKind.wrap .i64 (y1 - (p0.qual.length:Int))) - (p0.name.length:Int))))>>=fun y2=>if (decide (y2<0))=true then (some (-1)) else ((aBz p0.sub y2)>>=fun y3=>if (decide (y3<0))=true then (some (-1)) else (some y3)))))
  partial_fixpoint
end
def sH (p0:cZ):Option cZ :=
  some p0
mutual
def vU (p0:aR):Option aR :=
  (qG p0.on_)>>=fun y1=>some (aR.mk p0.table p0.as_ y1)
  partial_fixpoint
def aB5 (p0:(List aR)) (x4:Int) (bF:(List aR)):Option (List aR) :=
  if (decide (x4<(p0.length:Int)))=true then ((idx p0 x4)>>=fun y2=>(vU y2)>>=fun y3=>(idx bF x4)>>=fun y4=>(nS bF x4 y3)>>=fun y5=>aB5 p0 (IntKind.wrap .i64 (x4+1)) y5) else (some bF)
  partial_fixpoint
def X5 (p0:(List aR)):Option (List aR) :=
  (mkG 56 (p0.length:Int) ((aR.mk [] [] ([]:List aB)):aR))>>=fun y1=>aB5 p0 0 y1
  partial_fixpoint
def zW (p0:aX):Option aX :=
  (nA p0.expr)>>=fun y1=>some (aX.mk y1 p0.desc)
  partial_fixpoint
def aBo (p0:(List aX)) (x4:Int) (bF:(List aX)):Option (List aX) :=
  if (decide (x4<(p0.length:Int)))=true then ((idx p0 x4)>>=fun y2=>(zW y2)>>=fun y3=>(idx bF x4)>>=fun y4=>(nS bF x4 y3)>>=fun y5=>aBo p0 (IntKind.wrap .i64 (x4+1)) y5) else (some bF)
  partial_fixpoint
def aCg (p0:(List aX)):Option (List aX) :=
  (mkG 144 (p0.length:Int) ((aX.mk (aB.mk 0 0 false (cZ.mk 0 0 []) [] [] ([]:List aB) ([]:List aJ)) false):aX))>>=fun y1=>aBo p0 0 y1
  partial_fixpoint
def D5 (p0:aZ):Option aZ :=
  (nA p0.expr)>>=fun y1=>some (aZ.mk p0.star p0.qual y1 p0.as_)
  partial_fixpoint
def aBc (p0:(List aZ)) (x4:Int) (bF:(List aZ)):Option (List aZ) :=
  if (decide (x4<(p0.length:Int)))=true then ((idx p0 x4)>>=fun y2=>(D5 y2)>>=fun y3=>(idx bF x4)>>=fun y4=>(nS bF x4 y3)>>=fun y5=>aBc p0 (IntKind.wrap .i64 (x4+1)) y5) else (some bF)
  partial_fixpoint
def aBg (p0:(List aZ)):Option (List aZ) :=
  (mkG 176 (p0.length:Int) ((aZ.mk false [] (aB.mk 0 0 false (cZ.mk 0 0 []) [] [] ([]:List aB) ([]:List aJ)) []):aZ))>>=fun y1=>aBc p0 0 y1
  partial_fixpoint
def yT (p0:aJ):Option aJ :=
  (aBg p0.items)>>=fun y1=>(X5 p0.from_)>>=fun y2=>(qG p0.where_)>>=fun y3=>(aCg p0.order)>>=fun y4=>some (aJ.mk p0.distinct y1 y2 y3 y4 p0.limit)
  partial_fixpoint
def aAs (p0:(List aJ)) (x4:Int) (bF:(List aJ)):Option (List aJ) :=
  if (decide (x4<(p0.length:Int)))=true then ((idx p0 x4)>>=fun y2=>(yT y2)>>=fun y3=>(idx bF x4)>>=fun y4=>(nS bF x4 y3)>>=fun y5=>aAs p0 (IntKind.wrap .i64 (x4+1)) y5) else (some bF)
  partial_fixpoint
def aBj (p0:(List aJ)):Option (List aJ) :=
  (mkG 112 (p0.length:Int) ((aJ.mk false ([]:List aZ) ([]:List aR) ([]:List aB) ([]:List aX) 0):aJ))>>=fun y1=>aAs p0 0 y1
  partial_fixpoint
def yS (p0:(List aB)) (x4:Int) (bF:(List aB)):Option (List aB) :=
  if (decide (x4<(p0.length:Int)))=true then ((idx p0 x4)>>=fun y2=>(nA y2)>>=fun y3=>(idx bF x4)>>=fun y4=>(nS bF x4 y3)>>=fun y5=>yS p0 (IntKind.wrap .i64 (x4+1)) y5) else (some bF)
  partial_fixpoint
def qG (p0:(List aB)):Option (List aB) :=
  (mkG 136 (p0.length:Int) ((aB.mk 0 0 false (cZ.mk 0 0 []) [] [] ([]:List aB) ([]:List aJ)):aB))>>=fun y1=>yS p0 0 y1
  partial_fixpoint
def nA (p0:aB):Option aB :=
  (sH p0.value)>>=fun y1=>(qG p0.kids)>>=fun y2=>(aBj p0.sub)>>=fun y3=>some (aB.mk p0.kind p0.op p0.not_ y1 p0.qual p0.name y2 y3)
  partial_fixpoint
end
mutual
def U6 (p0:aR):Option aR :=
  (oZ p0.on_)>>=fun y1=>some (aR.mk p0.table p0.as_ y1)
  partial_fixpoint
def P9 (p0:(List aR)) (x4:Int) (bJ:(List aR)):Option (List aR) :=
  if (decide (x4<(p0.length:Int)))=true then ((idx p0 x4)>>=fun y2=>(U6 y2)>>=fun y3=>(idx bJ x4)>>=fun y4=>P9 p0 (IntKind.wrap .i64 (x4+1)) (bJ.set (x4).toNat y3)) else (some bJ)
  partial_fixpoint
def M4 (p0:(List aR)):Option (List aR) :=
  (mkG 56 (p0.length:Int) ((aR.mk [] [] ([]:List aB)):aR))>>=fun y1=>P9 p0 0 y1
  partial_fixpoint
def aAv (p0:aX):Option aX :=
  (lU p0.expr)>>=fun y1=>some (aX.mk y1 p0.desc)
  partial_fixpoint
def T9 (p0:(List aX)) (x4:Int) (bJ:(List aX)):Option (List aX) :=
  if (decide (x4<(p0.length:Int)))=true then ((idx p0 x4)>>=fun y2=>(aAv y2)>>=fun y3=>(idx bJ x4)>>=fun y4=>T9 p0 (IntKind.wrap .i64 (x4+1)) (bJ.set (x4).toNat y3)) else (some bJ)
  partial_fixpoint
def J4 (p0:(List aX)):Option (List aX) :=
  (mkG 144 (p0.length:Int) ((aX.mk (aB.mk 0 0 false (cZ.mk 0 0 []) [] [] ([]:List aB) ([]:List aJ)) false):aX))>>=fun y1=>T9 p0 0 y1
  partial_fixpoint
def aBu (p0:aZ):Option aZ :=
  (lU p0.expr)>>=fun y1=>some (aZ.mk p0.star p0.qual y1 p0.as_)
  partial_fixpoint
def Q0 (p0:(List aZ)) (x4:Int) (bJ:(List aZ)):Option (List aZ) :=
  if (decide (x4<(p0.length:Int)))=true then ((idx p0 x4)>>=fun y2=>(aBu y2)>>=fun y3=>(idx bJ x4)>>=fun y4=>Q0 p0 (IntKind.wrap .i64 (x4+1)) (bJ.set (x4).toNat y3)) else (some bJ)
  partial_fixpoint
def O6 (p0:(List aZ)):Option (List aZ) :=
  (mkG 176 (p0.length:Int) ((aZ.mk false [] (aB.mk 0 0 false (cZ.mk 0 0 []) [] [] ([]:List aB) ([]:List aJ)) []):aZ))>>=fun y1=>Q0 p0 0 y1
  partial_fixpoint
def uJ (p0:aJ):Option aJ :=
  (O6 p0.items)>>=fun y1=>(M4 p0.from_)>>=fun y2=>(oZ p0.where_)>>=fun y3=>(J4 p0.order)>>=fun y4=>some (aJ.mk p0.distinct y1 y2 y3 y4 p0.limit)
  partial_fixpoint
def M9 (p0:(List aJ)) (x4:Int) (bJ:(List aJ)):Option (List aJ) :=
  if (decide (x4<(p0.length:Int)))=true then ((idx p0 x4)>>=fun y2=>(uJ y2)>>=fun y3=>(idx bJ x4)>>=fun y4=>M9 p0 (IntKind.wrap .i64 (x4+1)) (bJ.set (x4).toNat y3)) else (some bJ)
  partial_fixpoint
def G5 (p0:(List aJ)):Option (List aJ) :=
  (mkG 112 (p0.length:Int) ((aJ.mk false ([]:List aZ) ([]:List aR) ([]:List aB) ([]:List aX) 0):aJ))>>=fun y1=>M9 p0 0 y1
  partial_fixpoint
def L8 (p0:(List aB)) (x4:Int) (bJ:(List aB)):Option (List aB) :=
  if (decide (x4<(p0.length:Int)))=true then ((idx p0 x4)>>=fun y2=>(lU y2)>>=fun y3=>(idx bJ x4)>>=fun y4=>L8 p0 (IntKind.wrap .i64 (x4+1)) (bJ.set (x4).toNat y3)) else (some bJ)
  partial_fixpoint
def oZ (p0:(List aB)):Option (List aB) :=
  (mkG 136 (p0.length:Int) ((aB.mk 0 0 false (cZ.mk 0 0 []) [] [] ([]:List aB) ([]:List aJ)):aB))>>=fun y1=>L8 p0 0 y1
  partial_fixpoint
def lU (p0:aB):Option aB :=
  (sH p0.value)>>=fun y1=>(oZ p0.kids)>>=fun y2=>(G5 p0.sub)>>=fun y3=>some (aB.mk p0.kind p0.op p0.not_ y1 p0.qual p0.name y2 y3)
  partial_fixpoint
end
def aCl (p0:aB):Option Bool :=
  (nK p0 1048576)>>=fun y1=>if (decide (y1<0))=true then (some true) else ((nA p0)>>=fun y2=>(Z7 y2)>>=fun y3=>(lU p0)>>=fun y4=>(J8 y4)>>=fun y5=>(vM y5 y3)>>=fun y6=>if (!y6)=true then (some false) else ((nA p0)>>=fun y7=>(nE y4 y7)>>=fun y8=>if (!y8)=true then (some false) else ((aB7 y4 1)>>=fun y9=>(if (true&&((decide (y9.1<0))==false))=true then vM y5 y3 else some (default:Bool))>>=fun y10=>(some (if (decide (y9.1<0))=true then true else (!y10)))>>=fun y11=>if y11=true then (some false) else ((aCa y5 1)>>=fun y12=>(R8 y12.2 1)>>=fun y13=>if (decide (y13<0))=true then (some false) else (if (!decide (y13=y12.1))=true then (some false) else ((lU p0)>>=fun y14=>(J8 y14)>>=fun y15=>(vM y15 y3)>>=fun y16=>if (!y16)=true then (some false) else ((R8 y12.2 1)>>=fun y17=>if (decide (y17<0))=true then (some false) else (if (!decide (y17=y12.1))=true then (some false) else (some true)))))))))
end Go.Ab
