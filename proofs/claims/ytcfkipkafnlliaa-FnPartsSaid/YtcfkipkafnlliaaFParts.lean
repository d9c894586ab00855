/- The functions of the program,as Lean functions (printed by a program). -/
import Derived.Test.YtcfkipkafnlliaaAbF0
namespace Go.Ab
open Go
structure bC where
  kind:Int
  num:Int
  text:(List UInt8)
instance:Inhabited bC:=⟨(bC.mk 0 0 [])⟩
mutual
structure aA where
  kind:Int
  op:Int
  not_:Bool
  value:bC
  qual:(List UInt8)
  name:(List UInt8)
  kids:(List aA)
  sub:(List aP)
structure bI where
  star:Bool
  qual:(List UInt8)
  expr:aA
  as_:(List UInt8)
structure aP where
  distinct:Bool
  items:(List bI)
  from_:(List bR)
  where_:(List aA)
  order:(List dL)
  limit:Int
structure dL where
  expr:aA
  desc:Bool
structure bR where
  table:(List UInt8)
  as_:(List UInt8)
  on_:(List aA)
end
instance:Inhabited aA:=⟨(aA.mk 0 0 false (bC.mk 0 0 []) [] [] [] [])⟩
instance:Inhabited bI:=⟨(bI.mk false [] (aA.mk 0 0 false (bC.mk 0 0 []) [] [] [] []) [])⟩
instance:Inhabited aP:=⟨(aP.mk false [] [] [] [] 0)⟩
instance:Inhabited dL:=⟨(dL.mk (aA.mk 0 0 false (bC.mk 0 0 []) [] [] [] []) false)⟩
instance:Inhabited bR:=⟨(bR.mk [] [] [])⟩
structure eY where
  op:Bool
  not_:Bool
  value:Bool
  name:Bool
  least:Int
  most:Int
  subs:Int
instance:Inhabited eY:=⟨(eY.mk false false false false 0 0 0)⟩
structure aB where
  b:(List Int)
  i:Int
  h:Int
instance:Inhabited aB:=⟨(aB.mk [] 0 0)⟩
def okGValue (x:bC):Prop:=okI x.kind∧okI x.num∧okS x.text
mutual
def okGExpr:aA→Prop
  | ⟨a0,a1,a2,a3,a4,a5,a6,a7⟩=>okI a0∧okI a1∧okB a2∧okGValue a3∧okS a4∧okS a5∧(a6.length≤9223372036854775807∧okLGExpr a6)∧(a7.length≤9223372036854775807∧okLGQuery a7)
def okGItem:bI→Prop
  | ⟨a0,a1,a2,a3⟩=>okB a0∧okS a1∧okGExpr a2∧okS a3
def okGQuery:aP→Prop
  | ⟨a0,a1,a2,a3,a4,a5⟩=>okB a0∧(a1.length≤9223372036854775807∧okLGItem a1)∧(a2.length≤9223372036854775807∧okLGSource a2)∧(a3.length≤9223372036854775807∧okLGExpr a3)∧(a4.length≤9223372036854775807∧okLGSortKey a4)∧okI a5
def okGSortKey:dL→Prop
  | ⟨a0,a1⟩=>okGExpr a0∧okB a1
def okGSource:bR→Prop
  | ⟨a0,a1,a2⟩=>okS a0∧okS a1∧(a2.length≤9223372036854775807∧okLGExpr a2)
def okLGExpr:List aA→Prop
  | []=>True
  | x::l=>okGExpr x∧okLGExpr l
def okLGItem:List bI→Prop
  | []=>True
  | x::l=>okGItem x∧okLGItem l
def okLGQuery:List aP→Prop
  | []=>True
  | x::l=>okGQuery x∧okLGQuery l
def okLGSortKey:List dL→Prop
  | []=>True
  | x::l=>okGSortKey x∧okLGSortKey l
def okLGSource:List bR→Prop
  | []=>True
  | x::l=>okGSource x∧okLGSource l
end
def okGForm (x:eY):Prop:=okB x.op∧okB x.not_∧okB x.value∧okB x.name∧okI x.least∧okI x.most∧okI x.subs
def okGL1Cur (x:aB):Prop:=(okL okU8) x.b∧okI x.i∧okI x.h
def vW (p0:aP) (iW:(List aA)) (x46:Int):Option (List aA) :=
  if (decide (x46<(p0.order.length:Int)))=true then ((idx p0.order x46)>>=fun y9=>(appG 136 iW ([y9.expr]:List aA))>>=fun y10=>vW p0 y10 (IntKind.wrap .i64 (x46+1))) else (some iW)
  partial_fixpoint
def vF (p0:aP) (dV:(List aA)) (x30:Int):Option (List aA) :=
  if (decide (x30<(p0.from_.length:Int)))=true then ((idx p0.from_ x30)>>=fun y5=>(appG 136 dV y5.on_)>>=fun y6=>vF p0 y6 (IntKind.wrap .i64 (x30+1))) else ((appG 136 dV p0.where_)>>=fun y7=>vW p0 y7 0)
  partial_fixpoint
mutual
def L6 (p0:aP) (x14:Int) (fJ:(List aA)):Option (List aA) :=
  P7 p0 fJ (IntKind.wrap .i64 (x14+1))
  partial_fixpoint
def P7 (p0:aP) (x3:(List aA)) (x14:Int):Option (List aA) :=
  if (decide (x14<(p0.items.length:Int)))=true then ((idx p0.items x14)>>=fun y1=>if (!y1.star)=true then ((appG 136 x3 ([y1.expr]:List aA))>>=fun y2=>L6 p0 x14 y2) else (L6 p0 x14 x3)) else (vF p0 x3 0)
  partial_fixpoint
end
def qO (p0:aP):Option (List aA) :=
  P7 p0 ([]:List aA) 0
mutual
def yS (p0:(List aA)) (x3:Int) (x8:Int):Option Int :=
  if (decide (x8<(p0.length:Int)))=true then ((idx p0 x8)>>=fun y1=>(jX y1)>>=fun y2=>yS p0 (if y2 > x3 then y2 else x3) (IntKind.wrap .i64 (x8+1))) else (some x3)
  partial_fixpoint
def aD5 (p0:(List aA)):Option Int :=
  yS p0 0 0
  partial_fixpoint
def oO (p0:aP):Option Int :=
  (qO p0)>>=fun y1=>(aD5 y1)>>=fun y2=>some y2
  partial_fixpoint
def rG (p0:aA) (fJ:Int) (x23:Int):Option Int :=
  if (decide (x23<(p0.sub.length:Int)))=true then ((idx p0.sub x23)>>=fun y4=>(oO y4)>>=fun y5=>rG p0 (if y5 > fJ then y5 else fJ) (IntKind.wrap .i64 (x23+1))) else (some (IntKind.wrap .i64 (1+fJ)))
  partial_fixpoint
def vG (p0:aA) (x3:Int) (x11:Int):Option Int :=
  if (decide (x11<(p0.kids.length:Int)))=true then ((idx p0.kids x11)>>=fun y1=>(jX y1)>>=fun y2=>vG p0 (if y2 > x3 then y2 else x3) (IntKind.wrap .i64 (x11+1))) else (rG p0 x3 0)
  partial_fixpoint
def jX (p0:aA):Option Int :=
  vG p0 0 0
  partial_fixpoint
end
def pE (p0:(List UInt8)):Option Bool :=
  (some (if (decide (1≤(p0.length:Int)))=true then (decide ((p0.length:Int)≤20)) else false))>>=fun y1=>some y1
def pO (p0:(List UInt8)):Option Bool :=
  (if (true&&((decide (p0=[]))==false))=true then pE p0 else some default)>>=fun y1=>(some (if (decide (p0=[]))=true then true else y1))>>=fun y2=>some y2
mutual
def vZ (p1:(List aA)) (p0:(List aA)) (x17:Int):Option Bool :=
  if (decide (x17<(p0.length:Int)))=true then ((idx p0 x17)>>=fun y1=>(idx p1 x17)>>=fun y2=>(pK y1 y2)>>=fun y3=>if (!y3)=true then (some false) else (vZ p1 p0 (IntKind.wrap .i64 (x17+1)))) else (some true)
  partial_fixpoint
def zF (p0:(List aA)) (p1:(List aA)):Option Bool :=
  if (!decide ((p0.length:Int)=(p1.length:Int)))=true then (some false) else (vZ p1 p0 0)
  partial_fixpoint
def uA (p0:(List aA)) (p1:(List aA)):Option Bool :=
  (zF p0 p1)>>=fun y1=>some y1
  partial_fixpoint
def P9 (p0:bR) (p1:bR):Option Bool :=
  (some (if (decide (p0.table=p1.table))=true then (decide (p0.as_=p1.as_)) else false))>>=fun y1=>(if (true&&(y1==true))=true then uA p0.on_ p1.on_ else some default)>>=fun y2=>(some (if y1=true then y2 else false))>>=fun y3=>some y3
  partial_fixpoint
def R7 (p1:(List bR)) (p0:(List bR)) (x17:Int):Option Bool :=
  if (decide (x17<(p0.length:Int)))=true then ((idx p0 x17)>>=fun y1=>(idx p1 x17)>>=fun y2=>(P9 y1 y2)>>=fun y3=>if (!y3)=true then (some false) else (R7 p1 p0 (IntKind.wrap .i64 (x17+1)))) else (some true)
  partial_fixpoint
def aAq (p0:(List bR)) (p1:(List bR)):Option Bool :=
  if (!decide ((p0.length:Int)=(p1.length:Int)))=true then (some false) else (R7 p1 p0 0)
  partial_fixpoint
def U1 (p0:dL) (p1:dL):Option Bool :=
  (if (true&&((p0.desc==p1.desc)==true))=true then pK p0.expr p1.expr else some default)>>=fun y1=>(some (if (p0.desc==p1.desc)=true then y1 else false))>>=fun y2=>some y2
  partial_fixpoint
def H6 (p1:(List dL)) (p0:(List dL)) (x17:Int):Option Bool :=
  if (decide (x17<(p0.length:Int)))=true then ((idx p0 x17)>>=fun y1=>(idx p1 x17)>>=fun y2=>(U1 y1 y2)>>=fun y3=>if (!y3)=true then (some false) else (H6 p1 p0 (IntKind.wrap .i64 (x17+1)))) else (some true)
  partial_fixpoint
def Y6 (p0:(List dL)) (p1:(List dL)):Option Bool :=
  if (!decide ((p0.length:Int)=(p1.length:Int)))=true then (some false) else (H6 p1 p0 0)
  partial_fixpoint
def G7 (p0:bI) (p1:bI):Option Bool :=
  (some (if (p0.star==p1.star)=true then (decide (p0.qual=p1.qual)) else false))>>=fun y1=>(some (if y1=true then (decide (p0.as_=p1.as_)) else false))>>=fun y2=>(if (true&&(y2==true))=true then pK p0.expr p1.expr else some default)>>=fun y3=>(some (if y2=true then y3 else false))>>=fun y4=>some y4
  partial_fixpoint
def F4 (p1:(List bI)) (p0:(List bI)) (x17:Int):Option Bool :=
  if (decide (x17<(p0.length:Int)))=true then ((idx p0 x17)>>=fun y1=>(idx p1 x17)>>=fun y2=>(G7 y1 y2)>>=fun y3=>if (!y3)=true then (some false) else (F4 p1 p0 (IntKind.wrap .i64 (x17+1)))) else (some true)
  partial_fixpoint
def aAr (p0:(List bI)) (p1:(List bI)):Option Bool :=
  if (!decide ((p0.length:Int)=(p1.length:Int)))=true then (some false) else (F4 p1 p0 0)
  partial_fixpoint
def U7 (p0:aP) (p1:aP):Option Bool :=
  (some (if (p0.distinct==p1.distinct)=true then (decide (p0.limit=p1.limit)) else false))>>=fun y1=>(if (true&&(y1==true))=true then aAr p0.items p1.items else some default)>>=fun y2=>(some (if y1=true then y2 else false))>>=fun y3=>(if (true&&(y3==true))=true then aAq p0.from_ p1.from_ else some default)>>=fun y4=>(some (if y3=true then y4 else false))>>=fun y5=>(if (true&&(y5==true))=true then uA p0.where_ p1.where_ else some default)>>=fun y6=>(some (if y5=true then y6 else false))>>=fun y7=>(if (true&&(y7==true))=true then Y6 p0.order p1.order else some default)>>=fun y8=>(some (if y7=true then y8 else false))>>=fun y9=>some y9
  partial_fixpoint
def xI (p1:(List aP)) (p0:(List aP)) (x17:Int):Option Bool :=
  if (decide (x17<(p0.length:Int)))=true then ((idx p0 x17)>>=fun y1=>(idx p1 x17)>>=fun y2=>(U7 y1 y2)>>=fun y3=>if (!y3)=true then (some false) else (xI p1 p0 (IntKind.wrap .i64 (x17+1)))) else (some true)
  partial_fixpoint
def xZ (p0:(List aP)) (p1:(List aP)):Option Bool :=
  if (!decide ((p0.length:Int)=(p1.length:Int)))=true then (some false) else (xI p1 p0 0)
  partial_fixpoint
def pK (p0:aA) (p1:aA):Option Bool :=
  (some (if (decide (p0.kind=p1.kind))=true then (decide (p0.op=p1.op)) else false))>>=fun y1=>(some (if y1=true then (p0.not_==p1.not_) else false))>>=fun y2=>(some (if y2=true then ((decide (p0.value.kind=p1.value.kind))&&((decide (p0.value.num=p1.value.num))&&((decide (p0.value.text=p1.value.text))&&true))) else false))>>=fun y3=>(some (if y3=true then (decide (p0.qual=p1.qual)) else false))>>=fun y4=>(some (if y4=true then (decide (p0.name=p1.name)) else false))>>=fun y5=>(if (true&&(y5==true))=true then uA p0.kids p1.kids else some default)>>=fun y6=>(some (if y5=true then y6 else false))>>=fun y7=>(if (true&&(y7==true))=true then xZ p0.sub p1.sub else some default)>>=fun y8=>(some (if y7=true then y8 else false))>>=fun y9=>some y9
  partial_fixpoint
end
def xL (p0:aA):Option Bool :=
  (pK p0 (aA.mk 0 0 false (bC.mk 0 0 []) [] [] ([]:List aA) ([]:List aP)))>>=fun y1=>some y1
def Z5 (p0:bC):Option Bool :=
  if (decide (p0.kind=0))=true then ((some (if (decide (p0.num=0))=true then (decide (p0.text=[])) else false))>>=fun y1=>some y1) else (if (decide (p0.kind=1))=true then (some (decide (p0.text=[]))) else (if (decide (p0.kind=2))=true then ((some (if (decide (p0.num=0))=true then (decide ((p0.text.length:Int)≤200)) else false))>>=fun y2=>some y2) else (if (decide (p0.kind=3))=true then ((some (if (decide (p0.num=0))=true then true else (decide (p0.num=1))))>>=fun y3=>(some (if y3=true then (decide (p0.text=[])) else false))>>=fun y4=>some y4) else (some false))))
def zL (p0:bC):Option Bool :=
  (Z5 p0)>>=fun y1=>(if (true&&(y1==true))=true then some (if (!decide (p0.kind=1))=true then true else (decide (0≤p0.num))) else some default)>>=fun y2=>(some (if y1=true then y2 else false))>>=fun y3=>(some (if y3=true then (decide ((p0.text.length:Int)≤40)) else false))>>=fun y4=>some y4
def wZ (p0:aA):Option (eY×Bool) :=
  if (decide (p0.kind=1))=true then ((zL p0.value)>>=fun y1=>some ((eY.mk false false true false 0 0 0),y1)) else (if (decide (p0.kind=2))=true then ((pE p0.name)>>=fun y2=>(if ((true&&(y2==true))&&((decide (p0.qual=[]))==false))=true then pE p0.qual else some default)>>=fun y3=>(if (true&&(y2==true))=true then some (if (decide (p0.qual=[]))=true then true else y3) else some default)>>=fun y4=>(some (if y2=true then y4 else false))>>=fun y5=>some ((eY.mk false false false true 0 0 0),y5)) else (if (decide (p0.kind=3))=true then ((some (if (decide (p0.op=15))=true then true else (decide (p0.op=16))))>>=fun y6=>some ((eY.mk true false false false 1 1 0),y6)) else (if (decide (p0.kind=4))=true then ((some (if (decide (1≤p0.op))=true then (decide (p0.op≤14)) else false))>>=fun y7=>some ((eY.mk true false false false 2 2 0),y7)) else (if (decide (p0.kind=5))=true then (some ((eY.mk false true false false 1 1 0),true)) else (if (decide (p0.kind=6))=true then (some ((eY.mk false true false false 3 3 0),true)) else (if (decide (p0.kind=7))=true then (some ((eY.mk false true false false 2 9 0),true)) else (if (decide (p0.kind=8))=true then (some ((eY.mk false true false false 1 1 1),true)) else (if (decide (p0.kind=9))=true then (some ((eY.mk false false false false 0 0 1),true)) else (some ((eY.mk false false false false 0 0 0),false))))))))))
mutual
def aB8 (p0:aA):Option Bool :=
  (lF p0)>>=fun y1=>some (!y1)
  partial_fixpoint
def wU (p0:(List aA)) (x8:Int):Option Int :=
  if (decide (x8<(p0.length:Int)))=true then ((idx p0 x8)>>=fun y1=>(aB8 y1)>>=fun y2=>if y2=true then (some x8) else (wU p0 (IntKind.wrap .i64 (x8+1)))) else (some (-1))
  partial_fixpoint
def aFa (p0:(List aA)):Option Int :=
  wU p0 0
  partial_fixpoint
def aDy (p0:(List aA)):Option Bool :=
  (aFa p0)>>=fun y1=>some (decide (0≤y1))
  partial_fixpoint
def wF (p0:(List aA)):Option Bool :=
  (aDy p0)>>=fun y1=>some (!y1)
  partial_fixpoint
def xH (p0:aP) (x92:Int):Option Bool :=
  if (decide (x92<(p0.from_.length:Int)))=true then ((idx p0.from_ x92)>>=fun y17=>(pE y17.table)>>=fun y18=>(if (true&&((!y18)==false))=true then pO y17.as_ else some default)>>=fun y19=>(some (if (!y18)=true then true else (!y19)))>>=fun y20=>(some (if y20=true then true else (decide (1<(y17.on_.length:Int)))))>>=fun y21=>(if (true&&(y21==false))=true then some (if (decide (x92=0))=true then (decide (0<(y17.on_.length:Int))) else false) else some default)>>=fun y22=>(some (if y21=true then true else y22))>>=fun y23=>if y23=true then (some false) else (xH p0 (IntKind.wrap .i64 (x92+1)))) else ((qO p0)>>=fun y24=>(wF y24)>>=fun y25=>some y25)
  partial_fixpoint
def xY (p0:aP) (x49:Int):Option Bool :=
  if (decide (x49<(p0.items.length:Int)))=true then ((idx p0.items x49)>>=fun y7=>(if (true&&(y7.star==true))=true then pO y7.qual else some default)>>=fun y8=>(if (true&&(y7.star==true))=true then some (if (!y8)=true then true else (!decide (y7.as_=[]))) else some default)>>=fun y9=>(if ((true&&(y7.star==true))&&(y9==false))=true then xL y7.expr else some default)>>=fun y10=>(if (true&&(y7.star==true))=true then some (if y9=true then true else (!y10)) else some default)>>=fun y11=>(some (if y7.star=true then y11 else false))>>=fun y12=>(if (((true&&(y12==false))&&((!y7.star)==true))&&((!decide (y7.qual=[]))==false))=true then pO y7.as_ else some default)>>=fun y13=>(if ((true&&(y12==false))&&((!y7.star)==true))=true then some (if (!decide (y7.qual=[]))=true then true else (!y13)) else some default)>>=fun y14=>(if (true&&(y12==false))=true then some (if (!y7.star)=true then y14 else false) else some default)>>=fun y15=>(some (if y12=true then true else y15))>>=fun y16=>if y16=true then (some false) else (xY p0 (IntKind.wrap .i64 (x49+1)))) else (xH p0 0)
  partial_fixpoint
def oG (p0:aP):Option Bool :=
  (some (if (decide ((p0.items.length:Int)<1))=true then true else (decide (12<(p0.items.length:Int)))))>>=fun y1=>(some (if y1=true then true else (decide ((p0.from_.length:Int)<1))))>>=fun y2=>(some (if y2=true then true else (decide (3<(p0.from_.length:Int)))))>>=fun y3=>(some (if y3=true then true else (decide (1<(p0.where_.length:Int)))))>>=fun y4=>(some (if y4=true then true else (decide (12<(p0.order.length:Int)))))>>=fun y5=>(some (if y5=true then true else (decide (p0.limit<(-1)))))>>=fun y6=>if y6=true then (some false) else (xY p0 0)
  partial_fixpoint
def aBr (p0:aP):Option Bool :=
  (oG p0)>>=fun y1=>some (!y1)
  partial_fixpoint
def rZ (p0:(List aP)) (x8:Int):Option Int :=
  if (decide (x8<(p0.length:Int)))=true then ((idx p0 x8)>>=fun y1=>(aBr y1)>>=fun y2=>if y2=true then (some x8) else (rZ p0 (IntKind.wrap .i64 (x8+1)))) else (some (-1))
  partial_fixpoint
def S9 (p0:(List aP)):Option Int :=
  rZ p0 0
  partial_fixpoint
def uC (p0:(List aP)):Option Bool :=
  (S9 p0)>>=fun y1=>some (decide (0≤y1))
  partial_fixpoint
def lF (p0:aA):Option Bool :=
  (wZ p0)>>=fun y1=>(if (true&&((!y1.2)==false))=true then some (if (!y1.1.op)=true then (!decide (p0.op=0)) else false) else some default)>>=fun y2=>(some (if (!y1.2)=true then true else y2))>>=fun y3=>(if (true&&(y3==false))=true then some (if (!y1.1.not_)=true then p0.not_ else false) else some default)>>=fun y4=>(some (if y3=true then true else y4))>>=fun y5=>(if (true&&(y5==false))=true then some (if (!y1.1.value)=true then (!((decide (p0.value.kind=0))&&((decide (p0.value.num=0))&&((decide (p0.value.text=[]))&&true)))) else false) else some default)>>=fun y6=>(some (if y5=true then true else y6))>>=fun y7=>(if ((true&&(y7==false))&&((!y1.1.name)==true))=true then some (if (!decide (p0.qual=[]))=true then true else (!decide (p0.name=[]))) else some default)>>=fun y8=>(if (true&&(y7==false))=true then some (if (!y1.1.name)=true then y8 else false) else some default)>>=fun y9=>(some (if y7=true then true else y9))>>=fun y10=>if y10=true then (some false) else ((some (if (decide ((p0.kids.length:Int)<y1.1.least))=true then true else (decide (y1.1.most<(p0.kids.length:Int)))))>>=fun y11=>(some (if y11=true then true else (!decide ((p0.sub.length:Int)=y1.1.subs))))>>=fun y12=>if y12=true then (some false) else ((wF p0.kids)>>=fun y13=>(if (true&&(y13==true))=true then uC p0.sub else some default)>>=fun y14=>(some (if y13=true then (!y14) else false))>>=fun y15=>some y15))
  partial_fixpoint
end
def uX (p0:Int) (p1:Int):Option Bool :=
  (some (if (decide (p0≤24))=true then (decide (p1≤200)) else false))>>=fun y1=>some y1
mutual
def nI (p0:aP):Option Int :=
  (qO p0)>>=fun y1=>(K4 y1)>>=fun y2=>some y2
  partial_fixpoint
def vR (p0:aA) (x3:Int) (x13:Int):Option Int :=
  if (decide (x13<(p0.sub.length:Int)))=true then ((idx p0.sub x13)>>=fun y2=>(nI y2)>>=fun y3=>vR p0 (IntKind.wrap .i64 (x3+y3)) (IntKind.wrap .i64 (x13+1))) else (some x3)
  partial_fixpoint
def M0 (p0:(List aA)) (x3:Int) (x8:Int):Option Int :=
  if (decide (x8<(p0.length:Int)))=true then ((idx p0 x8)>>=fun y1=>(kY y1)>>=fun y2=>M0 p0 (IntKind.wrap .i64 (x3+y2)) (IntKind.wrap .i64 (x8+1))) else (some x3)
  partial_fixpoint
def K4 (p0:(List aA)):Option Int :=
  M0 p0 0 0
  partial_fixpoint
def kY (p0:aA):Option Int :=
  (K4 p0.kids)>>=fun y1=>vR p0 (IntKind.wrap .i64 (1+y1)) 0
  partial_fixpoint
end
def oV (p0:aA):Option Bool :=
  (jX p0)>>=fun y1=>(kY p0)>>=fun y2=>(uX y1 y2)>>=fun y3=>(if (true&&(y3==true))=true then lF p0 else some default)>>=fun y4=>(some (if y3=true then y4 else false))>>=fun y5=>some y5
def Y0 (p0:aB) (x3:Int) (bN:Int):Option (Int×aB) :=
  some (x3,(aB.mk p0.b bN (IntKind.wrap .i64 ((IntKind.wrap .i64 (p0.h * 6364136223846793005))+1442695040888963407))))
def lM (p0:aB):Option (Int×aB) :=
  if (decide (p0.i<(p0.b.length:Int)))=true then ((idx p0.b p0.i)>>=fun y1=>Y0 p0 (IntKind.wrap .i64 ((BitVec.ofInt (IntKind.bits .i64) (IntKind.wrap .i64 ((IntKind.wrap .i64 ((BitVec.ofInt (IntKind.bits .i64) (IntKind.wrap .i64 ((BitVec.ofInt (IntKind.bits .i64) (Int.fdiv (IntKind.wrap .i64 ((IntKind.wrap .i64 (p0.h * 6364136223846793005))+1442695040888963407)) (2 ^ 33)) ^^^ BitVec.ofInt (IntKind.bits .i64) (Int.fdiv (IntKind.wrap .i64 ((IntKind.wrap .i64 (p0.h * 6364136223846793005))+1442695040888963407)) (2 ^ 45))).toNat:Int)) &&& BitVec.ofInt (IntKind.bits .i64) 255).toNat:Int))+(IntKind.wrap .i64 y1))) &&& BitVec.ofInt (IntKind.bits .i64) 255).toNat:Int)) (IntKind.wrap .i64 (p0.i+1))) else (Y0 p0 (IntKind.wrap .i64 ((BitVec.ofInt (IntKind.bits .i64) (IntKind.wrap .i64 ((BitVec.ofInt (IntKind.bits .i64) (Int.fdiv (IntKind.wrap .i64 ((IntKind.wrap .i64 (p0.h * 6364136223846793005))+1442695040888963407)) (2 ^ 33)) ^^^ BitVec.ofInt (IntKind.bits .i64) (Int.fdiv (IntKind.wrap .i64 ((IntKind.wrap .i64 (p0.h * 6364136223846793005))+1442695040888963407)) (2 ^ 45))).toNat:Int)) &&& BitVec.ofInt (IntKind.bits .i64) 255).toNat:Int)) p0.i)
def eZ (p0:aB) (p1:Int):Option (Int×aB) :=
  if (decide (p1≤0))=true then (some (0,p0)) else (if (decide (p1≤256))=true then ((lM p0)>>=fun y1=>(Q3 y1.1 p1)>>=fun y2=>some (y2,y1.2)) else ((lM p0)>>=fun y3=>(lM y3.2)>>=fun y4=>(lM y4.2)>>=fun y5=>(lM y5.2)>>=fun y6=>(Q3 (IntKind.wrap .i64 ((IntKind.wrap .i64 ((IntKind.wrap .i64 ((IntKind.wrap .i64 (y3.1 * 16777216))+(IntKind.wrap .i64 (y4.1 * 65536))))+(IntKind.wrap .i64 (y5.1 * 256))))+y6.1)) p1)>>=fun y7=>some (y7,y6.2)))
def vH (p0:(List Int)) (x3:Int) (x4:Int):Option aB :=
  (some (if (decide (x4<(p0.length:Int)))=true then (decide (x4<4000)) else false))>>=fun y1=>if y1=true then ((idx p0 x4)>>=fun y2=>vH p0 (IntKind.wrap .i64 ((BitVec.ofInt (IntKind.bits .i64) (IntKind.wrap .i64 ((IntKind.wrap .i64 ((IntKind.wrap .i64 (x3 * 131))+(IntKind.wrap .i64 y2)))+7)) &&& BitVec.ofInt (IntKind.bits .i64) 1073741823).toNat:Int)) (IntKind.wrap .i64 (x4+1))) else (some (aB.mk p0 0 x3))
  partial_fixpoint
def I9 (p0:(List Int)):Option aB :=
  vH p0 (IntKind.wrap .i64 (28322+(p0.length:Int))) 0
def fE (p0:aB) (p1:Int):Option (Bool×aB) :=
  (eZ p0 p1)>>=fun y1=>some ((decide (y1.1=0)),y1.2)
def X9 (p0:(List Int)) (p1:Int):Option Int :=
  if (decide (p1<(IntKind.wrap .i64 (2+(IntKind.wrap .i64 (Int.tdiv (p0.length:Int) 20))))))=true then (some p1) else (some (IntKind.wrap .i64 (2+(IntKind.wrap .i64 (Int.tdiv (p0.length:Int) 20)))))
def pY (p0:aB) (p1:(List Int)):Option (Int×aB) :=
  (eZ p0 (p1.length:Int))>>=fun y1=>(idx p1 y1.1)>>=fun y2=>some (y2,y1.2)
def uU (p1:Int) (x5:(List Int)) (x6:Int) (bV:(List Int)) (bN:Int) (dJ:Int):Option ((List Int)×aB) :=
  if (decide (x6<p1))=true then ((lM (aB.mk bV bN dJ))>>=fun y1=>(appG 1 x5 ([(IntKind.wrap .u8 y1.1)]:List Int))>>=fun y2=>uU p1 y2 (IntKind.wrap .i64 (x6+1)) y1.2.b y1.2.i y1.2.h) else (some (x5,(aB.mk bV bN dJ)))
  partial_fixpoint
def aDr (p0:aB) (p1:Int):Option ((List Int)×aB) :=
  uU p1 ([]:List Int) 0 p0.b p0.i p0.h
def jM (p0:aB) (p1:(List (List UInt8))):Option ((List UInt8)×aB) :=
  (eZ p0 (p1.length:Int))>>=fun y1=>(idx p1 y1.1)>>=fun y2=>some (y2,y1.2)
def oZ (p0:aB):Option ((List UInt8)×aB) :=
  (fE p0 6)>>=fun y1=>if y1.1=true then ((jM y1.2 ([[97,32,98],[102,114,111,109],[83,101,108,101,99,116],[49,120],[113,34,113],[0],[34],[105,116,39,115],[120,46,121],[45]]:List (List UInt8)))>>=fun y2=>some (y2.1,y2.2)) else ((jM y1.2 ([[97],[98],[99],[116],[117],[118],[105,100],[110,97,109,101],[65],[95,120,49]]:List (List UInt8)))>>=fun y3=>some (y3.1,y3.2))
def aD4:Option (List (List UInt8)) :=
  some ([[],[83,69,76,69,67,84],[68,73,83,84,73,78,67,84],[70,82,79,77],[74,79,73,78],[79,78],[87,72,69,82,69],[79,82,68,69,82],[66,89],[65,83,67],[68,69,83,67],[76,73,77,73,84],[65,83],[65,78,68],[79,82],[78,79,84],[73,83],[73,78],[66,69,84,87,69,69,78],[69,88,73,83,84,83],[78,85,76,76],[84,82,85,69],[70,65,76,83,69],[73,78,83,69,82,84],[73,78,84,79],[86,65,76,85,69,83],[85,80,68,65,84,69],[83,69,84],[68,69,76,69,84,69]]:List (List UInt8))
def wL (p0:aB):Option ((List UInt8)×aB) :=
  (eZ p0 6)>>=fun y1=>if (decide (y1.1=0))=true then ((jM y1.2 ([[],[97,98,99,100,101,102,103,104,105,106,107,108,109,110,111,112,113,114,115,116],[97,98,99,100,101,102,103,104,105,106,107,108,109,110,111,112,113,114,115,116,117],[108,105,109,105,116],[76,73,77,73,84,83],[65,83,99],[57],[97,57],[195,169]]:List (List UInt8)))>>=fun y2=>some (y2.1,y2.2)) else (if (decide (y1.1=1))=true then ((aD4)>>=fun y3=>(eZ y1.2 29)>>=fun y4=>(idx y3 y4.1)>>=fun y5=>some (y5,y4.2)) else (if (decide (y1.1=2))=true then ((eZ y1.2 5)>>=fun y6=>(aDr y6.2 y6.1)>>=fun y7=>(ofBytes y7.1)>>=fun y8=>some (y8,y7.2)) else ((oZ y1.2)>>=fun y9=>some (y9.1,y9.2))))
def vT (p0:aB):Option (Int×aB) :=
  (eZ p0 3)>>=fun y1=>if (decide (y1.1=0))=true then ((pY y1.2 ([0,1,(-1),63,64,(-64),(-65),127,128,16383,16384,9223372036854775807,(-9223372036854775808),4611686018427387904]:List Int))>>=fun y2=>some (y2.1,y2.2)) else (if (decide (y1.1=1))=true then ((eZ y1.2 1000000)>>=fun y3=>some ((IntKind.wrap .i64 (y3.1 - 500000)),y3.2)) else ((eZ y1.2 20)>>=fun y4=>some (y4.1,y4.2)))
def uD (eP:Int) (dU:Int) (eO:(List UInt8)) (bV:(List Int)) (bN:Int) (dJ:Int):Option (bC×aB) :=
  some ((bC.mk eP dU eO),(aB.mk bV bN dJ))
def vE (y1:bC×aB) (iM:(List UInt8)) (lZ:(List Int)) (lW:Int) (kZ:Int):Option (bC×aB) :=
  (fE (aB.mk lZ lW kZ) 2)>>=fun y10=>(some (if y10.1=true then (decide ((iM.length:Int)<400)) else false))>>=fun y11=>if y11=true then ((D9 iM iM)>>=fun y12=>(D9 y12 [48,49,50,51,52,53,54,55,56,57])>>=fun y13=>vE y1 y13 y10.2.b y10.2.i y10.2.h) else (uD y1.1.kind y1.1.num iM y10.2.b y10.2.i y10.2.h)
  partial_fixpoint
def aFf (p0:Bool):Option bC :=
  if p0=true then (some (bC.mk 3 1 [])) else (some (bC.mk 3 0 []))
def aCa (p0:Int):Option bC :=
  some (bC.mk 1 p0 [])
def aE4 (p0:(List UInt8)):Option bC :=
  some (bC.mk 2 0 p0)
def uK (p0:aB):Option (bC×aB) :=
  (eZ p0 6)>>=fun y1=>if (decide (y1.1=0))=true then (some ((bC.mk 0 0 []),y1.2)) else (if (decide (y1.1=1))=true then ((jM y1.2 ([[],[97],[98],[105,116,39,115],[97,98],[255]]:List (List UInt8)))>>=fun y2=>(aE4 y2.1)>>=fun y3=>some (y3,y2.2)) else (if (decide (y1.1=2))=true then ((fE y1.2 2)>>=fun y4=>(aFf y4.1)>>=fun y5=>some (y5,y4.2)) else (if (decide (y1.1=3))=true then ((vT y1.2)>>=fun y6=>(aCa y6.1)>>=fun y7=>some (y7,y6.2)) else ((eZ y1.2 7)>>=fun y8=>(aCa (IntKind.wrap .i64 (y8.1 - 2)))>>=fun y9=>some (y9,y8.2)))))
def wO (p0:aB):Option (bC×aB) :=
  (uK p0)>>=fun y1=>(eZ y1.2 14)>>=fun y2=>if (decide (y2.1=0))=true then ((eZ y2.2 6)>>=fun y3=>uD (IntKind.wrap .i64 (y3.1 - 1)) y1.1.num y1.1.text y3.2.b y3.2.i y3.2.h) else (if (decide (y2.1=1))=true then ((vT y2.2)>>=fun y4=>uD y1.1.kind y4.1 y1.1.text y4.2.b y4.2.i y4.2.h) else (if (decide (y2.1=2))=true then ((jM y2.2 ([[120],[],[108,111,110,103]]:List (List UInt8)))>>=fun y5=>vE y1 y5.1 y5.2.b y5.2.i y5.2.h) else (uD y1.1.kind y1.1.num y1.1.text y2.2.b y2.2.i y2.2.h)))
def qI (eP:Int) (dU:Int) (eO:Bool) (gH:Int) (fU:Int) (nZ:(List UInt8)) (fT:(List UInt8)) (iU:(List UInt8)) (bV:(List Int)) (bN:Int) (dJ:Int) (uN:(List aA)) (tN:(List aP)):Option (aA×aB) :=
  some ((aA.mk eP dU eO (bC.mk gH fU nZ) fT iU uN tN),(aB.mk bV bN dJ))
def aAu (fT:(List UInt8)) (iU:(List UInt8)) (rJ:(List Int)) (rO:Int) (qM:Int):Option (aA×aB) :=
  some ((aA.mk 2 0 false (bC.mk 0 0 []) fT iU ([]:List aA) ([]:List aP)),(aB.mk rJ rO qM))
def V3 (y1:(List UInt8)×aB) (fT:(List UInt8)) (bV:(List Int)) (bN:Int) (dJ:Int):Option (aA×aB) :=
  (fE (aB.mk bV bN dJ) 12)>>=fun y4=>if y4.1=true then ((oZ y4.2)>>=fun y5=>aAu fT y5.1 y5.2.b y5.2.i y5.2.h) else (aAu fT y1.1 y4.2.b y4.2.i y4.2.h)
def rD (p0:aB):Option (aA×aB) :=
  (jM p0 ([[97],[98],[99],[105,100],[110,97,109,101]]:List (List UInt8)))>>=fun y1=>(fE y1.2 3)>>=fun y2=>if y2.1=true then ((jM y2.2 ([[116],[117],[118]]:List (List UInt8)))>>=fun y3=>V3 y1 y3.1 y3.2.b y3.2.i y3.2.h) else (V3 y1 [] y2.2.b y2.2.i y2.2.h)
def vX (p0:aB) (p1:aA):Option (aA×aB) :=
  (if (true&&((decide (0<(p1.kids.length:Int)))==true))=true then fE p0 2 else some ((default:Bool),p0))>>=fun y1=>(some (if (decide (0<(p1.kids.length:Int)))=true then y1.1 else false))>>=fun y2=>if y2=true then ((eZ y1.2 (p1.kids.length:Int))>>=fun y3=>(idx p1.kids y3.1)>>=fun y4=>(vX y3.2 y4)>>=fun y5=>some ((aA.mk p1.kind p1.op p1.not_ p1.value p1.qual p1.name (p1.kids.set (y3.1).toNat y5.1) p1.sub),y5.2)) else ((eZ y1.2 8)>>=fun y6=>if (decide (y6.1=0))=true then ((eZ y6.2 12)>>=fun y7=>qI (IntKind.wrap .i64 (y7.1 - 1)) p1.op p1.not_ p1.value.kind p1.value.num p1.value.text p1.qual p1.name y7.2.b y7.2.i y7.2.h p1.kids p1.sub) else (if (decide (y6.1=1))=true then ((pY y6.2 ([0,1,14,15,16,17,(-1)]:List Int))>>=fun y8=>qI p1.kind y8.1 p1.not_ p1.value.kind p1.value.num p1.value.text p1.qual p1.name y8.2.b y8.2.i y8.2.h p1.kids p1.sub) else (if (decide (y6.1=2))=true then (qI p1.kind p1.op (!p1.not_) p1.value.kind p1.value.num p1.value.text p1.qual p1.name y6.2.b y6.2.i y6.2.h p1.kids p1.sub) else (if (decide (y6.1=3))=true then ((wO y6.2)>>=fun y9=>qI p1.kind p1.op p1.not_ y9.1.kind y9.1.num y9.1.text p1.qual p1.name y9.2.b y9.2.i y9.2.h p1.kids p1.sub) else (if (decide (y6.1=4))=true then ((wL y6.2)>>=fun y10=>qI p1.kind p1.op p1.not_ p1.value.kind p1.value.num p1.value.text p1.qual y10.1 y10.2.b y10.2.i y10.2.h p1.kids p1.sub) else (if (decide (y6.1=5))=true then ((wL y6.2)>>=fun y11=>qI p1.kind p1.op p1.not_ p1.value.kind p1.value.num p1.value.text y11.1 p1.name y11.2.b y11.2.i y11.2.h p1.kids p1.sub) else (if (decide (y6.1=6))=true then ((rD y6.2)>>=fun y12=>(appG 136 p1.kids ([y12.1]:List aA))>>=fun y13=>qI p1.kind p1.op p1.not_ p1.value.kind p1.value.num p1.value.text p1.qual p1.name y12.2.b y12.2.i y12.2.h y13 p1.sub) else ((appG 112 p1.sub ([(aP.mk false ([]:List bI) ([]:List bR) ([]:List aA) ([]:List dL) 0)]:List aP))>>=fun y14=>qI p1.kind p1.op p1.not_ p1.value.kind p1.value.num p1.value.text p1.qual p1.name y6.2.b y6.2.i y6.2.h p1.kids y14))))))))
  partial_fixpoint
def uH (y2:Int×aB) (x5:Int) (eP:Int) (dU:Int) (eO:Bool) (gH:Int) (fU:Int) (bS:((List UInt8)×((List UInt8)×((List UInt8)×((List aA)×(List aP)))))):Option (aA×aB) :=
  if (decide (x5<(IntKind.wrap .i64 (22+y2.1))))=true then (uH y2 (IntKind.wrap .i64 (x5+1)) 3 16 false 0 0 ([],([],([],(([(aA.mk eP dU eO (bC.mk gH fU bS.1) bS.2.1 bS.2.2.1 bS.2.2.2.1 bS.2.2.2.2)]:List aA),([]:List aP)))))) else (some ((aA.mk eP dU eO (bC.mk gH fU bS.1) bS.2.1 bS.2.2.1 bS.2.2.2.1 bS.2.2.2.2),y2.2))
  partial_fixpoint
def zZ (p0:aB):Option (aA×aB) :=
  (rD p0)>>=fun y1=>(eZ y1.2 3)>>=fun y2=>uH y2 0 y1.1.kind y1.1.op y1.1.not_ y1.1.value.kind y1.1.value.num (y1.1.value.text,(y1.1.qual,(y1.1.name,(y1.1.kids,y1.1.sub))))
def aA0 (nQ:Int) (oH:Int) (nG:Bool) (nL:Int) (nM:Int) (nR:(List UInt8)) (nP:(List UInt8)) (oD:(List UInt8)) (qK:(List aA)) (qF:(List aP)):Option aA :=
  some (aA.mk nQ oH nG (bC.mk nL nM nR) nP oD qK qF)
def aAk (y1:Bool×aB) (jC:(List dL)) (iY:(List aA)) (iZ:(List bR)) (bL:(List bI)) (nK:Int) (qZ:(List Int)) (rH:Int) (qV:Int):Option (aP×aB) :=
  some ((aP.mk y1.1 bL iZ iY jC nK),(aB.mk qZ rH qV))
def zO (y1:Bool×aB) (iZ:(List bR)) (bL:(List bI)) (tH:(List Int)) (uE:Int) (sS:Int) (jC:(List dL)) (iY:(List aA)):Option (aP×aB) :=
  (fE (aB.mk tH uE sS) 4)>>=fun y46=>if y46.1=true then ((pY y46.2 ([0,1,2,9223372036854775807]:List Int))>>=fun y47=>aAk y1 jC iY iZ bL y47.1 y47.2.b y47.2.i y47.2.h) else (aAk y1 jC iY iZ bL (-1) y46.2.b y46.2.i y46.2.h)
def aBp (y1:bC×aB) (dU:Int):Option (bC×aB) :=
  some ((bC.mk y1.1.kind dU y1.1.text),y1.2)
def zI (p0:aB):Option (bC×aB) :=
  (uK p0)>>=fun y1=>(some (if (decide (y1.1.kind=1))=true then (decide (y1.1.num<0)) else false))>>=fun y2=>if y2=true then (aBp y1 9223372036854775807) else (aBp y1 y1.1.num)
mutual
def xD (p1:Int) (y1:Bool×aB) (bL:(List bI)) (lQ:(List Int)) (lV:Int) (lH:Int) (fQ:((List aA)×(List bR))):Option (aP×aB) :=
  (fE (aB.mk lQ lV lH) 3)>>=fun y38=>if y38.1=true then ((lU y38.2 p1)>>=fun y39=>(fE y39.2 2)>>=fun y40=>(appG 144 ([]:List dL) ([(dL.mk y39.1 y40.1)]:List dL))>>=fun y41=>zO y1 fQ.2 bL y40.2.b y40.2.i y40.2.h y41 fQ.1) else (zO y1 fQ.2 bL y38.2.b y38.2.i y38.2.h ([]:List dL) fQ.1)
  partial_fixpoint
def O8 (p1:Int) (y16:Int×aB) (x9:Int) (y1:Bool×aB) (y21:(List UInt8)×aB) (kE:(List UInt8)) (eT:((List bI)×((List Int)×(Int×(Int×((List aA)×(List bR))))))):Option (aP×aB) :=
  (appG 56 eT.2.2.2.2.2 ([(bR.mk y21.1 kE eT.2.2.2.2.1)]:List bR))>>=fun y45=>wE p1 y16 y1 eT.1 (IntKind.wrap .i64 (x9+1)) eT.2.1 (eT.2.2.1,(eT.2.2.2.1,y45))
  partial_fixpoint
def E5 (p1:Int) (y16:Int×aB) (x9:Int) (y1:Bool×aB) (y21:(List UInt8)×aB) (jI:(List bR)) (eB:((List bI)×((List UInt8)×((List Int)×(Int×Int))))):Option (aP×aB) :=
  (if (true&&((decide (0<x9))==true))=true then fE (aB.mk eB.2.2.1 eB.2.2.2.1 eB.2.2.2.2) 2 else some ((default:Bool),(aB.mk eB.2.2.1 eB.2.2.2.1 eB.2.2.2.2)))>>=fun y32=>(some (if (decide (0<x9))=true then y32.1 else false))>>=fun y33=>if y33=true then ((lU y32.2 p1)>>=fun y34=>O8 p1 y16 x9 y1 y21 eB.2.1 (eB.1,(y34.2.b,(y34.2.i,(y34.2.h,(([y34.1]:List aA),jI)))))) else (O8 p1 y16 x9 y1 y21 eB.2.1 (eB.1,(y32.2.b,(y32.2.i,(y32.2.h,(([]:List aA),jI))))))
  partial_fixpoint
def wE (p1:Int) (y16:Int×aB) (y1:Bool×aB) (bL:(List bI)) (x9:Int) (kL:(List Int)) (eU:(Int×(Int×(List bR)))):Option (aP×aB) :=
  if (decide (x9<(IntKind.wrap .i64 (1+y16.1))))=true then ((jM (aB.mk kL eU.1 eU.2.1) ([[116],[117],[118]]:List (List UInt8)))>>=fun y21=>(fE y21.2 3)>>=fun y22=>if y22.1=true then ((oZ y22.2)>>=fun y23=>E5 p1 y16 x9 y1 y21 eU.2.2 (bL,(y23.1,(y23.2.b,(y23.2.i,y23.2.h))))) else (E5 p1 y16 x9 y1 y21 eU.2.2 (bL,([],(y22.2.b,(y22.2.i,y22.2.h)))))) else ((fE (aB.mk kL eU.1 eU.2.1) 2)>>=fun y27=>if y27.1=true then ((lU y27.2 p1)>>=fun y28=>xD p1 y1 bL y28.2.b y28.2.i y28.2.h (([y28.1]:List aA),eU.2.2)) else (xD p1 y1 bL y27.2.b y27.2.i y27.2.h (([]:List aA),eU.2.2)))
  partial_fixpoint
def K7 (p1:Int) (y2:Int×aB) (x7:Int) (y1:Bool×aB) (y10:aA×aB) (bL:(List bI)) (fM:((List UInt8)×((List Int)×(Int×Int)))):Option (aP×aB) :=
  (appG 176 bL ([(bI.mk false [] y10.1 fM.1)]:List bI))>>=fun y20=>xJ p1 y2 x7 y1 fM.2.1 fM.2.2.1 (fM.2.2.2,y20)
  partial_fixpoint
def xJ (p1:Int) (y2:Int×aB) (x7:Int) (y1:Bool×aB) (lK:(List Int)) (lY:Int) (jZ:(Int×(List bI))):Option (aP×aB) :=
  uT p1 y2 y1 (IntKind.wrap .i64 (x7+1)) lK lY (jZ.1,jZ.2)
  partial_fixpoint
def uT (p1:Int) (y2:Int×aB) (y1:Bool×aB) (x7:Int) (bV:(List Int)) (bN:Int) (fI:(Int×(List bI))):Option (aP×aB) :=
  if (decide (x7<(IntKind.wrap .i64 (1+y2.1))))=true then ((eZ (aB.mk bV bN fI.1) 5)>>=fun y3=>if (decide (y3.1=0))=true then ((appG 176 fI.2 ([(bI.mk true [] (aA.mk 0 0 false (bC.mk 0 0 []) [] [] ([]:List aA) ([]:List aP)) [])]:List bI))>>=fun y4=>xJ p1 y2 x7 y1 y3.2.b y3.2.i (y3.2.h,y4)) else (if (decide (y3.1=1))=true then ((jM y3.2 ([[116],[117]]:List (List UInt8)))>>=fun y8=>(appG 176 fI.2 ([(bI.mk true y8.1 (aA.mk 0 0 false (bC.mk 0 0 []) [] [] ([]:List aA) ([]:List aP)) [])]:List bI))>>=fun y9=>xJ p1 y2 x7 y1 y8.2.b y8.2.i (y8.2.h,y9)) else ((lU y3.2 p1)>>=fun y10=>(fE y10.2 2)>>=fun y11=>if y11.1=true then ((oZ y11.2)>>=fun y12=>K7 p1 y2 x7 y1 y10 fI.2 (y12.1,(y12.2.b,(y12.2.i,y12.2.h)))) else (K7 p1 y2 x7 y1 y10 fI.2 ([],(y11.2.b,(y11.2.i,y11.2.h))))))) else ((eZ (aB.mk bV bN fI.1) 2)>>=fun y16=>wE p1 y16 y1 fI.2 0 y16.2.b (y16.2.i,(y16.2.h,([]:List bR))))
  partial_fixpoint
def yF (p0:aB) (p1:Int):Option (aP×aB) :=
  (fE p0 4)>>=fun y1=>(eZ y1.2 2)>>=fun y2=>uT p1 y2 y1 0 y2.2.b y2.2.i (y2.2.h,([]:List bI))
  partial_fixpoint
def zA (p1:Int) (p2:Int) (x8:Int) (bV:(List Int)) (bN:Int) (dJ:Int) (kH:(List aA)):Option ((List aA)×aB) :=
  if (decide (x8<p2))=true then ((lU (aB.mk bV bN dJ) (IntKind.wrap .i64 (p1 - 1)))>>=fun y1=>(appG 136 kH ([y1.1]:List aA))>>=fun y2=>zA p1 p2 (IntKind.wrap .i64 (x8+1)) y1.2.b y1.2.i y1.2.h y2) else (some (kH,(aB.mk bV bN dJ)))
  partial_fixpoint
def oQ (p0:aB) (p1:Int) (p2:Int):Option ((List aA)×aB) :=
  zA p1 p2 0 p0.b p0.i p0.h ([]:List aA)
  partial_fixpoint
def xE (p1:Int) (y6:Int×aB):Option (aA×aB) :=
  (eZ y6.2 14)>>=fun y20=>(oQ y20.2 p1 2)>>=fun y21=>some ((aA.mk 4 (IntKind.wrap .i64 (1+y20.1)) false (bC.mk 0 0 []) [] [] y21.1 ([]:List aP)),y21.2)
  partial_fixpoint
def lU (p0:aB) (p1:Int):Option (aA×aB) :=
  (if (true&&((decide (p1≤0))==false))=true then fE p0 5 else some ((default:Bool),p0))>>=fun y1=>(some (if (decide (p1≤0))=true then true else y1.1))>>=fun y2=>if y2=true then ((fE y1.2 2)>>=fun y3=>if y3.1=true then ((rD y3.2)>>=fun y4=>some (y4.1,y4.2)) else ((zI y3.2)>>=fun y5=>some ((aA.mk 1 0 false y5.1 [] [] ([]:List aA) ([]:List aP)),y5.2))) else ((eZ y1.2 12)>>=fun y6=>if (decide (y6.1=0))=true then ((oQ y6.2 p1 1)>>=fun y7=>some ((aA.mk 3 15 false (bC.mk 0 0 []) [] [] y7.1 ([]:List aP)),y7.2)) else (if (decide (y6.1=1))=true then ((oQ y6.2 p1 1)>>=fun y8=>some ((aA.mk 3 16 false (bC.mk 0 0 []) [] [] y8.1 ([]:List aP)),y8.2)) else (if (decide (y6.1=2))=true then ((fE y6.2 2)>>=fun y9=>(oQ y9.2 p1 1)>>=fun y10=>some ((aA.mk 5 0 y9.1 (bC.mk 0 0 []) [] [] y10.1 ([]:List aP)),y10.2)) else (if (decide (y6.1=3))=true then ((fE y6.2 2)>>=fun y11=>(oQ y11.2 p1 3)>>=fun y12=>some ((aA.mk 6 0 y11.1 (bC.mk 0 0 []) [] [] y12.1 ([]:List aP)),y12.2)) else (if (decide (y6.1=4))=true then ((fE y6.2 2)>>=fun y13=>(eZ y13.2 2)>>=fun y14=>(oQ y14.2 p1 (IntKind.wrap .i64 (2+y14.1)))>>=fun y15=>some ((aA.mk 7 0 y13.1 (bC.mk 0 0 []) [] [] y15.1 ([]:List aP)),y15.2)) else (if (decide (y6.1=5))=true then (if (decide (1<p1))=true then ((fE y6.2 2)>>=fun y16=>(oQ y16.2 p1 1)>>=fun y17=>(yF y17.2 (IntKind.wrap .i64 (p1 - 2)))>>=fun y18=>some ((aA.mk 8 0 y16.1 (bC.mk 0 0 []) [] [] y17.1 ([y18.1]:List aP)),y18.2)) else (xE p1 y6)) else (if (decide (y6.1=6))=true then (if (decide (1<p1))=true then ((yF y6.2 (IntKind.wrap .i64 (p1 - 2)))>>=fun y19=>some ((aA.mk 9 0 false (bC.mk 0 0 []) [] [] ([]:List aA) ([y19.1]:List aP)),y19.2)) else (xE p1 y6)) else (xE p1 y6))))))))
  partial_fixpoint
end
def aAg (p0:(List Int)):Option aA :=
  (I9 p0)>>=fun y1=>(fE y1 16)>>=fun y2=>if y2.1=true then ((zZ y2.2)>>=fun y3=>some y3.1) else ((X9 p0 4)>>=fun y4=>(eZ y2.2 y4)>>=fun y5=>(lU y5.2 y5.1)>>=fun y6=>(fE y6.2 4)>>=fun y7=>if y7.1=true then ((vX y7.2 y6.1)>>=fun y8=>aA0 y8.1.kind y8.1.op y8.1.not_ y8.1.value.kind y8.1.value.num y8.1.value.text y8.1.qual y8.1.name y8.1.kids y8.1.sub) else (aA0 y6.1.kind y6.1.op y6.1.not_ y6.1.value.kind y6.1.value.num y6.1.value.text y6.1.qual y6.1.name y6.1.kids y6.1.sub))
def aEp (p0:(List Int)):Option aA :=
  (aAg p0)>>=fun y1=>some y1
def qX (p0:Int) (p1:Int):Option Int :=
  if (decide (p1<p0))=true then (some p0) else (some p1)
def wK (p0:aP) (jB:(List aA)) (x6:Int):Option (List aA) :=
  if (decide (x6<(p0.order.length:Int)))=true then ((idx p0.order x6)>>=fun y10=>(appG 136 jB ([y10.expr]:List aA))>>=fun y11=>wK p0 y11 (IntKind.wrap .i64 (x6+1))) else (some jB)
  partial_fixpoint
def vQ (p0:aP) (iV:(List aA)) (x5:Int):Option (List aA) :=
  if (decide (x5<(p0.from_.length:Int)))=true then ((idx p0.from_ x5)>>=fun y6=>(appG 136 iV y6.on_)>>=fun y7=>vQ p0 y7 (IntKind.wrap .i64 (x5+1))) else ((appG 136 iV p0.where_)>>=fun y8=>wK p0 y8 0)
  partial_fixpoint
mutual
def W9 (x4:Int) (p0:aP) (dV:(List aA)):Option (List aA) :=
  R3 p0 dV (IntKind.wrap .i64 (x4+1))
  partial_fixpoint
def R3 (p0:aP) (x3:(List aA)) (x4:Int):Option (List aA) :=
  if (decide (x4<(p0.items.length:Int)))=true then ((idx p0.items x4)>>=fun y1=>if (!y1.star)=true then ((idx p0.items x4)>>=fun y2=>(appG 136 x3 ([y2.expr]:List aA))>>=fun y3=>W9 x4 p0 y3) else (W9 x4 p0 x3)) else (vQ p0 x3 0)
  partial_fixpoint
end
def rF (p0:aP):Option (List aA) :=
  R3 p0 ([]:List aA) 0
mutual
def xX (y1:(List aA)) (x3:Int) (x5:Int):Option Int :=
  if (decide (x5<(y1.length:Int)))=true then ((idx y1 x5)>>=fun y2=>(mW y2)>>=fun y3=>(qX x3 y3)>>=fun y4=>xX y1 y4 (IntKind.wrap .i64 (x5+1))) else (some x3)
  partial_fixpoint
def yV (p0:aP):Option Int :=
  (rF p0)>>=fun y1=>xX y1 0 0
  partial_fixpoint
def xR (p0:aA) (dV:Int) (x5:Int):Option Int :=
  if (decide (x5<(p0.sub.length:Int)))=true then ((idx p0.sub x5)>>=fun y5=>(yV y5)>>=fun y6=>(qX dV y6)>>=fun y7=>xR p0 y7 (IntKind.wrap .i64 (x5+1))) else (some (IntKind.wrap .i64 (dV+1)))
  partial_fixpoint
def U4 (p0:aA) (x3:Int) (x4:Int):Option Int :=
  if (decide (x4<(p0.kids.length:Int)))=true then ((idx p0.kids x4)>>=fun y1=>(mW y1)>>=fun y2=>(qX x3 y2)>>=fun y3=>U4 p0 y3 (IntKind.wrap .i64 (x4+1))) else (xR p0 x3 0)
  partial_fixpoint
def mW (p0:aA):Option Int :=
  U4 p0 0 0
  partial_fixpoint
end
mutual
def vL (x6:Int) (y7:(List aA)) (p0:aA) (jA:Int) (x8:Int):Option Int :=
  (some (if (decide (x8<(y7.length:Int)))=true then (decide (0≤jA)) else false))>>=fun y9=>if y9=true then ((idx y7 x8)>>=fun y10=>(vC y10 jA)>>=fun y11=>vL x6 y7 p0 y11 (IntKind.wrap .i64 (x8+1))) else (tZ p0 jA (IntKind.wrap .i64 (x6+1)))
  partial_fixpoint
def tZ (p0:aA) (iR:Int) (x6:Int):Option Int :=
  (some (if (decide (x6<(p0.sub.length:Int)))=true then (decide (0≤iR)) else false))>>=fun y5=>if y5=true then ((idx p0.sub x6)>>=fun y6=>(rF y6)>>=fun y7=>vL x6 y7 p0 iR 0) else (some iR)
  partial_fixpoint
def yI (p0:aA) (x1:Int) (x5:Int):Option Int :=
  (some (if (decide (x5<(p0.kids.length:Int)))=true then (decide (0≤x1)) else false))>>=fun y1=>if y1=true then ((idx p0.kids x5)>>=fun y2=>(vC y2 x1)>>=fun y3=>yI p0 y3 (IntKind.wrap .i64 (x5+1))) else (tZ p0 x1 0)
  partial_fixpoint
def vC (p0:aA) (p1:Int):Option Int :=
  yI p0 (IntKind.wrap .i64 (p1 - 1)) 0
  partial_fixpoint
end
def mK (p0:Int) (p1:Int) (p2:Int):Option Bool :=
  (some (if (decide (p1≤p0))=true then (decide (p0≤p2)) else false))>>=fun y1=>some y1
def oC (p0:(List UInt8)):Option Bool :=
  (mK (p0.length:Int) 1 20)>>=fun y1=>some y1
def kV (p0:(List UInt8)):Option Bool :=
  (if (true&&((decide (p0=[]))==false))=true then oC p0 else some default)>>=fun y1=>(some (if (decide (p0=[]))=true then true else y1))>>=fun y2=>some y2
mutual
def aAi (p0:aP) (p1:aP) (x11:Int):Option Bool :=
  if (decide (x11<(p0.order.length:Int)))=true then ((idx p0.order x11)>>=fun y18=>(idx p1.order x11)>>=fun y19=>(if (true&&((!(y18.desc==y19.desc))==false))=true then idx p0.order x11 else some default)>>=fun y20=>(if (true&&((!(y18.desc==y19.desc))==false))=true then idx p1.order x11 else some default)>>=fun y21=>(if (true&&((!(y18.desc==y19.desc))==false))=true then pW y20.expr y21.expr else some default)>>=fun y22=>(some (if (!(y18.desc==y19.desc))=true then true else (!y22)))>>=fun y23=>if y23=true then (some false) else (aAi p0 p1 (IntKind.wrap .i64 (x11+1)))) else (some true)
  partial_fixpoint
def aDw (p0:aP) (p1:aP) (x8:Int):Option Bool :=
  if (decide (x8<(p0.from_.length:Int)))=true then ((idx p0.from_ x8)>>=fun y13=>(idx p1.from_ x8)>>=fun y14=>(some (if (!decide (y13.table=y14.table))=true then true else (!decide (y13.as_=y14.as_))))>>=fun y15=>(if (true&&(y15==false))=true then xC y13.on_ y14.on_ else some default)>>=fun y16=>(some (if y15=true then true else (!y16)))>>=fun y17=>if y17=true then (some false) else (aDw p0 p1 (IntKind.wrap .i64 (x8+1)))) else (aAi p0 p1 0)
  partial_fixpoint
def aEf (p0:aP) (p1:aP) (x5:Int):Option Bool :=
  if (decide (x5<(p0.items.length:Int)))=true then ((idx p0.items x5)>>=fun y7=>(idx p1.items x5)>>=fun y8=>(some (if (!(y7.star==y8.star))=true then true else (!decide (y7.qual=y8.qual))))>>=fun y9=>(some (if y9=true then true else (!decide (y7.as_=y8.as_))))>>=fun y10=>(if (true&&(y10==false))=true then pW y7.expr y8.expr else some default)>>=fun y11=>(some (if y10=true then true else (!y11)))>>=fun y12=>if y12=true then (some false) else (aEf p0 p1 (IntKind.wrap .i64 (x5+1)))) else (aDw p0 p1 0)
  partial_fixpoint
def aI9 (p0:aP) (p1:aP):Option Bool :=
  (some (if (!(p0.distinct==p1.distinct))=true then true else (!decide (p0.limit=p1.limit))))>>=fun y1=>(some (if y1=true then true else (!decide ((p0.items.length:Int)=(p1.items.length:Int)))))>>=fun y2=>(some (if y2=true then true else (!decide ((p0.from_.length:Int)=(p1.from_.length:Int)))))>>=fun y3=>(some (if y3=true then true else (!decide ((p0.order.length:Int)=(p1.order.length:Int)))))>>=fun y4=>(if (true&&(y4==false))=true then xC p0.where_ p1.where_ else some default)>>=fun y5=>(some (if y4=true then true else (!y5)))>>=fun y6=>if y6=true then (some false) else (aEf p0 p1 0)
  partial_fixpoint
def zR (p0:aA) (p1:aA) (x5:Int):Option Bool :=
  if (decide (x5<(p0.sub.length:Int)))=true then ((idx p0.sub x5)>>=fun y9=>(idx p1.sub x5)>>=fun y10=>(aI9 y9 y10)>>=fun y11=>if (!y11)=true then (some false) else (zR p0 p1 (IntKind.wrap .i64 (x5+1)))) else (some true)
  partial_fixpoint
def aCc (p0:(List aA)) (p1:(List aA)) (x5:Int):Option Bool :=
  if (decide (x5<(p0.length:Int)))=true then ((idx p0 x5)>>=fun y1=>(idx p1 x5)>>=fun y2=>(pW y1 y2)>>=fun y3=>if (!y3)=true then (some false) else (aCc p0 p1 (IntKind.wrap .i64 (x5+1)))) else (some true)
  partial_fixpoint
def xC (p0:(List aA)) (p1:(List aA)):Option Bool :=
  if (!decide ((p0.length:Int)=(p1.length:Int)))=true then (some false) else (aCc p0 p1 0)
  partial_fixpoint
def pW (p0:aA) (p1:aA):Option Bool :=
  (some (if (!decide (p0.kind=p1.kind))=true then true else (!decide (p0.op=p1.op))))>>=fun y1=>(some (if y1=true then true else (!(p0.not_==p1.not_))))>>=fun y2=>(some (if y2=true then true else (!((decide (p0.value.kind=p1.value.kind))&&((decide (p0.value.num=p1.value.num))&&((decide (p0.value.text=p1.value.text))&&true))))))>>=fun y3=>(some (if y3=true then true else (!decide (p0.qual=p1.qual))))>>=fun y4=>(some (if y4=true then true else (!decide (p0.name=p1.name))))>>=fun y5=>(some (if y5=true then true else (!decide ((p0.sub.length:Int)=(p1.sub.length:Int)))))>>=fun y6=>(if (true&&(y6==false))=true then xC p0.kids p1.kids else some default)>>=fun y7=>(some (if y6=true then true else (!y7)))>>=fun y8=>if y8=true then (some false) else (zR p0 p1 0)
  partial_fixpoint
end
def zY (p0:bC):Option Bool :=
  if (decide (p0.kind=0))=true then ((some (if (decide (p0.num=0))=true then (decide (p0.text=[])) else false))>>=fun y1=>some y1) else (if (decide (p0.kind=1))=true then (some (decide (p0.text=[]))) else (if (decide (p0.kind=2))=true then ((some (if (decide (p0.num=0))=true then (decide ((p0.text.length:Int)≤200)) else false))>>=fun y2=>some y2) else (if (decide (p0.kind=3))=true then ((mK p0.num 0 1)>>=fun y3=>(some (if y3=true then (decide (p0.text=[])) else false))>>=fun y4=>some y4) else (some false))))
def V8 (p0:bC):Option Bool :=
  (zY p0)>>=fun y1=>(if (true&&(y1==true))=true then some (if (!decide (p0.kind=1))=true then true else (decide (0≤p0.num))) else some default)>>=fun y2=>(some (if y1=true then y2 else false))>>=fun y3=>(some (if y3=true then (decide ((p0.text.length:Int)≤40)) else false))>>=fun y4=>some y4
def V6 (p0:aA):Option Bool :=
  (if (true&&((!decide (p0.kind=2))==true))=true then some (if (!decide (p0.qual=[]))=true then true else (!decide (p0.name=[]))) else some default)>>=fun y1=>(some (if (!decide (p0.kind=2))=true then y1 else false))>>=fun y2=>(if (true&&(y2==false))=true then some (if (!decide (p0.kind=1))=true then (!((decide (p0.value.kind=0))&&((decide (p0.value.num=0))&&((decide (p0.value.text=[]))&&true)))) else false) else some default)>>=fun y3=>(some (if y2=true then true else y3))>>=fun y4=>if y4=true then (some false) else ((some (if (!decide (p0.kind=3))=true then (!decide (p0.kind=4)) else false))>>=fun y5=>(some (if y5=true then (!decide (p0.op=0)) else false))>>=fun y6=>(if ((true&&(y6==false))&&(p0.not_==true))=true then mK p0.kind 5 8 else some default)>>=fun y7=>(if (true&&(y6==false))=true then some (if p0.not_=true then (!y7) else false) else some default)>>=fun y8=>(some (if y6=true then true else y8))>>=fun y9=>if y9=true then (some false) else (if (decide (p0.kind=1))=true then ((V8 p0.value)>>=fun y10=>(some (if y10=true then (decide ((IntKind.wrap .i64 ((p0.kids.length:Int)+(p0.sub.length:Int)))=0)) else false))>>=fun y11=>some y11) else (if (decide (p0.kind=2))=true then ((oC p0.name)>>=fun y12=>(if (true&&(y12==true))=true then kV p0.qual else some default)>>=fun y13=>(some (if y12=true then y13 else false))>>=fun y14=>(some (if y14=true then (decide ((IntKind.wrap .i64 ((p0.kids.length:Int)+(p0.sub.length:Int)))=0)) else false))>>=fun y15=>some y15) else (if (decide (p0.kind=3))=true then ((some (if (decide (p0.op=15))=true then true else (decide (p0.op=16))))>>=fun y16=>(some (if y16=true then (decide ((p0.kids.length:Int)=1)) else false))>>=fun y17=>(some (if y17=true then (decide ((p0.sub.length:Int)=0)) else false))>>=fun y18=>some y18) else (if (decide (p0.kind=4))=true then ((mK p0.op 1 14)>>=fun y19=>(some (if y19=true then (decide ((p0.kids.length:Int)=2)) else false))>>=fun y20=>(some (if y20=true then (decide ((p0.sub.length:Int)=0)) else false))>>=fun y21=>some y21) else (if (decide (p0.kind=5))=true then ((some (if (decide ((p0.kids.length:Int)=1))=true then (decide ((p0.sub.length:Int)=0)) else false))>>=fun y22=>some y22) else (if (decide (p0.kind=6))=true then ((some (if (decide ((p0.kids.length:Int)=3))=true then (decide ((p0.sub.length:Int)=0)) else false))>>=fun y23=>some y23) else (if (decide (p0.kind=7))=true then ((mK (p0.kids.length:Int) 2 9)>>=fun y24=>(some (if y24=true then (decide ((p0.sub.length:Int)=0)) else false))>>=fun y25=>some y25) else (if (decide (p0.kind=8))=true then ((some (if (decide ((p0.kids.length:Int)=1))=true then (decide ((p0.sub.length:Int)=1)) else false))>>=fun y26=>some y26) else (if (decide (p0.kind=9))=true then ((some (if (decide ((p0.kids.length:Int)=0))=true then (decide ((p0.sub.length:Int)=1)) else false))>>=fun y27=>some y27) else (some false)))))))))))
mutual
def rU (y24:(List aA)) (x8:Int):Option Bool :=
  if (decide (x8<(y24.length:Int)))=true then ((idx y24 x8)>>=fun y25=>(nC y25)>>=fun y26=>if (!y26)=true then (some false) else (rU y24 (IntKind.wrap .i64 (x8+1)))) else (some true)
  partial_fixpoint
def uY (p0:aP) (x5:Int):Option Bool :=
  if (decide (x5<(p0.from_.length:Int)))=true then ((idx p0.from_ x5)>>=fun y17=>(oC y17.table)>>=fun y18=>(if (true&&((!y18)==false))=true then kV y17.as_ else some default)>>=fun y19=>(some (if (!y18)=true then true else (!y19)))>>=fun y20=>(some (if y20=true then true else (decide (1<(y17.on_.length:Int)))))>>=fun y21=>(if (true&&(y21==false))=true then some (if (decide (x5=0))=true then (decide (0<(y17.on_.length:Int))) else false) else some default)>>=fun y22=>(some (if y21=true then true else y22))>>=fun y23=>if y23=true then (some false) else (uY p0 (IntKind.wrap .i64 (x5+1)))) else ((rF p0)>>=fun y24=>rU y24 0)
  partial_fixpoint
def wJ (p0:aP) (x3:Int):Option Bool :=
  if (decide (x3<(p0.items.length:Int)))=true then ((idx p0.items x3)>>=fun y7=>(if (true&&(y7.star==true))=true then kV y7.qual else some default)>>=fun y8=>(if (true&&(y7.star==true))=true then some (if (!y8)=true then true else (!decide (y7.as_=[]))) else some default)>>=fun y9=>(if ((true&&(y7.star==true))&&(y9==false))=true then pW y7.expr (aA.mk 0 0 false (bC.mk 0 0 []) [] [] ([]:List aA) ([]:List aP)) else some default)>>=fun y10=>(if (true&&(y7.star==true))=true then some (if y9=true then true else (!y10)) else some default)>>=fun y11=>(some (if y7.star=true then y11 else false))>>=fun y12=>(if (((true&&(y12==false))&&((!y7.star)==true))&&((!decide (y7.qual=[]))==false))=true then kV y7.as_ else some default)>>=fun y13=>(if ((true&&(y12==false))&&((!y7.star)==true))=true then some (if (!decide (y7.qual=[]))=true then true else (!y13)) else some default)>>=fun y14=>(if (true&&(y12==false))=true then some (if (!y7.star)=true then y14 else false) else some default)>>=fun y15=>(some (if y12=true then true else y15))>>=fun y16=>if y16=true then (some false) else (wJ p0 (IntKind.wrap .i64 (x3+1)))) else (uY p0 0)
  partial_fixpoint
def tC (p0:aP):Option Bool :=
  (mK (p0.items.length:Int) 1 12)>>=fun y1=>(if (true&&((!y1)==false))=true then mK (p0.from_.length:Int) 1 3 else some default)>>=fun y2=>(some (if (!y1)=true then true else (!y2)))>>=fun y3=>(some (if y3=true then true else (decide (1<(p0.where_.length:Int)))))>>=fun y4=>(some (if y4=true then true else (decide (12<(p0.order.length:Int)))))>>=fun y5=>(some (if y5=true then true else (decide (p0.limit<(-1)))))>>=fun y6=>if y6=true then (some false) else (wJ p0 0)
  partial_fixpoint
def yA (p0:aA) (x3:Int):Option Bool :=
  if (decide (x3<(p0.kids.length:Int)))=true then ((idx p0.kids x3)>>=fun y2=>(nC y2)>>=fun y3=>if (!y3)=true then (some false) else (yA p0 (IntKind.wrap .i64 (x3+1)))) else ((if (true&&((decide ((p0.sub.length:Int)=0))==false))=true then idx p0.sub 0 else some default)>>=fun y4=>(if (true&&((decide ((p0.sub.length:Int)=0))==false))=true then tC y4 else some default)>>=fun y5=>(some (if (decide ((p0.sub.length:Int)=0))=true then true else y5))>>=fun y6=>some y6)
  partial_fixpoint
def nC (p0:aA):Option Bool :=
  (V6 p0)>>=fun y1=>if (!y1)=true then (some false) else (yA p0 0)
  partial_fixpoint
end
def yO (p0:aA):Option Bool :=
  (vC p0 200)>>=fun y1=>(if (true&&((decide (0≤y1))==true))=true then nC p0 else some default)>>=fun y2=>(some (if (decide (0≤y1))=true then y2 else false))>>=fun y3=>(if (true&&(y3==true))=true then mW p0 else some default)>>=fun y4=>(some (if y3=true then (decide (y4≤24)) else false))>>=fun y5=>some y5
def aF8 (p0:(List Int)):Option Bool :=
  some (decide (1048576<(p0.length:Int)))
def U6 (p0:aP):Option Bool :=
  (oO p0)>>=fun y1=>(nI p0)>>=fun y2=>(uX y1 y2)>>=fun y3=>(if (true&&(y3==true))=true then oG p0 else some default)>>=fun y4=>(some (if y3=true then y4 else false))>>=fun y5=>some y5
def uV (y2:aA) (x5:Int):Option Bool :=
  if (decide (x5<(y2.sub.length:Int)))=true then ((idx y2.sub x5)>>=fun y11=>(U6 y11)>>=fun y12=>if (!y12)=true then (some false) else (uV y2 (IntKind.wrap .i64 (x5+1)))) else ((pK y2 y2)>>=fun y13=>some y13)
  partial_fixpoint
def tQ (y2:aA) (x4:Int):Option Bool :=
  if (decide (x4<(y2.kids.length:Int)))=true then ((idx y2.kids x4)>>=fun y6=>(oV y6)>>=fun y7=>(if (true&&((!y7)==false))=true then idx y2.kids x4 else some default)>>=fun y8=>(if (true&&((!y7)==false))=true then jX y8 else some default)>>=fun y9=>(some (if (!y7)=true then true else (decide (24≤y9))))>>=fun y10=>if y10=true then (some false) else (tQ y2 (IntKind.wrap .i64 (x4+1)))) else (uV y2 0)
  partial_fixpoint
def aBb (p0:(List Int)):Option Bool :=
  (aF8 p0)>>=fun y1=>if y1=true then (some true) else ((aEp p0)>>=fun y2=>(oV y2)>>=fun y3=>(yO y2)>>=fun y4=>if (!(y3==y4))=true then (some false) else ((oV y2)>>=fun y5=>if (!y5)=true then (some true) else (tQ y2 0)))
end Go.Ab
