/- The functions of the program,as Lean functions (printed by a program). -/
import Derived.Test.YtflhmnfmihkbmaeGreatAbF0
namespace Go.Ab
open Go
structure bI where
  name:(List UInt8)
  type:Int
instance:Inhabited bI:=⟨(bI.mk [] 0)⟩
structure aP where
  name:(List UInt8)
  cols:(List bI)
instance:Inhabited aP:=⟨(aP.mk [] [])⟩
structure aY where
  tables:(List aP)
instance:Inhabited aY:=⟨(aY.mk [])⟩
structure dV where
  kind:Int
  num:Int
  text:(List UInt8)
instance:Inhabited dV:=⟨(dV.mk 0 0 [])⟩
mutual
structure aA where
  kind:Int
  op:Int
  not_:Bool
  value:dV
  qual:(List UInt8)
  name:(List UInt8)
  kids:(List aA)
  sub:(List aJ)
structure bA where
  star:Bool
  qual:(List UInt8)
  expr:aA
  as_:(List UInt8)
structure aJ where
  distinct:Bool
  items:(List bA)
  from_:(List aV)
  where_:(List aA)
  order:(List bC)
  limit:Int
structure bC where
  expr:aA
  desc:Bool
structure aV where
  table:(List UInt8)
  as_:(List UInt8)
  on_:(List aA)
end
instance:Inhabited aA:=⟨(aA.mk 0 0 false (dV.mk 0 0 []) [] [] [] [])⟩
instance:Inhabited bA:=⟨(bA.mk false [] (aA.mk 0 0 false (dV.mk 0 0 []) [] [] [] []) [])⟩
instance:Inhabited aJ:=⟨(aJ.mk false [] [] [] [] 0)⟩
instance:Inhabited bC:=⟨(bC.mk (aA.mk 0 0 false (dV.mk 0 0 []) [] [] [] []) false)⟩
instance:Inhabited aV:=⟨(aV.mk [] [] [])⟩
structure aB where
  qual:(List UInt8)
  name:(List UInt8)
  count:Int
  up:Int
  at_:Int
instance:Inhabited aB:=⟨(aB.mk [] [] 0 0 0)⟩
structure dL where
  qual:(List UInt8)
  name:(List UInt8)
  type:Int
instance:Inhabited dL:=⟨(dL.mk [] [] 0)⟩
structure aL where
  names:(List dL)
instance:Inhabited aL:=⟨(aL.mk [])⟩
structure cK where
  c:aY
  list:(List aB)
  failed:Bool
instance:Inhabited cK:=⟨(cK.mk (aY.mk []) [] false)⟩
structure jW where
  op:Bool
  not_:Bool
  value:Bool
  name:Bool
  least:Int
  most:Int
  subs:Int
instance:Inhabited jW:=⟨(jW.mk false false false false 0 0 0)⟩
def okGCol (x:bI):Prop:=okS x.name∧okI x.type
def okGTable (x:aP):Prop:=okS x.name∧(okL okGCol) x.cols
def okGCatalog (x:aY):Prop:=(okL okGTable) x.tables
def okGValue (x:dV):Prop:=okI x.kind∧okI x.num∧okS x.text
mutual
def okGExpr:aA→Prop
  | ⟨a0,a1,a2,a3,a4,a5,a6,a7⟩=>okI a0∧okI a1∧okB a2∧okGValue a3∧okS a4∧okS a5∧(a6.length≤9223372036854775807∧okLGExpr a6)∧(a7.length≤9223372036854775807∧okLGQuery a7)
def okGItem:bA→Prop
  | ⟨a0,a1,a2,a3⟩=>okB a0∧okS a1∧okGExpr a2∧okS a3
def okGQuery:aJ→Prop
  | ⟨a0,a1,a2,a3,a4,a5⟩=>okB a0∧(a1.length≤9223372036854775807∧okLGItem a1)∧(a2.length≤9223372036854775807∧okLGSource a2)∧(a3.length≤9223372036854775807∧okLGExpr a3)∧(a4.length≤9223372036854775807∧okLGSortKey a4)∧okI a5
def okGSortKey:bC→Prop
  | ⟨a0,a1⟩=>okGExpr a0∧okB a1
def okGSource:aV→Prop
  | ⟨a0,a1,a2⟩=>okS a0∧okS a1∧(a2.length≤9223372036854775807∧okLGExpr a2)
def okLGExpr:List aA→Prop
  | []=>True
  | x::l=>okGExpr x∧okLGExpr l
def okLGItem:List bA→Prop
  | []=>True
  | x::l=>okGItem x∧okLGItem l
def okLGQuery:List aJ→Prop
  | []=>True
  | x::l=>okGQuery x∧okLGQuery l
def okLGSortKey:List bC→Prop
  | []=>True
  | x::l=>okGSortKey x∧okLGSortKey l
def okLGSource:List aV→Prop
  | []=>True
  | x::l=>okGSource x∧okLGSource l
end
def okGUse (x:aB):Prop:=okS x.qual∧okS x.name∧okI x.count∧okI x.up∧okI x.at_
def okGNamed (x:dL):Prop:=okS x.qual∧okS x.name∧okI x.type
def okGScope (x:aL):Prop:=(okL okGNamed) x.names
def okGUser (x:cK):Prop:=okGCatalog x.c∧(okL okGUse) x.list∧okB x.failed
def okGForm (x:jW):Prop:=okB x.op∧okB x.not_∧okB x.value∧okB x.name∧okI x.least∧okI x.most∧okI x.subs
def aH1 (p0:bI) (c0_0:(List UInt8)):Option Bool :=
  some (decide (p0.name=c0_0))
def A9 (p0:(List bI)) (c0_0:(List UInt8)) (x8:Int):Option Int :=
  if (decide (x8<(p0.length:Int)))=true then ((idx p0 x8)>>=fun y1=>(aH1 y1 c0_0)>>=fun y2=>if y2=true then (some x8) else (A9 p0 c0_0 (IntKind.wrap .i64 (x8+1)))) else (some (-1))
  partial_fixpoint
def aH4 (p0:(List bI)) (c0_0:(List UInt8)):Option Int :=
  A9 p0 c0_0 0
def aF6 (p0:aP) (p1:(List UInt8)):Option Int :=
  (aH4 p0.cols p1)>>=fun y1=>some y1
def qD (p0:(List UInt8)):Option Bool :=
  (some (if (decide (1≤(p0.length:Int)))=true then (decide ((p0.length:Int)≤20)) else false))>>=fun y1=>some y1
def yN (p0:aP) (x8:Int):Option Bool :=
  if (decide (x8<(p0.cols.length:Int)))=true then ((idx p0.cols x8)>>=fun y1=>(qD y1.name)>>=fun y2=>(some (if (!y2)=true then true else (decide (y1.type<1))))>>=fun y3=>(some (if y3=true then true else (decide (3<y1.type))))>>=fun y4=>(if (true&&(y4==false))=true then aF6 p0 y1.name else some default)>>=fun y5=>(some (if y4=true then true else (!decide (y5=x8))))>>=fun y6=>if y6=true then (some false) else (yN p0 (IntKind.wrap .i64 (x8+1)))) else ((qD p0.name)>>=fun y7=>(some (if y7=true then (decide (1≤(p0.cols.length:Int))) else false))>>=fun y8=>(some (if y8=true then (decide ((p0.cols.length:Int)≤4)) else false))>>=fun y9=>some y9)
  partial_fixpoint
def aEo (p0:aP):Option Bool :=
  yN p0 0
def aG1 (p0:aP) (c0_0:(List UInt8)):Option Bool :=
  some (decide (p0.name=c0_0))
def xQ (p0:(List aP)) (c0_0:(List UInt8)) (x8:Int):Option Int :=
  if (decide (x8<(p0.length:Int)))=true then ((idx p0 x8)>>=fun y1=>(aG1 y1 c0_0)>>=fun y2=>if y2=true then (some x8) else (xQ p0 c0_0 (IntKind.wrap .i64 (x8+1)))) else (some (-1))
  partial_fixpoint
def aM1 (p0:(List aP)) (c0_0:(List UInt8)):Option Int :=
  xQ p0 c0_0 0
def K3 (p0:aY) (p1:(List UInt8)):Option Int :=
  (aM1 p0.tables p1)>>=fun y1=>some y1
def yS (p0:aY) (x8:Int):Option Bool :=
  if (decide (x8<(p0.tables.length:Int)))=true then ((idx p0.tables x8)>>=fun y1=>(aEo y1)>>=fun y2=>(if (true&&((!y2)==false))=true then K3 p0 y1.name else some default)>>=fun y3=>(some (if (!y2)=true then true else (!decide (y3=x8))))>>=fun y4=>if y4=true then (some false) else (yS p0 (IntKind.wrap .i64 (x8+1)))) else (some (decide ((p0.tables.length:Int)≤4)))
  partial_fixpoint
def aEi (p0:aY):Option Bool :=
  yS p0 0
def xV (p0:(List UInt8)):Option Bool :=
  (if (true&&((decide (p0=[]))==false))=true then qD p0 else some default)>>=fun y1=>(some (if (decide (p0=[]))=true then true else y1))>>=fun y2=>some y2
def aEa (p0:dV):Option Bool :=
  if (decide (p0.kind=0))=true then ((some (if (decide (p0.num=0))=true then (decide (p0.text=[])) else false))>>=fun y1=>some y1) else (if (decide (p0.kind=1))=true then (some (decide (p0.text=[]))) else (if (decide (p0.kind=2))=true then ((some (if (decide (p0.num=0))=true then (decide ((p0.text.length:Int)≤200)) else false))>>=fun y2=>some y2) else (if (decide (p0.kind=3))=true then ((some (if (decide (p0.num=0))=true then true else (decide (p0.num=1))))>>=fun y3=>(some (if y3=true then (decide (p0.text=[])) else false))>>=fun y4=>some y4) else (some false))))
def aAr (p0:dV):Option Bool :=
  (aEa p0)>>=fun y1=>(if (true&&(y1==true))=true then some (if (!decide (p0.kind=1))=true then true else (decide (0≤p0.num))) else some default)>>=fun y2=>(some (if y1=true then y2 else false))>>=fun y3=>(some (if y3=true then (decide ((p0.text.length:Int)≤40)) else false))>>=fun y4=>some y4
def I5 (p0:aA):Option (jW×Bool) :=
  if (decide (p0.kind=1))=true then ((aAr p0.value)>>=fun y1=>some ((jW.mk false false true false 0 0 0),y1)) else (if (decide (p0.kind=2))=true then ((qD p0.name)>>=fun y2=>(if ((true&&(y2==true))&&((decide (p0.qual=[]))==false))=true then qD p0.qual else some default)>>=fun y3=>(if (true&&(y2==true))=true then some (if (decide (p0.qual=[]))=true then true else y3) else some default)>>=fun y4=>(some (if y2=true then y4 else false))>>=fun y5=>some ((jW.mk false false false true 0 0 0),y5)) else (if (decide (p0.kind=3))=true then ((some (if (decide (p0.op=15))=true then true else (decide (p0.op=16))))>>=fun y6=>some ((jW.mk true false false false 1 1 0),y6)) else (if (decide (p0.kind=4))=true then ((some (if (decide (1≤p0.op))=true then (decide (p0.op≤14)) else false))>>=fun y7=>some ((jW.mk true false false false 2 2 0),y7)) else (if (decide (p0.kind=5))=true then (some ((jW.mk false true false false 1 1 0),true)) else (if (decide (p0.kind=6))=true then (some ((jW.mk false true false false 3 3 0),true)) else (if (decide (p0.kind=7))=true then (some ((jW.mk false true false false 2 9 0),true)) else (if (decide (p0.kind=8))=true then (some ((jW.mk false true false false 1 1 1),true)) else (if (decide (p0.kind=9))=true then (some ((jW.mk false false false false 0 0 1),true)) else (some ((jW.mk false false false false 0 0 0),false))))))))))
def xW (p0:aJ) (nA:(List aA)) (x46:Int):Option (List aA) :=
  if (decide (x46<(p0.order.length:Int)))=true then ((idx p0.order x46)>>=fun y9=>(appG 136 nA ([y9.expr]:List aA))>>=fun y10=>xW p0 y10 (IntKind.wrap .i64 (x46+1))) else (some nA)
  partial_fixpoint
def zG (p0:aJ) (eP:(List aA)) (x30:Int):Option (List aA) :=
  if (decide (x30<(p0.from_.length:Int)))=true then ((idx p0.from_ x30)>>=fun y5=>(appG 136 eP y5.on_)>>=fun y6=>zG p0 y6 (IntKind.wrap .i64 (x30+1))) else ((appG 136 eP p0.where_)>>=fun y7=>xW p0 y7 0)
  partial_fixpoint
mutual
def aCc (p0:aJ) (x14:Int) (dU:(List aA)):Option (List aA) :=
  aC0 p0 dU (IntKind.wrap .i64 (x14+1))
  partial_fixpoint
def aC0 (p0:aJ) (x3:(List aA)) (x14:Int):Option (List aA) :=
  if (decide (x14<(p0.items.length:Int)))=true then ((idx p0.items x14)>>=fun y1=>if (!y1.star)=true then ((appG 136 x3 ([y1.expr]:List aA))>>=fun y2=>aCc p0 x14 y2) else (aCc p0 x14 x3)) else (zG p0 x3 0)
  partial_fixpoint
end
def M4 (p0:aJ):Option (List aA) :=
  aC0 p0 ([]:List aA) 0
mutual
def aAc (p1:(List aA)) (p0:(List aA)) (x17:Int):Option Bool :=
  if (decide (x17<(p0.length:Int)))=true then ((idx p0 x17)>>=fun y1=>(idx p1 x17)>>=fun y2=>(O7 y1 y2)>>=fun y3=>if (!y3)=true then (some false) else (aAc p1 p0 (IntKind.wrap .i64 (x17+1)))) else (some true)
  partial_fixpoint
def aKw (p0:(List aA)) (p1:(List aA)):Option Bool :=
  if (!decide ((p0.length:Int)=(p1.length:Int)))=true then (some false) else (aAc p1 p0 0)
  partial_fixpoint
def R4 (p0:(List aA)) (p1:(List aA)):Option Bool :=
  (aKw p0 p1)>>=fun y1=>some y1
  partial_fixpoint
def aQi (p0:aV) (p1:aV):Option Bool :=
  (some (if (decide (p0.table=p1.table))=true then (decide (p0.as_=p1.as_)) else false))>>=fun y1=>(if (true&&(y1==true))=true then R4 p0.on_ p1.on_ else some default)>>=fun y2=>(some (if y1=true then y2 else false))>>=fun y3=>some y3
  partial_fixpoint
def aMj (p1:(List aV)) (p0:(List aV)) (x17:Int):Option Bool :=
  if (decide (x17<(p0.length:Int)))=true then ((idx p0 x17)>>=fun y1=>(idx p1 x17)>>=fun y2=>(aQi y1 y2)>>=fun y3=>if (!y3)=true then (some false) else (aMj p1 p0 (IntKind.wrap .i64 (x17+1)))) else (some true)
  partial_fixpoint
def aSw (p0:(List aV)) (p1:(List aV)):Option Bool :=
  if (!decide ((p0.length:Int)=(p1.length:Int)))=true then (some false) else (aMj p1 p0 0)
  partial_fixpoint
def aPl (p0:bC) (p1:bC):Option Bool :=
  (if (true&&((p0.desc==p1.desc)==true))=true then O7 p0.expr p1.expr else some default)>>=fun y1=>(some (if (p0.desc==p1.desc)=true then y1 else false))>>=fun y2=>some y2
  partial_fixpoint
def aM4 (p1:(List bC)) (p0:(List bC)) (x17:Int):Option Bool :=
  if (decide (x17<(p0.length:Int)))=true then ((idx p0 x17)>>=fun y1=>(idx p1 x17)>>=fun y2=>(aPl y1 y2)>>=fun y3=>if (!y3)=true then (some false) else (aM4 p1 p0 (IntKind.wrap .i64 (x17+1)))) else (some true)
  partial_fixpoint
def aSc (p0:(List bC)) (p1:(List bC)):Option Bool :=
  if (!decide ((p0.length:Int)=(p1.length:Int)))=true then (some false) else (aM4 p1 p0 0)
  partial_fixpoint
def aQq (p0:bA) (p1:bA):Option Bool :=
  (some (if (p0.star==p1.star)=true then (decide (p0.qual=p1.qual)) else false))>>=fun y1=>(some (if y1=true then (decide (p0.as_=p1.as_)) else false))>>=fun y2=>(if (true&&(y2==true))=true then O7 p0.expr p1.expr else some default)>>=fun y3=>(some (if y2=true then y3 else false))>>=fun y4=>some y4
  partial_fixpoint
def aK5 (p1:(List bA)) (p0:(List bA)) (x17:Int):Option Bool :=
  if (decide (x17<(p0.length:Int)))=true then ((idx p0 x17)>>=fun y1=>(idx p1 x17)>>=fun y2=>(aQq y1 y2)>>=fun y3=>if (!y3)=true then (some false) else (aK5 p1 p0 (IntKind.wrap .i64 (x17+1)))) else (some true)
  partial_fixpoint
def aPt (p0:(List bA)) (p1:(List bA)):Option Bool :=
  if (!decide ((p0.length:Int)=(p1.length:Int)))=true then (some false) else (aK5 p1 p0 0)
  partial_fixpoint
def aR1 (p0:aJ) (p1:aJ):Option Bool :=
  (some (if (p0.distinct==p1.distinct)=true then (decide (p0.limit=p1.limit)) else false))>>=fun y1=>(if (true&&(y1==true))=true then aPt p0.items p1.items else some default)>>=fun y2=>(some (if y1=true then y2 else false))>>=fun y3=>(if (true&&(y3==true))=true then aSw p0.from_ p1.from_ else some default)>>=fun y4=>(some (if y3=true then y4 else false))>>=fun y5=>(if (true&&(y5==true))=true then R4 p0.where_ p1.where_ else some default)>>=fun y6=>(some (if y5=true then y6 else false))>>=fun y7=>(if (true&&(y7==true))=true then aSc p0.order p1.order else some default)>>=fun y8=>(some (if y7=true then y8 else false))>>=fun y9=>some y9
  partial_fixpoint
def aEm (p1:(List aJ)) (p0:(List aJ)) (x17:Int):Option Bool :=
  if (decide (x17<(p0.length:Int)))=true then ((idx p0 x17)>>=fun y1=>(idx p1 x17)>>=fun y2=>(aR1 y1 y2)>>=fun y3=>if (!y3)=true then (some false) else (aEm p1 p0 (IntKind.wrap .i64 (x17+1)))) else (some true)
  partial_fixpoint
def aD9 (p0:(List aJ)) (p1:(List aJ)):Option Bool :=
  if (!decide ((p0.length:Int)=(p1.length:Int)))=true then (some false) else (aEm p1 p0 0)
  partial_fixpoint
def O7 (p0:aA) (p1:aA):Option Bool :=
  (some (if (decide (p0.kind=p1.kind))=true then (decide (p0.op=p1.op)) else false))>>=fun y1=>(some (if y1=true then (p0.not_==p1.not_) else false))>>=fun y2=>(some (if y2=true then ((decide (p0.value.kind=p1.value.kind))&&((decide (p0.value.num=p1.value.num))&&((decide (p0.value.text=p1.value.text))&&true))) else false))>>=fun y3=>(some (if y3=true then (decide (p0.qual=p1.qual)) else false))>>=fun y4=>(some (if y4=true then (decide (p0.name=p1.name)) else false))>>=fun y5=>(if (true&&(y5==true))=true then R4 p0.kids p1.kids else some default)>>=fun y6=>(some (if y5=true then y6 else false))>>=fun y7=>(if (true&&(y7==true))=true then aD9 p0.sub p1.sub else some default)>>=fun y8=>(some (if y7=true then y8 else false))>>=fun y9=>some y9
  partial_fixpoint
end
def Y0 (p0:aA):Option Bool :=
  (O7 p0 (aA.mk 0 0 false (dV.mk 0 0 []) [] [] ([]:List aA) ([]:List aJ)))>>=fun y1=>some y1
mutual
def aD6 (p0:aJ):Option Bool :=
  (G5 p0)>>=fun y1=>some (!y1)
  partial_fixpoint
def G7 (p0:(List aJ)) (x8:Int):Option Int :=
  if (decide (x8<(p0.length:Int)))=true then ((idx p0 x8)>>=fun y1=>(aD6 y1)>>=fun y2=>if y2=true then (some x8) else (G7 p0 (IntKind.wrap .i64 (x8+1)))) else (some (-1))
  partial_fixpoint
def aDx (p0:(List aJ)):Option Int :=
  G7 p0 0
  partial_fixpoint
def Q9 (p0:(List aJ)):Option Bool :=
  (aDx p0)>>=fun y1=>some (decide (0≤y1))
  partial_fixpoint
def rZ (p0:aA):Option Bool :=
  (I5 p0)>>=fun y1=>(if (true&&((!y1.2)==false))=true then some (if (!y1.1.op)=true then (!decide (p0.op=0)) else false) else some default)>>=fun y2=>(some (if (!y1.2)=true then true else y2))>>=fun y3=>(if (true&&(y3==false))=true then some (if (!y1.1.not_)=true then p0.not_ else false) else some default)>>=fun y4=>(some (if y3=true then true else y4))>>=fun y5=>(if (true&&(y5==false))=true then some (if (!y1.1.value)=true then (!((decide (p0.value.kind=0))&&((decide (p0.value.num=0))&&((decide (p0.value.text=[]))&&true)))) else false) else some default)>>=fun y6=>(some (if y5=true then true else y6))>>=fun y7=>(if ((true&&(y7==false))&&((!y1.1.name)==true))=true then some (if (!decide (p0.qual=[]))=true then true else (!decide (p0.name=[]))) else some default)>>=fun y8=>(if (true&&(y7==false))=true then some (if (!y1.1.name)=true then y8 else false) else some default)>>=fun y9=>(some (if y7=true then true else y9))>>=fun y10=>if y10=true then (some false) else ((some (if (decide ((p0.kids.length:Int)<y1.1.least))=true then true else (decide (y1.1.most<(p0.kids.length:Int)))))>>=fun y11=>(some (if y11=true then true else (!decide ((p0.sub.length:Int)=y1.1.subs))))>>=fun y12=>if y12=true then (some false) else ((xU p0.kids)>>=fun y13=>(if (true&&(y13==true))=true then Q9 p0.sub else some default)>>=fun y14=>(some (if y13=true then (!y14) else false))>>=fun y15=>some y15))
  partial_fixpoint
def aIr (p0:aA):Option Bool :=
  (rZ p0)>>=fun y1=>some (!y1)
  partial_fixpoint
def Q6 (p0:(List aA)) (x8:Int):Option Int :=
  if (decide (x8<(p0.length:Int)))=true then ((idx p0 x8)>>=fun y1=>(aIr y1)>>=fun y2=>if y2=true then (some x8) else (Q6 p0 (IntKind.wrap .i64 (x8+1)))) else (some (-1))
  partial_fixpoint
def aHe (p0:(List aA)):Option Int :=
  Q6 p0 0
  partial_fixpoint
def aLp (p0:(List aA)):Option Bool :=
  (aHe p0)>>=fun y1=>some (decide (0≤y1))
  partial_fixpoint
def xU (p0:(List aA)):Option Bool :=
  (aLp p0)>>=fun y1=>some (!y1)
  partial_fixpoint
def M8 (p0:aJ) (x92:Int):Option Bool :=
  if (decide (x92<(p0.from_.length:Int)))=true then ((idx p0.from_ x92)>>=fun y17=>(qD y17.table)>>=fun y18=>(if (true&&((!y18)==false))=true then xV y17.as_ else some default)>>=fun y19=>(some (if (!y18)=true then true else (!y19)))>>=fun y20=>(some (if y20=true then true else (decide (1<(y17.on_.length:Int)))))>>=fun y21=>(if (true&&(y21==false))=true then some (if (decide (x92=0))=true then (decide (0<(y17.on_.length:Int))) else false) else some default)>>=fun y22=>(some (if y21=true then true else y22))>>=fun y23=>if y23=true then (some false) else (M8 p0 (IntKind.wrap .i64 (x92+1)))) else ((M4 p0)>>=fun y24=>(xU y24)>>=fun y25=>some y25)
  partial_fixpoint
def F4 (p0:aJ) (x49:Int):Option Bool :=
  if (decide (x49<(p0.items.length:Int)))=true then ((idx p0.items x49)>>=fun y7=>(if (true&&(y7.star==true))=true then xV y7.qual else some default)>>=fun y8=>(if (true&&(y7.star==true))=true then some (if (!y8)=true then true else (!decide (y7.as_=[]))) else some default)>>=fun y9=>(if ((true&&(y7.star==true))&&(y9==false))=true then Y0 y7.expr else some default)>>=fun y10=>(if (true&&(y7.star==true))=true then some (if y9=true then true else (!y10)) else some default)>>=fun y11=>(some (if y7.star=true then y11 else false))>>=fun y12=>(if (((true&&(y12==false))&&((!y7.star)==true))&&((!decide (y7.qual=[]))==false))=true then xV y7.as_ else some default)>>=fun y13=>(if ((true&&(y12==false))&&((!y7.star)==true))=true then some (if (!decide (y7.qual=[]))=true then true else (!y13)) else some default)>>=fun y14=>(if (true&&(y12==false))=true then some (if (!y7.star)=true then y14 else false) else some default)>>=fun y15=>(some (if y12=true then true else y15))>>=fun y16=>if y16=true then (some false) else (F4 p0 (IntKind.wrap .i64 (x49+1)))) else (M8 p0 0)
  partial_fixpoint
def G5 (p0:aJ):Option Bool :=
  (some (if (decide ((p0.items.length:Int)<1))=true then true else (decide (12<(p0.items.length:Int)))))>>=fun y1=>(some (if y1=true then true else (decide ((p0.from_.length:Int)<1))))>>=fun y2=>(some (if y2=true then true else (decide (3<(p0.from_.length:Int)))))>>=fun y3=>(some (if y3=true then true else (decide (1<(p0.where_.length:Int)))))>>=fun y4=>(some (if y4=true then true else (decide (12<(p0.order.length:Int)))))>>=fun y5=>(some (if y5=true then true else (decide (p0.limit<(-1)))))>>=fun y6=>if y6=true then (some false) else (F4 p0 0)
  partial_fixpoint
end
def aHw (p0:Int) (p1:Int):Option Bool :=
  (some (if (decide (p0≤24))=true then (decide (p1≤200)) else false))>>=fun y1=>some y1
mutual
def zY (p0:aA) (dU:Int) (x23:Int):Option Int :=
  if (decide (x23<(p0.sub.length:Int)))=true then ((idx p0.sub x23)>>=fun y4=>(zC y4)>>=fun y5=>zY p0 (if y5 > dU then y5 else dU) (IntKind.wrap .i64 (x23+1))) else (some (IntKind.wrap .i64 (1+dU)))
  partial_fixpoint
def U8 (p0:aA) (x3:Int) (x11:Int):Option Int :=
  if (decide (x11<(p0.kids.length:Int)))=true then ((idx p0.kids x11)>>=fun y1=>(rQ y1)>>=fun y2=>U8 p0 (if y2 > x3 then y2 else x3) (IntKind.wrap .i64 (x11+1))) else (zY p0 x3 0)
  partial_fixpoint
def rQ (p0:aA):Option Int :=
  U8 p0 0 0
  partial_fixpoint
def aCh (p0:(List aA)) (x3:Int) (x8:Int):Option Int :=
  if (decide (x8<(p0.length:Int)))=true then ((idx p0 x8)>>=fun y1=>(rQ y1)>>=fun y2=>aCh p0 (if y2 > x3 then y2 else x3) (IntKind.wrap .i64 (x8+1))) else (some x3)
  partial_fixpoint
def aJ8 (p0:(List aA)):Option Int :=
  aCh p0 0 0
  partial_fixpoint
def zC (p0:aJ):Option Int :=
  (M4 p0)>>=fun y1=>(aJ8 y1)>>=fun y2=>some y2
  partial_fixpoint
end
mutual
def H9 (p0:aA) (x3:Int) (x13:Int):Option Int :=
  if (decide (x13<(p0.sub.length:Int)))=true then ((idx p0.sub x13)>>=fun y2=>(yH y2)>>=fun y3=>H9 p0 (IntKind.wrap .i64 (x3+y3)) (IntKind.wrap .i64 (x13+1))) else (some x3)
  partial_fixpoint
def uM (p0:aA):Option Int :=
  (Y7 p0.kids)>>=fun y1=>H9 p0 (IntKind.wrap .i64 (1+y1)) 0
  partial_fixpoint
def aBk (p0:(List aA)) (x3:Int) (x8:Int):Option Int :=
  if (decide (x8<(p0.length:Int)))=true then ((idx p0 x8)>>=fun y1=>(uM y1)>>=fun y2=>aBk p0 (IntKind.wrap .i64 (x3+y2)) (IntKind.wrap .i64 (x8+1))) else (some x3)
  partial_fixpoint
def Y7 (p0:(List aA)):Option Int :=
  aBk p0 0 0
  partial_fixpoint
def yH (p0:aJ):Option Int :=
  (M4 p0)>>=fun y1=>(Y7 y1)>>=fun y2=>some y2
  partial_fixpoint
end
def aA7 (p0:aJ):Option Bool :=
  (zC p0)>>=fun y1=>(yH p0)>>=fun y2=>(aHw y1 y2)>>=fun y3=>(if (true&&(y3==true))=true then G5 p0 else some default)>>=fun y4=>(some (if y3=true then y4 else false))>>=fun y5=>some y5
def yQ (p0:aL) (p1:(List aL)):Option (List aL) :=
  (appG 24 ([p0]:List aL) p1)>>=fun y1=>some y1
mutual
def M9 (p1:(List UInt8)) (p2:(List UInt8)) (p0:aL) (x14:Int) (oW:(List Int)):Option (List Int) :=
  J8 p1 p2 p0 oW (IntKind.wrap .i64 (x14+1))
  partial_fixpoint
def J8 (p1:(List UInt8)) (p2:(List UInt8)) (p0:aL) (x7:(List Int)) (x14:Int):Option (List Int) :=
  if (decide (x14<(p0.names.length:Int)))=true then ((idx p0.names x14)>>=fun y1=>(if (true&&((decide (y1.name=p2))==true))=true then some (if (decide (p1=[]))=true then true else (decide (y1.qual=p1))) else some default)>>=fun y2=>(some (if (decide (y1.name=p2))=true then y2 else false))>>=fun y3=>if y3=true then ((appG 8 x7 ([x14]:List Int))>>=fun y4=>M9 p1 p2 p0 x14 y4) else (M9 p1 p2 p0 x14 x7)) else (some x7)
  partial_fixpoint
end
def V8 (p0:aL) (p1:(List UInt8)) (p2:(List UInt8)):Option (List Int) :=
  J8 p1 p2 p0 ([]:List Int) 0
def L8 (p2:aA) (c0_0:(List aP)) (c0_2:Bool) (c0_1:(List aB)) (oD:Int) (oO:Int) (oG:Int):Option ((List aP)×Bool×(List aB)) :=
  (appG 56 c0_1 ([(aB.mk p2.qual p2.name oD oO oG)]:List aB))>>=fun y4=>some (c0_0,c0_2,y4)
def Q3 (p1:(List aL)) (p2:aA) (c0_0:(List aP)) (c0_2:Bool) (c0_1:(List aB)) (x17:Int):Option ((List aP)×Bool×(List aB)) :=
  if (decide (x17<(p1.length:Int)))=true then ((idx p1 x17)>>=fun y1=>(V8 y1 p2.qual p2.name)>>=fun y2=>if (decide (0<(y2.length:Int)))=true then (if (decide ((y2.length:Int)=1))=true then ((idx y2 0)>>=fun y3=>L8 p2 c0_0 c0_2 c0_1 (y2.length:Int) x17 y3) else (L8 p2 c0_0 c0_2 c0_1 (y2.length:Int) 0 0)) else (Q3 p1 p2 c0_0 c0_2 c0_1 (IntKind.wrap .i64 (x17+1)))) else (L8 p2 c0_0 c0_2 c0_1 0 0 0)
  partial_fixpoint
def aDd (c0_0:(List aP)) (c0_1:(List aB)) (c0_2:Bool) (p1:(List aL)) (p2:aA):Option ((List aP)×Bool×(List aB)) :=
  Q3 p1 p2 c0_0 c0_2 c0_1 0
mutual
def O1 (p1:(List UInt8)) (p0:aL) (x12:Int) (iR:(List Int)):Option (List Int) :=
  O9 p1 p0 iR (IntKind.wrap .i64 (x12+1))
  partial_fixpoint
def O9 (p1:(List UInt8)) (p0:aL) (x5:(List Int)) (x12:Int):Option (List Int) :=
  if (decide (x12<(p0.names.length:Int)))=true then ((idx p0.names x12)>>=fun y1=>(some (if (decide (p1=[]))=true then true else (decide (y1.qual=p1))))>>=fun y2=>if y2=true then ((appG 8 x5 ([x12]:List Int))>>=fun y3=>O1 p1 p0 x12 y3) else (O1 p1 p0 x12 x5)) else (some x5)
  partial_fixpoint
end
def aBg (p0:aL) (p1:(List UInt8)):Option (List Int) :=
  O9 p1 p0 ([]:List Int) 0
def aA9 (p0:aV):Option (List UInt8) :=
  if (decide (p0.as_=[]))=true then (some p0.table) else (some p0.as_)
mutual
def vM (p1:(List aV)) (y3:(List UInt8)) (x19:Int) (y7:aP) (p0:aY) (x57:Int) (nE:(List dL)):Option (aL×Int×(List UInt8)) :=
  if (decide (x57<(y7.cols.length:Int)))=true then ((idx y7.cols x57)>>=fun y9=>(appG 40 nE ([(dL.mk y3 y9.name y9.type)]:List dL))>>=fun y10=>vM p1 y3 x19 y7 p0 (IntKind.wrap .i64 (x57+1)) y10) else (yU p1 p0 (IntKind.wrap .i64 (x19+1)) nE)
  partial_fixpoint
def yK (p1:(List aV)) (y2:Int) (y3:(List UInt8)) (x19:Int) (y4:(List aV)) (p0:aY) (aX:(List dL)) (x39:Int):Option (aL×Int×(List UInt8)) :=
  if (decide (x39<(y4.length:Int)))=true then ((idx y4 x39)>>=fun y5=>(aA9 y5)>>=fun y6=>if (decide (y6=y3))=true then (some ((aL.mk ([]:List dL)),2,y3)) else (yK p1 y2 y3 x19 y4 p0 aX (IntKind.wrap .i64 (x39+1)))) else ((idx p0.tables y2)>>=fun y7=>vM p1 y3 x19 y7 p0 0 aX)
  partial_fixpoint
def yU (p1:(List aV)) (p0:aY) (x19:Int) (aX:(List dL)):Option (aL×Int×(List UInt8)) :=
  if (decide (x19<(p1.length:Int)))=true then ((idx p1 x19)>>=fun y1=>(K3 p0 y1.table)>>=fun y2=>if (decide (y2<0))=true then (some ((aL.mk ([]:List dL)),1,y1.table)) else ((aA9 y1)>>=fun y3=>(mV p1 0 x19)>>=fun y4=>yK p1 y2 y3 x19 y4 p0 aX 0)) else (some ((aL.mk aX),0,[]))
  partial_fixpoint
end
def V4 (p0:aY) (p1:(List aV)):Option (aL×Int×(List UInt8)) :=
  yU p1 p0 0 ([]:List dL)
def aAe (c0_0:(List aP)) (c0_1:(List aB)) (c0_2:Bool) (p1:(List aV)):Option (aL×(List aP)×Bool) :=
  (V4 (aY.mk c0_0) p1)>>=fun y1=>(some (if c0_2=true then true else (!decide (y1.2.1=0))))>>=fun y2=>some (y1.1,c0_0,y2)
mutual
def M7 (y7:(List aL)) (p2:aJ) (x66:Int) (y20:(List Int)) (gI:(List aP)) (gJ:Bool) (kx86:(Int×(List aB))):Option ((List aP)×Bool×(List aB)) :=
  if (decide (kx86.1<(y20.length:Int)))=true then ((idx y20 kx86.1)>>=fun y21=>(idx y7 0)>>=fun y22=>(idx y22.names y21)>>=fun y23=>(appG 56 kx86.2 ([(aB.mk y23.qual y23.name 1 0 y21)]:List aB))>>=fun y24=>M7 y7 p2 x66 y20 gI gJ ((IntKind.wrap .i64 (kx86.1+1)),y24)) else (aBp y7 p2 x66 gI gJ kx86.2)
  partial_fixpoint
def aBp (y7:(List aL)) (p2:aJ) (x66:Int) (oM:(List aP)) (pU:Bool) (pI:(List aB)):Option ((List aP)×Bool×(List aB)) :=
  aBo y7 p2 (IntKind.wrap .i64 (x66+1)) oM pU pI
  partial_fixpoint
def aBo (y7:(List aL)) (p2:aJ) (x66:Int) (gI:(List aP)) (gJ:Bool) (kV:(List aB)):Option ((List aP)×Bool×(List aB)) :=
  if (decide (x66<(p2.items.length:Int)))=true then ((idx p2.items x66)>>=fun y15=>if (!y15.star)=true then ((wL gI kV gJ y7 ([y15.expr]:List aA))>>=fun y16=>aBp y7 p2 x66 y16.1 y16.2.1 y16.2.2) else ((idx y7 0)>>=fun y19=>(aBg y19 y15.qual)>>=fun y20=>M7 y7 p2 x66 y20 gI gJ (0,kV))) else (some (gI,gJ,kV))
  partial_fixpoint
def aA3 (y7:(List aL)) (p2:aJ) (x52:Int) (jX:(List aP)) (nM:Bool) (nK:(List aB)):Option ((List aP)×Bool×(List aB)) :=
  if (decide (x52<(p2.order.length:Int)))=true then ((idx p2.order x52)>>=fun y11=>(wL jX nK nM y7 ([y11.expr]:List aA))>>=fun y12=>aA3 y7 p2 (IntKind.wrap .i64 (x52+1)) y12.1 y12.2.1 y12.2.2) else (aBo y7 p2 0 jX nM nK)
  partial_fixpoint
def aBq (p1:(List aL)) (p2:(List aA)) (x12:Int) (y1:aA) (x31:Int) (nT:(List aP)) (lC:(Bool×(List aB))):Option ((List aP)×Bool×(List aB)) :=
  if (decide (x31<(y1.sub.length:Int)))=true then ((idx y1.sub x31)>>=fun y8=>(U9 nT lC.2 lC.1 p1 y8)>>=fun y9=>aBq p1 p2 x12 y1 (IntKind.wrap .i64 (x31+1)) y9.1 (y9.2.1,y9.2.2)) else (Y5 p1 p2 (IntKind.wrap .i64 (x12+1)) nT lC.1 lC.2)
  partial_fixpoint
def aAy (p1:(List aL)) (p2:(List aA)) (x12:Int) (y1:aA) (kT:(List aP)) (oJ:Bool) (pW:(List aB)):Option ((List aP)×Bool×(List aB)) :=
  (wL kT pW oJ p1 y1.kids)>>=fun y5=>aBq p1 p2 x12 y1 0 y5.1 (y5.2.1,y5.2.2)
  partial_fixpoint
def Y5 (p1:(List aL)) (p2:(List aA)) (x12:Int) (eQ:(List aP)) (eT:Bool) (lW:(List aB)):Option ((List aP)×Bool×(List aB)) :=
  if (decide (x12<(p2.length:Int)))=true then ((idx p2 x12)>>=fun y1=>if (decide (y1.kind=2))=true then ((aDd eQ lW eT p1 y1)>>=fun y2=>aAy p1 p2 x12 y1 y2.1 y2.2.1 y2.2.2) else (aAy p1 p2 x12 y1 eQ eT lW)) else (some (eQ,eT,lW))
  partial_fixpoint
def wL (c0_0:(List aP)) (c0_1:(List aB)) (c0_2:Bool) (p1:(List aL)) (p2:(List aA)):Option ((List aP)×Bool×(List aB)) :=
  Y5 p1 p2 0 c0_0 c0_2 c0_1
  partial_fixpoint
def Z6 (p1:(List aL)) (p2:aJ) (x19:Int) (eQ:(List aP)) (eT:Bool) (mG:(List aB)):Option ((List aP)×Bool×(List aB)) :=
  if (decide (x19<(p2.from_.length:Int)))=true then ((idx p2.from_ x19)>>=fun y1=>(mV p2.from_ 0 (IntKind.wrap .i64 (x19+1)))>>=fun y2=>(aAe eQ mG eT y2)>>=fun y3=>(yQ y3.1 p1)>>=fun y4=>(wL y3.2.1 mG y3.2.2 y4 y1.on_)>>=fun y5=>Z6 p1 p2 (IntKind.wrap .i64 (x19+1)) y5.1 y5.2.1 y5.2.2) else ((aAe eQ mG eT p2.from_)>>=fun y6=>(yQ y6.1 p1)>>=fun y7=>(wL y6.2.1 mG y6.2.2 y7 p2.where_)>>=fun y8=>aA3 y7 p2 0 y8.1 y8.2.1 y8.2.2)
  partial_fixpoint
def U9 (c0_0:(List aP)) (c0_1:(List aB)) (c0_2:Bool) (p1:(List aL)) (p2:aJ):Option ((List aP)×Bool×(List aB)) :=
  Z6 p1 p2 0 c0_0 c0_2 c0_1
  partial_fixpoint
end
def aBm (p0:aY) (p1:aJ):Option ((List aB)×Bool) :=
  (aEi p0)>>=fun y1=>(if (true&&((!y1)==false))=true then aA7 p1 else some default)>>=fun y2=>(some (if (!y1)=true then true else (!y2)))>>=fun y3=>if y3=true then (some (([]:List aB),false)) else ((U9 p0.tables ([]:List aB) false ([]:List aL) p1)>>=fun y4=>if y4.2.1=true then (some (([]:List aB),false)) else (some (y4.2.2,true)))
def yD (p1:(List UInt8)) (p0:aP) (x5:Int):Option Int :=
  if (decide (x5<(p0.cols.length:Int)))=true then ((idx p0.cols x5)>>=fun y1=>if (decide (y1.name=p1))=true then (some x5) else (yD p1 p0 (IntKind.wrap .i64 (x5+1)))) else (some (-1))
  partial_fixpoint
def H8 (p0:aP) (p1:(List UInt8)):Option Int :=
  yD p1 p0 0
def lZ (p0:Int) (p1:Int) (p2:Int):Option Bool :=
  (some (if (decide (p1≤p0))=true then (decide (p0≤p2)) else false))>>=fun y1=>some y1
def mZ (p0:(List UInt8)):Option Bool :=
  (lZ (p0.length:Int) 1 20)>>=fun y1=>some y1
def uE (p1:(List UInt8)) (p0:aY) (x5:Int):Option Int :=
  if (decide (x5<(p0.tables.length:Int)))=true then ((idx p0.tables x5)>>=fun y1=>if (decide (y1.name=p1))=true then (some x5) else (uE p1 p0 (IntKind.wrap .i64 (x5+1)))) else (some (-1))
  partial_fixpoint
def nY (p0:aY) (p1:(List UInt8)):Option Int :=
  uE p1 p0 0
mutual
def xG (x3:Int) (p0:aY) (y1:aP) (x5:Int):Option Bool :=
  if (decide (x5<(y1.cols.length:Int)))=true then ((idx y1.cols x5)>>=fun y7=>(mZ y7.name)>>=fun y8=>(if (true&&((!y8)==false))=true then idx y1.cols x5 else some default)>>=fun y9=>(if (true&&((!y8)==false))=true then H8 y1 y9.name else some default)>>=fun y10=>(some (if (!y8)=true then true else (!decide (y10=x5))))>>=fun y11=>(if (true&&(y11==false))=true then idx y1.cols x5 else some default)>>=fun y12=>(if (true&&(y11==false))=true then lZ y12.type 1 3 else some default)>>=fun y13=>(some (if y11=true then true else (!y13)))>>=fun y14=>if y14=true then (some false) else (xG x3 p0 y1 (IntKind.wrap .i64 (x5+1)))) else (zT p0 (IntKind.wrap .i64 (x3+1)))
  partial_fixpoint
def zT (p0:aY) (x3:Int):Option Bool :=
  if (decide (x3<(p0.tables.length:Int)))=true then ((idx p0.tables x3)>>=fun y1=>(mZ y1.name)>>=fun y2=>(if (true&&((!y2)==false))=true then nY p0 y1.name else some default)>>=fun y3=>(some (if (!y2)=true then true else (!decide (y3=x3))))>>=fun y4=>(if (true&&(y4==false))=true then lZ (y1.cols.length:Int) 1 4 else some default)>>=fun y5=>(some (if y4=true then true else (!y5)))>>=fun y6=>if y6=true then (some false) else (xG x3 p0 y1 0)) else (some true)
  partial_fixpoint
end
def aCq (p0:aY):Option Bool :=
  if (decide (4<(p0.tables.length:Int)))=true then (some false) else (zT p0 0)
def uR (p0:aL) (p1:(List aL)):Option (List aL) :=
  (appG 24 ([p0]:List aL) p1)>>=fun y1=>some y1
mutual
def F9 (p1:(List UInt8)) (x6:Int) (p0:aL) (iR:(List Int)):Option (List Int) :=
  R9 p1 p0 iR (IntKind.wrap .i64 (x6+1))
  partial_fixpoint
def R9 (p1:(List UInt8)) (p0:aL) (x5:(List Int)) (x6:Int):Option (List Int) :=
  if (decide (x6<(p0.names.length:Int)))=true then ((if (true&&((decide (p1=[]))==false))=true then idx p0.names x6 else some default)>>=fun y1=>(some (if (decide (p1=[]))=true then true else (decide (y1.qual=p1))))>>=fun y2=>if y2=true then ((appG 8 x5 ([x6]:List Int))>>=fun y3=>F9 p1 x6 p0 y3) else (F9 p1 x6 p0 x5)) else (some x5)
  partial_fixpoint
end
def R7 (p0:aL) (p1:(List UInt8)):Option (List Int) :=
  R9 p1 p0 ([]:List Int) 0
def aE8 (p0:aV):Option (List UInt8) :=
  if (!decide (p0.as_=[]))=true then (some p0.as_) else (some p0.table)
def zU (p0:(List (List UInt8))) (p1:(List UInt8)) (x5:Int):Option Bool :=
  if (decide (x5<(p0.length:Int)))=true then ((idx p0 x5)>>=fun y1=>if (decide (y1=p1))=true then (some true) else (zU p0 p1 (IntKind.wrap .i64 (x5+1)))) else (some false)
  partial_fixpoint
def aDk (p0:(List (List UInt8))) (p1:(List UInt8)):Option Bool :=
  zU p0 p1 0
mutual
def L9 (p1:(List aV)) (y7:(List (List UInt8))) (x9:Int) (y4:(List UInt8)) (y8:aP) (p0:aY) (x13:Int) (lG:(List dL)):Option (aL×Int×(List UInt8)) :=
  if (decide (x13<(y8.cols.length:Int)))=true then ((idx y8.cols x13)>>=fun y10=>(idx y8.cols x13)>>=fun y11=>(appG 40 lG ([(dL.mk y4 y10.name y11.type)]:List dL))>>=fun y12=>L9 p1 y7 x9 y4 y8 p0 (IntKind.wrap .i64 (x13+1)) y12) else (yT p1 p0 y7 (IntKind.wrap .i64 (x9+1)) lG)
  partial_fixpoint
def yT (p1:(List aV)) (p0:aY) (x8:(List (List UInt8))) (x9:Int) (aX:(List dL)):Option (aL×Int×(List UInt8)) :=
  if (decide (x9<(p1.length:Int)))=true then ((idx p1 x9)>>=fun y1=>(nY p0 y1.table)>>=fun y2=>(idx p1 x9)>>=fun y3=>(aE8 y3)>>=fun y4=>if (decide (y2<0))=true then ((idx p1 x9)>>=fun y5=>some ((aL.mk ([]:List dL)),1,y5.table)) else ((aDk x8 y4)>>=fun y6=>if y6=true then (some ((aL.mk ([]:List dL)),2,y4)) else ((appG 16 x8 ([y4]:List (List UInt8)))>>=fun y7=>(idx p0.tables y2)>>=fun y8=>L9 p1 y7 x9 y4 y8 p0 0 aX))) else (some ((aL.mk aX),0,[]))
  partial_fixpoint
end
def vL (p0:aY) (p1:(List aV)):Option (aL×Int×(List UInt8)) :=
  yT p1 p0 ([]:List (List UInt8)) 0 ([]:List dL)
def M6 (p1:aA) (lK:Int) (xO:Int) (yF:Int):Option aB :=
  some (aB.mk p1.qual p1.name lK xO yF)
def zJ (p1:aA) (lK:Int) (yP:Int) (zW:Int):Option aB :=
  if (!decide (lK=1))=true then (M6 p1 lK 0 0) else (M6 p1 lK yP zW)
mutual
def F5 (p0:(List aL)) (x6:Int) (x7:Int) (p1:aA) (oU:Int) (pX:Int) (oZ:Int):Option aB :=
  I4 p0 x6 p1 (IntKind.wrap .i64 (x7+1)) oU pX oZ
  partial_fixpoint
def I4 (p0:(List aL)) (x6:Int) (p1:aA) (x7:Int) (lQ:Int) (nI:Int) (nH:Int):Option aB :=
  (idx p0 x6)>>=fun y7=>if (decide (x7<(y7.names.length:Int)))=true then ((idx p0 x6)>>=fun y8=>(idx y8.names x7)>>=fun y9=>(if (true&&((decide (y9.name=p1.name))==true))=true then some (if (decide (p1.qual=[]))=true then true else (decide (y9.qual=p1.qual))) else some default)>>=fun y10=>(some (if (decide (y9.name=p1.name))=true then y10 else false))>>=fun y11=>if y11=true then (F5 p0 x6 x7 p1 (IntKind.wrap .i64 (lQ+1)) x6 x7) else (F5 p0 x6 x7 p1 lQ nI nH)) else (if (decide (0<lQ))=true then (zJ p1 lQ nI nH) else (yV p0 p1 (IntKind.wrap .i64 (x6+1)) lQ nI nH))
  partial_fixpoint
def yV (p0:(List aL)) (p1:aA) (x6:Int) (nP:Int) (nN:Int) (nQ:Int):Option aB :=
  if (decide (x6<(p0.length:Int)))=true then (I4 p0 x6 p1 0 nP nN nQ) else (zJ p1 nP nN nQ)
  partial_fixpoint
end
def aB0 (p0:(List aL)) (p1:aA):Option aB :=
  yV p0 p1 0 0 0 0
mutual
def H7 (cO:Bool) (x18:(List aL)) (x20:Int) (y26:(List Int)) (p0:aY) (p2:aJ) (y1:aL×Int×(List UInt8)) (kH:((List aB)×Int)):Option ((List aB)×Bool) :=
  if (decide (kH.2<(y26.length:Int)))=true then ((idx y26 kH.2)>>=fun y28=>(idx y1.1.names y28)>>=fun y29=>(idx y26 kH.2)>>=fun y30=>(appG 56 kH.1 ([(aB.mk y29.qual y29.name 1 0 y30)]:List aB))>>=fun y31=>H7 cO x18 x20 y26 p0 p2 y1 (y31,(IntKind.wrap .i64 (kH.2+1)))) else (aAt x18 x20 p0 p2 y1 kH.1 cO)
  partial_fixpoint
def aAt (x18:(List aL)) (x20:Int) (p0:aY) (p2:aJ) (y1:aL×Int×(List UInt8)) (iB:(List aB)) (iE:Bool):Option ((List aB)×Bool) :=
  aAf x18 p0 p2 y1 iB iE (IntKind.wrap .i64 (x20+1))
  partial_fixpoint
def aAf (x18:(List aL)) (p0:aY) (p2:aJ) (y1:aL×Int×(List UInt8)) (fV:(List aB)) (cO:Bool) (x20:Int):Option ((List aB)×Bool) :=
  (some (if (decide (x20<(p2.items.length:Int)))=true then cO else false))>>=fun y19=>if y19=true then ((idx p2.items x20)>>=fun y20=>if (!y20.star)=true then ((idx p2.items x20)>>=fun y21=>(mU p0 x18 y21.expr fV)>>=fun y22=>aAt x18 x20 p0 p2 y1 y22.1 y22.2) else ((idx p2.items x20)>>=fun y25=>(R7 y1.1 y25.qual)>>=fun y26=>H7 cO x18 x20 y26 p0 p2 y1 (fV,0))) else (some (fV,cO))
  partial_fixpoint
def W9 (x18:(List aL)) (p0:aY) (p2:aJ) (y1:aL×Int×(List UInt8)) (gM:(List aB)) (gN:Bool) (x19:Int):Option ((List aB)×Bool) :=
  (some (if (decide (x19<(p2.order.length:Int)))=true then gN else false))>>=fun y14=>if y14=true then ((idx p2.order x19)>>=fun y15=>(mU p0 x18 y15.expr gM)>>=fun y16=>W9 x18 p0 p2 y1 y16.1 y16.2 (IntKind.wrap .i64 (x19+1))) else (aAf x18 p0 p2 y1 gM gN 0)
  partial_fixpoint
def X3 (p0:aY) (p2:aJ) (y1:aL×Int×(List UInt8)) (jF:(List aB)) (jB:Bool) (x18:(List aL)):Option ((List aB)×Bool) :=
  W9 x18 p0 p2 y1 jF jB 0
  partial_fixpoint
def aAp (p1:(List aL)) (p0:aY) (p2:aJ) (y1:aL×Int×(List UInt8)) (x3:(List aB)) (x13:Bool) (x14:Int):Option ((List aB)×Bool) :=
  (some (if (decide (x14<(p2.from_.length:Int)))=true then x13 else false))>>=fun y2=>if y2=true then ((mV p2.from_ 0 (IntKind.wrap .i64 (x14+1)))>>=fun y3=>(vL p0 y3)>>=fun y4=>(uR y4.1 p1)>>=fun y5=>(idx p2.from_ x14)>>=fun y6=>(sN p0 y5 y6.on_ x3)>>=fun y7=>aAp p1 p0 p2 y1 y7.1 y7.2 (IntKind.wrap .i64 (x14+1))) else ((uR y1.1 p1)>>=fun y8=>if x13=true then ((sN p0 y8 p2.where_ x3)>>=fun y9=>X3 p0 p2 y1 y9.1 y9.2 y8) else (X3 p0 p2 y1 x3 x13 y8))
  partial_fixpoint
def K6 (p0:aY) (p1:(List aL)) (p2:aJ) (p3:(List aB)):Option ((List aB)×Bool) :=
  (vL p0 p2.from_)>>=fun y1=>if (!decide (y1.2.1=0))=true then (some (p3,false)) else (aAp p1 p0 p2 y1 p3 true 0)
  partial_fixpoint
def wJ (p1:(List aL)) (p0:aY) (p2:aA) (nC:(List aB)) (nG:Bool) (x12:Int):Option ((List aB)×Bool) :=
  (some (if (decide (x12<(p2.sub.length:Int)))=true then nG else false))>>=fun y9=>if y9=true then ((idx p2.sub x12)>>=fun y10=>(K6 p0 p1 y10 nC)>>=fun y11=>wJ p1 p0 p2 y11.1 y11.2 (IntKind.wrap .i64 (x12+1))) else (some (nC,nG))
  partial_fixpoint
def xB (p1:(List aL)) (p0:aY) (p2:aA) (dU:(List aB)) (x10:Bool) (x11:Int):Option ((List aB)×Bool) :=
  (some (if (decide (x11<(p2.kids.length:Int)))=true then x10 else false))>>=fun y4=>if y4=true then ((idx p2.kids x11)>>=fun y5=>(mU p0 p1 y5 dU)>>=fun y6=>xB p1 p0 p2 y6.1 y6.2 (IntKind.wrap .i64 (x11+1))) else (wJ p1 p0 p2 dU x10 0)
  partial_fixpoint
def aBb (p1:(List aL)) (p0:aY) (p2:aA) (x3:(List aB)):Option ((List aB)×Bool) :=
  xB p1 p0 p2 x3 true 0
  partial_fixpoint
def mU (p0:aY) (p1:(List aL)) (p2:aA) (p3:(List aB)):Option ((List aB)×Bool) :=
  if (decide (p2.kind=2))=true then ((aB0 p1 p2)>>=fun y1=>(appG 56 p3 ([y1]:List aB))>>=fun y2=>aBb p1 p0 p2 y2) else (aBb p1 p0 p2 p3)
  partial_fixpoint
def yR (p2:(List aA)) (p0:aY) (x1:(List aL)) (x3:(List aB)) (x10:Bool) (x11:Int):Option ((List aB)×Bool) :=
  (some (if (decide (x11<(p2.length:Int)))=true then x10 else false))>>=fun y1=>if y1=true then ((idx p2 x11)>>=fun y2=>(mU p0 x1 y2 x3)>>=fun y3=>yR p2 p0 x1 y3.1 y3.2 (IntKind.wrap .i64 (x11+1))) else (some (x3,x10))
  partial_fixpoint
def sN (p0:aY) (p1:(List aL)) (p2:(List aA)) (p3:(List aB)):Option ((List aB)×Bool) :=
  yR p2 p0 p1 p3 true 0
  partial_fixpoint
end
mutual
def E9 (cO:Bool) (x18:(List aL)) (x20:Int) (y26:(List Int)) (p0:aY) (p2:aJ) (y1:aL×Int×(List UInt8)) (kR:(List aB)) (x22:Int):Option ((List aB)×Bool) :=
  if (decide (x22<(y26.length:Int)))=true then ((idx y26 x22)>>=fun y28=>(idx y1.1.names y28)>>=fun y29=>(idx y26 x22)>>=fun y30=>(appG 56 kR ([(aB.mk y29.qual y29.name 1 0 y30)]:List aB))>>=fun y31=>E9 cO x18 x20 y26 p0 p2 y1 y31 (IntKind.wrap .i64 (x22+1))) else (aCb x18 x20 p0 p2 y1 kR cO)
  partial_fixpoint
def aCb (x18:(List aL)) (x20:Int) (p0:aY) (p2:aJ) (y1:aL×Int×(List UInt8)) (iB:(List aB)) (iE:Bool):Option ((List aB)×Bool) :=
  aBi x18 p0 p2 y1 iB iE (IntKind.wrap .i64 (x20+1))
  partial_fixpoint
def aBi (x18:(List aL)) (p0:aY) (p2:aJ) (y1:aL×Int×(List UInt8)) (fV:(List aB)) (cO:Bool) (x20:Int):Option ((List aB)×Bool) :=
  (some (if (decide (x20<(p2.items.length:Int)))=true then cO else false))>>=fun y19=>if y19=true then ((idx p2.items x20)>>=fun y20=>if (!y20.star)=true then ((idx p2.items x20)>>=fun y21=>(mU p0 x18 y21.expr fV)>>=fun y22=>aCb x18 x20 p0 p2 y1 y22.1 y22.2) else ((idx p2.items x20)>>=fun y25=>(R7 y1.1 y25.qual)>>=fun y26=>E9 cO x18 x20 y26 p0 p2 y1 fV 0)) else (some (fV,cO))
  partial_fixpoint
end
def P8 (x18:(List aL)) (p0:aY) (p2:aJ) (y1:aL×Int×(List UInt8)) (gM:(List aB)) (gN:Bool) (x19:Int):Option ((List aB)×Bool) :=
  (some (if (decide (x19<(p2.order.length:Int)))=true then gN else false))>>=fun y14=>if y14=true then ((idx p2.order x19)>>=fun y15=>(mU p0 x18 y15.expr gM)>>=fun y16=>P8 x18 p0 p2 y1 y16.1 y16.2 (IntKind.wrap .i64 (x19+1))) else (aBi x18 p0 p2 y1 gM gN 0)
  partial_fixpoint
def aC9 (p0:aY) (p2:aJ) (y1:aL×Int×(List UInt8)) (jF:(List aB)) (jB:Bool) (x18:(List aL)):Option ((List aB)×Bool) :=
  P8 x18 p0 p2 y1 jF jB 0
def P6 (p1:(List aL)) (p0:aY) (p2:aJ) (y1:aL×Int×(List UInt8)) (x3:(List aB)) (x13:Bool) (x14:Int):Option ((List aB)×Bool) :=
  (some (if (decide (x14<(p2.from_.length:Int)))=true then x13 else false))>>=fun y2=>if y2=true then ((mV p2.from_ 0 (IntKind.wrap .i64 (x14+1)))>>=fun y3=>(vL p0 y3)>>=fun y4=>(uR y4.1 p1)>>=fun y5=>(idx p2.from_ x14)>>=fun y6=>(sN p0 y5 y6.on_ x3)>>=fun y7=>P6 p1 p0 p2 y1 y7.1 y7.2 (IntKind.wrap .i64 (x14+1))) else ((uR y1.1 p1)>>=fun y8=>if x13=true then ((sN p0 y8 p2.where_ x3)>>=fun y9=>aC9 p0 p2 y1 y9.1 y9.2 y8) else (aC9 p0 p2 y1 x3 x13 y8))
  partial_fixpoint
def P5 (p0:aY) (p1:(List aL)) (p2:aJ) (p3:(List aB)):Option ((List aB)×Bool) :=
  (vL p0 p2.from_)>>=fun y1=>if (!decide (y1.2.1=0))=true then (some (p3,false)) else (P6 p1 p0 p2 y1 p3 true 0)
def qF (p0:(List UInt8)):Option Bool :=
  (if (true&&((decide (p0=[]))==false))=true then mZ p0 else some default)>>=fun y1=>(some (if (decide (p0=[]))=true then true else y1))>>=fun y2=>some y2
def C8 (p0:aJ) (kW:(List aA)) (x6:Int):Option (List aA) :=
  if (decide (x6<(p0.order.length:Int)))=true then ((idx p0.order x6)>>=fun y10=>(appG 136 kW ([y10.expr]:List aA))>>=fun y11=>C8 p0 y11 (IntKind.wrap .i64 (x6+1))) else (some kW)
  partial_fixpoint
def zZ (p0:aJ) (nU:(List aA)) (x5:Int):Option (List aA) :=
  if (decide (x5<(p0.from_.length:Int)))=true then ((idx p0.from_ x5)>>=fun y6=>(appG 136 nU y6.on_)>>=fun y7=>zZ p0 y7 (IntKind.wrap .i64 (x5+1))) else ((appG 136 nU p0.where_)>>=fun y8=>C8 p0 y8 0)
  partial_fixpoint
mutual
def aBn (x4:Int) (p0:aJ) (eP:(List aA)):Option (List aA) :=
  aC7 p0 eP (IntKind.wrap .i64 (x4+1))
  partial_fixpoint
def aC7 (p0:aJ) (x3:(List aA)) (x4:Int):Option (List aA) :=
  if (decide (x4<(p0.items.length:Int)))=true then ((idx p0.items x4)>>=fun y1=>if (!y1.star)=true then ((idx p0.items x4)>>=fun y2=>(appG 136 x3 ([y2.expr]:List aA))>>=fun y3=>aBn x4 p0 y3) else (aBn x4 p0 x3)) else (zZ p0 x3 0)
  partial_fixpoint
end
def R5 (p0:aJ):Option (List aA) :=
  aC7 p0 ([]:List aA) 0
def Z0 (p0:dV):Option Bool :=
  if (decide (p0.kind=0))=true then ((some (if (decide (p0.num=0))=true then (decide (p0.text=[])) else false))>>=fun y1=>some y1) else (if (decide (p0.kind=1))=true then (some (decide (p0.text=[]))) else (if (decide (p0.kind=2))=true then ((some (if (decide (p0.num=0))=true then (decide ((p0.text.length:Int)≤200)) else false))>>=fun y2=>some y2) else (if (decide (p0.kind=3))=true then ((lZ p0.num 0 1)>>=fun y3=>(some (if y3=true then (decide (p0.text=[])) else false))>>=fun y4=>some y4) else (some false))))
def aA4 (p0:dV):Option Bool :=
  (Z0 p0)>>=fun y1=>(if (true&&(y1==true))=true then some (if (!decide (p0.kind=1))=true then true else (decide (0≤p0.num))) else some default)>>=fun y2=>(some (if y1=true then y2 else false))>>=fun y3=>(some (if y3=true then (decide ((p0.text.length:Int)≤40)) else false))>>=fun y4=>some y4
def aAb (p0:aA):Option Bool :=
  (if (true&&((!decide (p0.kind=2))==true))=true then some (if (!decide (p0.qual=[]))=true then true else (!decide (p0.name=[]))) else some default)>>=fun y1=>(some (if (!decide (p0.kind=2))=true then y1 else false))>>=fun y2=>(if (true&&(y2==false))=true then some (if (!decide (p0.kind=1))=true then (!((decide (p0.value.kind=0))&&((decide (p0.value.num=0))&&((decide (p0.value.text=[]))&&true)))) else false) else some default)>>=fun y3=>(some (if y2=true then true else y3))>>=fun y4=>if y4=true then (some false) else ((some (if (!decide (p0.kind=3))=true then (!decide (p0.kind=4)) else false))>>=fun y5=>(some (if y5=true then (!decide (p0.op=0)) else false))>>=fun y6=>(if ((true&&(y6==false))&&(p0.not_==true))=true then lZ p0.kind 5 8 else some default)>>=fun y7=>(if (true&&(y6==false))=true then some (if p0.not_=true then (!y7) else false) else some default)>>=fun y8=>(some (if y6=true then true else y8))>>=fun y9=>if y9=true then (some false) else (if (decide (p0.kind=1))=true then ((aA4 p0.value)>>=fun y10=>(some (if y10=true then (decide ((IntKind.wrap .i64 ((p0.kids.length:Int)+(p0.sub.length:Int)))=0)) else false))>>=fun y11=>some y11) else (if (decide (p0.kind=2))=true then ((mZ p0.name)>>=fun y12=>(if (true&&(y12==true))=true then qF p0.qual else some default)>>=fun y13=>(some (if y12=true then y13 else false))>>=fun y14=>(some (if y14=true then (decide ((IntKind.wrap .i64 ((p0.kids.length:Int)+(p0.sub.length:Int)))=0)) else false))>>=fun y15=>some y15) else (if (decide (p0.kind=3))=true then ((some (if (decide (p0.op=15))=true then true else (decide (p0.op=16))))>>=fun y16=>(some (if y16=true then (decide ((p0.kids.length:Int)=1)) else false))>>=fun y17=>(some (if y17=true then (decide ((p0.sub.length:Int)=0)) else false))>>=fun y18=>some y18) else (if (decide (p0.kind=4))=true then ((lZ p0.op 1 14)>>=fun y19=>(some (if y19=true then (decide ((p0.kids.length:Int)=2)) else false))>>=fun y20=>(some (if y20=true then (decide ((p0.sub.length:Int)=0)) else false))>>=fun y21=>some y21) else (if (decide (p0.kind=5))=true then ((some (if (decide ((p0.kids.length:Int)=1))=true then (decide ((p0.sub.length:Int)=0)) else false))>>=fun y22=>some y22) else (if (decide (p0.kind=6))=true then ((some (if (decide ((p0.kids.length:Int)=3))=true then (decide ((p0.sub.length:Int)=0)) else false))>>=fun y23=>some y23) else (if (decide (p0.kind=7))=true then ((lZ (p0.kids.length:Int) 2 9)>>=fun y24=>(some (if y24=true then (decide ((p0.sub.length:Int)=0)) else false))>>=fun y25=>some y25) else (if (decide (p0.kind=8))=true then ((some (if (decide ((p0.kids.length:Int)=1))=true then (decide ((p0.sub.length:Int)=1)) else false))>>=fun y26=>some y26) else (if (decide (p0.kind=9))=true then ((some (if (decide ((p0.kids.length:Int)=0))=true then (decide ((p0.sub.length:Int)=1)) else false))>>=fun y27=>some y27) else (some false)))))))))))
mutual
def aDh (p0:aJ) (p1:aJ) (x11:Int):Option Bool :=
  if (decide (x11<(p0.order.length:Int)))=true then ((idx p0.order x11)>>=fun y18=>(idx p1.order x11)>>=fun y19=>(if (true&&((!(y18.desc==y19.desc))==false))=true then idx p0.order x11 else some default)>>=fun y20=>(if (true&&((!(y18.desc==y19.desc))==false))=true then idx p1.order x11 else some default)>>=fun y21=>(if (true&&((!(y18.desc==y19.desc))==false))=true then uV y20.expr y21.expr else some default)>>=fun y22=>(some (if (!(y18.desc==y19.desc))=true then true else (!y22)))>>=fun y23=>if y23=true then (some false) else (aDh p0 p1 (IntKind.wrap .i64 (x11+1)))) else (some true)
  partial_fixpoint
def aNk (p0:aJ) (p1:aJ) (x8:Int):Option Bool :=
  if (decide (x8<(p0.from_.length:Int)))=true then ((idx p0.from_ x8)>>=fun y13=>(idx p1.from_ x8)>>=fun y14=>(some (if (!decide (y13.table=y14.table))=true then true else (!decide (y13.as_=y14.as_))))>>=fun y15=>(if (true&&(y15==false))=true then N7 y13.on_ y14.on_ else some default)>>=fun y16=>(some (if y15=true then true else (!y16)))>>=fun y17=>if y17=true then (some false) else (aNk p0 p1 (IntKind.wrap .i64 (x8+1)))) else (aDh p0 p1 0)
  partial_fixpoint
def aNx (p0:aJ) (p1:aJ) (x5:Int):Option Bool :=
  if (decide (x5<(p0.items.length:Int)))=true then ((idx p0.items x5)>>=fun y7=>(idx p1.items x5)>>=fun y8=>(some (if (!(y7.star==y8.star))=true then true else (!decide (y7.qual=y8.qual))))>>=fun y9=>(some (if y9=true then true else (!decide (y7.as_=y8.as_))))>>=fun y10=>(if (true&&(y10==false))=true then uV y7.expr y8.expr else some default)>>=fun y11=>(some (if y10=true then true else (!y11)))>>=fun y12=>if y12=true then (some false) else (aNx p0 p1 (IntKind.wrap .i64 (x5+1)))) else (aNk p0 p1 0)
  partial_fixpoint
def aQ1 (p0:aJ) (p1:aJ):Option Bool :=
  (some (if (!(p0.distinct==p1.distinct))=true then true else (!decide (p0.limit=p1.limit))))>>=fun y1=>(some (if y1=true then true else (!decide ((p0.items.length:Int)=(p1.items.length:Int)))))>>=fun y2=>(some (if y2=true then true else (!decide ((p0.from_.length:Int)=(p1.from_.length:Int)))))>>=fun y3=>(some (if y3=true then true else (!decide ((p0.order.length:Int)=(p1.order.length:Int)))))>>=fun y4=>(if (true&&(y4==false))=true then N7 p0.where_ p1.where_ else some default)>>=fun y5=>(some (if y4=true then true else (!y5)))>>=fun y6=>if y6=true then (some false) else (aNx p0 p1 0)
  partial_fixpoint
def aC4 (p0:aA) (p1:aA) (x5:Int):Option Bool :=
  if (decide (x5<(p0.sub.length:Int)))=true then ((idx p0.sub x5)>>=fun y9=>(idx p1.sub x5)>>=fun y10=>(aQ1 y9 y10)>>=fun y11=>if (!y11)=true then (some false) else (aC4 p0 p1 (IntKind.wrap .i64 (x5+1)))) else (some true)
  partial_fixpoint
def aCw (p0:(List aA)) (p1:(List aA)) (x5:Int):Option Bool :=
  if (decide (x5<(p0.length:Int)))=true then ((idx p0 x5)>>=fun y1=>(idx p1 x5)>>=fun y2=>(uV y1 y2)>>=fun y3=>if (!y3)=true then (some false) else (aCw p0 p1 (IntKind.wrap .i64 (x5+1)))) else (some true)
  partial_fixpoint
def N7 (p0:(List aA)) (p1:(List aA)):Option Bool :=
  if (!decide ((p0.length:Int)=(p1.length:Int)))=true then (some false) else (aCw p0 p1 0)
  partial_fixpoint
def uV (p0:aA) (p1:aA):Option Bool :=
  (some (if (!decide (p0.kind=p1.kind))=true then true else (!decide (p0.op=p1.op))))>>=fun y1=>(some (if y1=true then true else (!(p0.not_==p1.not_))))>>=fun y2=>(some (if y2=true then true else (!((decide (p0.value.kind=p1.value.kind))&&((decide (p0.value.num=p1.value.num))&&((decide (p0.value.text=p1.value.text))&&true))))))>>=fun y3=>(some (if y3=true then true else (!decide (p0.qual=p1.qual))))>>=fun y4=>(some (if y4=true then true else (!decide (p0.name=p1.name))))>>=fun y5=>(some (if y5=true then true else (!decide ((p0.sub.length:Int)=(p1.sub.length:Int)))))>>=fun y6=>(if (true&&(y6==false))=true then N7 p0.kids p1.kids else some default)>>=fun y7=>(some (if y6=true then true else (!y7)))>>=fun y8=>if y8=true then (some false) else (aC4 p0 p1 0)
  partial_fixpoint
end
mutual
def xR (p0:aA) (x3:Int):Option Bool :=
  if (decide (x3<(p0.kids.length:Int)))=true then ((idx p0.kids x3)>>=fun y2=>(rD y2)>>=fun y3=>if (!y3)=true then (some false) else (xR p0 (IntKind.wrap .i64 (x3+1)))) else ((if (true&&((decide ((p0.sub.length:Int)=0))==false))=true then idx p0.sub 0 else some default)>>=fun y4=>(if (true&&((decide ((p0.sub.length:Int)=0))==false))=true then vR y4 else some default)>>=fun y5=>(some (if (decide ((p0.sub.length:Int)=0))=true then true else y5))>>=fun y6=>some y6)
  partial_fixpoint
def rD (p0:aA):Option Bool :=
  (aAb p0)>>=fun y1=>if (!y1)=true then (some false) else (xR p0 0)
  partial_fixpoint
def wS (y24:(List aA)) (x8:Int):Option Bool :=
  if (decide (x8<(y24.length:Int)))=true then ((idx y24 x8)>>=fun y25=>(rD y25)>>=fun y26=>if (!y26)=true then (some false) else (wS y24 (IntKind.wrap .i64 (x8+1)))) else (some true)
  partial_fixpoint
def yX (p0:aJ) (x5:Int):Option Bool :=
  if (decide (x5<(p0.from_.length:Int)))=true then ((idx p0.from_ x5)>>=fun y17=>(mZ y17.table)>>=fun y18=>(if (true&&((!y18)==false))=true then qF y17.as_ else some default)>>=fun y19=>(some (if (!y18)=true then true else (!y19)))>>=fun y20=>(some (if y20=true then true else (decide (1<(y17.on_.length:Int)))))>>=fun y21=>(if (true&&(y21==false))=true then some (if (decide (x5=0))=true then (decide (0<(y17.on_.length:Int))) else false) else some default)>>=fun y22=>(some (if y21=true then true else y22))>>=fun y23=>if y23=true then (some false) else (yX p0 (IntKind.wrap .i64 (x5+1)))) else ((R5 p0)>>=fun y24=>wS y24 0)
  partial_fixpoint
def xZ (p0:aJ) (x3:Int):Option Bool :=
  if (decide (x3<(p0.items.length:Int)))=true then ((idx p0.items x3)>>=fun y7=>(if (true&&(y7.star==true))=true then qF y7.qual else some default)>>=fun y8=>(if (true&&(y7.star==true))=true then some (if (!y8)=true then true else (!decide (y7.as_=[]))) else some default)>>=fun y9=>(if ((true&&(y7.star==true))&&(y9==false))=true then uV y7.expr (aA.mk 0 0 false (dV.mk 0 0 []) [] [] ([]:List aA) ([]:List aJ)) else some default)>>=fun y10=>(if (true&&(y7.star==true))=true then some (if y9=true then true else (!y10)) else some default)>>=fun y11=>(some (if y7.star=true then y11 else false))>>=fun y12=>(if (((true&&(y12==false))&&((!y7.star)==true))&&((!decide (y7.qual=[]))==false))=true then qF y7.as_ else some default)>>=fun y13=>(if ((true&&(y12==false))&&((!y7.star)==true))=true then some (if (!decide (y7.qual=[]))=true then true else (!y13)) else some default)>>=fun y14=>(if (true&&(y12==false))=true then some (if (!y7.star)=true then y14 else false) else some default)>>=fun y15=>(some (if y12=true then true else y15))>>=fun y16=>if y16=true then (some false) else (xZ p0 (IntKind.wrap .i64 (x3+1)))) else (yX p0 0)
  partial_fixpoint
def vR (p0:aJ):Option Bool :=
  (lZ (p0.items.length:Int) 1 12)>>=fun y1=>(if (true&&((!y1)==false))=true then lZ (p0.from_.length:Int) 1 3 else some default)>>=fun y2=>(some (if (!y1)=true then true else (!y2)))>>=fun y3=>(some (if y3=true then true else (decide (1<(p0.where_.length:Int)))))>>=fun y4=>(some (if y4=true then true else (decide (12<(p0.order.length:Int)))))>>=fun y5=>(some (if y5=true then true else (decide (p0.limit<(-1)))))>>=fun y6=>if y6=true then (some false) else (xZ p0 0)
  partial_fixpoint
end
def uQ (p0:Int) (p1:Int):Option Int :=
  if (decide (p1<p0))=true then (some p0) else (some p1)
mutual
def yE (p0:aA) (eP:Int) (x5:Int):Option Int :=
  if (decide (x5<(p0.sub.length:Int)))=true then ((idx p0.sub x5)>>=fun y5=>(xN y5)>>=fun y6=>(uQ eP y6)>>=fun y7=>yE p0 y7 (IntKind.wrap .i64 (x5+1))) else (some (IntKind.wrap .i64 (eP+1)))
  partial_fixpoint
def aAh (p0:aA) (x3:Int) (x4:Int):Option Int :=
  if (decide (x4<(p0.kids.length:Int)))=true then ((idx p0.kids x4)>>=fun y1=>(qH y1)>>=fun y2=>(uQ x3 y2)>>=fun y3=>aAh p0 y3 (IntKind.wrap .i64 (x4+1))) else (yE p0 x3 0)
  partial_fixpoint
def qH (p0:aA):Option Int :=
  aAh p0 0 0
  partial_fixpoint
def X7 (y1:(List aA)) (x3:Int) (x5:Int):Option Int :=
  if (decide (x5<(y1.length:Int)))=true then ((idx y1 x5)>>=fun y2=>(qH y2)>>=fun y3=>(uQ x3 y3)>>=fun y4=>X7 y1 y4 (IntKind.wrap .i64 (x5+1))) else (some x3)
  partial_fixpoint
def xN (p0:aJ):Option Int :=
  (R5 p0)>>=fun y1=>X7 y1 0 0
  partial_fixpoint
end
mutual
def yB (p0:aA) (dU:Int) (x5:Int):Option Int :=
  if (decide (x5<(p0.sub.length:Int)))=true then ((idx p0.sub x5)>>=fun y4=>(xP y4)>>=fun y5=>yB p0 (IntKind.wrap .i64 (dU+y5)) (IntKind.wrap .i64 (x5+1))) else (some dU)
  partial_fixpoint
def aC8 (p0:aA) (x3:Int) (x4:Int):Option Int :=
  if (decide (x4<(p0.kids.length:Int)))=true then ((idx p0.kids x4)>>=fun y1=>(qA y1)>>=fun y2=>aC8 p0 (IntKind.wrap .i64 (x3+y2)) (IntKind.wrap .i64 (x4+1))) else (yB p0 x3 0)
  partial_fixpoint
def qA (p0:aA):Option Int :=
  aC8 p0 1 0
  partial_fixpoint
def aCi (y1:(List aA)) (x3:Int) (x5:Int):Option Int :=
  if (decide (x5<(y1.length:Int)))=true then ((idx y1 x5)>>=fun y2=>(qA y2)>>=fun y3=>aCi y1 (IntKind.wrap .i64 (x3+y3)) (IntKind.wrap .i64 (x5+1))) else (some x3)
  partial_fixpoint
def xP (p0:aJ):Option Int :=
  (R5 p0)>>=fun y1=>aCi y1 0 0
  partial_fixpoint
end
def aAa (p0:aJ):Option Bool :=
  (vR p0)>>=fun y1=>(if (true&&(y1==true))=true then xN p0 else some default)>>=fun y2=>(some (if y1=true then (decide (y2≤24)) else false))>>=fun y3=>(if (true&&(y3==true))=true then xP p0 else some default)>>=fun y4=>(some (if y3=true then (decide (y4≤200)) else false))>>=fun y5=>some y5
def aEh (p0:aY) (p1:aJ):Option ((List aB)×Bool) :=
  (aCq p0)>>=fun y1=>(if (true&&((!y1)==false))=true then aAa p1 else some default)>>=fun y2=>(some (if (!y1)=true then true else (!y2)))>>=fun y3=>if y3=true then (some (([]:List aB),false)) else ((P5 p0 ([]:List aL) p1 ([]:List aB))>>=fun y4=>if (!y4.2)=true then (some (([]:List aB),false)) else (some (y4.1,true)))
def aBl (p0:bI) (p1:bI):Option Bool :=
  if (!decide (p0.name=p1.name))=true then (some false) else (if (!decide (p0.type=p1.type))=true then (some false) else (some true))
def Y1 (p0:(List bI)) (p1:(List bI)) (x5:Int):Option Bool :=
  if (decide (x5<(p0.length:Int)))=true then ((idx p0 x5)>>=fun y1=>(idx p1 x5)>>=fun y2=>(aBl y1 y2)>>=fun y3=>if (!y3)=true then (some false) else (Y1 p0 p1 (IntKind.wrap .i64 (x5+1)))) else (some true)
  partial_fixpoint
def aB7 (p0:(List bI)) (p1:(List bI)):Option Bool :=
  if (!decide ((p0.length:Int)=(p1.length:Int)))=true then (some false) else (Y1 p0 p1 0)
def aAm (p0:aP) (p1:aP):Option Bool :=
  if (!decide (p0.name=p1.name))=true then (some false) else ((aB7 p0.cols p1.cols)>>=fun y1=>if (!y1)=true then (some false) else (some true))
def aA2 (p0:(List aP)) (p1:(List aP)) (x5:Int):Option Bool :=
  if (decide (x5<(p0.length:Int)))=true then ((idx p0 x5)>>=fun y1=>(idx p1 x5)>>=fun y2=>(aAm y1 y2)>>=fun y3=>if (!y3)=true then (some false) else (aA2 p0 p1 (IntKind.wrap .i64 (x5+1)))) else (some true)
  partial_fixpoint
def U7 (p0:(List aP)) (p1:(List aP)):Option Bool :=
  if (!decide ((p0.length:Int)=(p1.length:Int)))=true then (some false) else (aA2 p0 p1 0)
def aCs (p0:aY) (p1:aY):Option Bool :=
  (U7 p0.tables p1.tables)>>=fun y1=>if (!y1)=true then (some false) else (some true)
def Z9 (p0:dV) (p1:dV):Option Bool :=
  if (!decide (p0.kind=p1.kind))=true then (some false) else (if (!decide (p0.num=p1.num))=true then (some false) else (if (!decide (p0.text=p1.text))=true then (some false) else (some true)))
mutual
def xY (p0:aV) (p1:aV):Option Bool :=
  if (!decide (p0.table=p1.table))=true then (some false) else (if (!decide (p0.as_=p1.as_))=true then (some false) else ((tV p0.on_ p1.on_)>>=fun y1=>if (!y1)=true then (some false) else (some true)))
  partial_fixpoint
def aDe (p0:(List aV)) (p1:(List aV)) (x5:Int):Option Bool :=
  if (decide (x5<(p0.length:Int)))=true then ((idx p0 x5)>>=fun y1=>(idx p1 x5)>>=fun y2=>(xY y1 y2)>>=fun y3=>if (!y3)=true then (some false) else (aDe p0 p1 (IntKind.wrap .i64 (x5+1)))) else (some true)
  partial_fixpoint
def aEw (p0:(List aV)) (p1:(List aV)):Option Bool :=
  if (!decide ((p0.length:Int)=(p1.length:Int)))=true then (some false) else (aDe p0 p1 0)
  partial_fixpoint
def E5 (p0:bC) (p1:bC):Option Bool :=
  (qR p0.expr p1.expr)>>=fun y1=>if (!y1)=true then (some false) else (if (!(p0.desc==p1.desc))=true then (some false) else (some true))
  partial_fixpoint
def aCt (p0:(List bC)) (p1:(List bC)) (x5:Int):Option Bool :=
  if (decide (x5<(p0.length:Int)))=true then ((idx p0 x5)>>=fun y1=>(idx p1 x5)>>=fun y2=>(E5 y1 y2)>>=fun y3=>if (!y3)=true then (some false) else (aCt p0 p1 (IntKind.wrap .i64 (x5+1)))) else (some true)
  partial_fixpoint
def aF7 (p0:(List bC)) (p1:(List bC)):Option Bool :=
  if (!decide ((p0.length:Int)=(p1.length:Int)))=true then (some false) else (aCt p0 p1 0)
  partial_fixpoint
def Q0 (p0:bA) (p1:bA):Option Bool :=
  if (!(p0.star==p1.star))=true then (some false) else (if (!decide (p0.qual=p1.qual))=true then (some false) else ((qR p0.expr p1.expr)>>=fun y1=>if (!y1)=true then (some false) else (if (!decide (p0.as_=p1.as_))=true then (some false) else (some true))))
  partial_fixpoint
def aEj (p0:(List bA)) (p1:(List bA)) (x5:Int):Option Bool :=
  if (decide (x5<(p0.length:Int)))=true then ((idx p0 x5)>>=fun y1=>(idx p1 x5)>>=fun y2=>(Q0 y1 y2)>>=fun y3=>if (!y3)=true then (some false) else (aEj p0 p1 (IntKind.wrap .i64 (x5+1)))) else (some true)
  partial_fixpoint
def aDv (p0:(List bA)) (p1:(List bA)):Option Bool :=
  if (!decide ((p0.length:Int)=(p1.length:Int)))=true then (some false) else (aEj p0 p1 0)
  partial_fixpoint
def aF2 (p0:(List aJ)) (p1:(List aJ)) (x5:Int):Option Bool :=
  if (decide (x5<(p0.length:Int)))=true then ((idx p0 x5)>>=fun y1=>(idx p1 x5)>>=fun y2=>(zA y1 y2)>>=fun y3=>if (!y3)=true then (some false) else (aF2 p0 p1 (IntKind.wrap .i64 (x5+1)))) else (some true)
  partial_fixpoint
def aDs (p0:(List aJ)) (p1:(List aJ)):Option Bool :=
  if (!decide ((p0.length:Int)=(p1.length:Int)))=true then (some false) else (aF2 p0 p1 0)
  partial_fixpoint
def qR (p0:aA) (p1:aA):Option Bool :=
  if (!decide (p0.kind=p1.kind))=true then (some false) else (if (!decide (p0.op=p1.op))=true then (some false) else (if (!(p0.not_==p1.not_))=true then (some false) else ((Z9 p0.value p1.value)>>=fun y1=>if (!y1)=true then (some false) else (if (!decide (p0.qual=p1.qual))=true then (some false) else (if (!decide (p0.name=p1.name))=true then (some false) else ((tV p0.kids p1.kids)>>=fun y2=>if (!y2)=true then (some false) else ((aDs p0.sub p1.sub)>>=fun y3=>if (!y3)=true then (some false) else (some true))))))))
  partial_fixpoint
def D9 (p0:(List aA)) (p1:(List aA)) (x5:Int):Option Bool :=
  if (decide (x5<(p0.length:Int)))=true then ((idx p0 x5)>>=fun y1=>(idx p1 x5)>>=fun y2=>(qR y1 y2)>>=fun y3=>if (!y3)=true then (some false) else (D9 p0 p1 (IntKind.wrap .i64 (x5+1)))) else (some true)
  partial_fixpoint
def tV (p0:(List aA)) (p1:(List aA)):Option Bool :=
  if (!decide ((p0.length:Int)=(p1.length:Int)))=true then (some false) else (D9 p0 p1 0)
  partial_fixpoint
def zA (p0:aJ) (p1:aJ):Option Bool :=
  if (!(p0.distinct==p1.distinct))=true then (some false) else ((aDv p0.items p1.items)>>=fun y1=>if (!y1)=true then (some false) else ((aEw p0.from_ p1.from_)>>=fun y2=>if (!y2)=true then (some false) else ((tV p0.where_ p1.where_)>>=fun y3=>if (!y3)=true then (some false) else ((aF7 p0.order p1.order)>>=fun y4=>if (!y4)=true then (some false) else (if (!decide (p0.limit=p1.limit))=true then (some false) else (some true))))))
  partial_fixpoint
end
def aCn (p0:aB) (p1:aB):Option Bool :=
  if (!decide (p0.qual=p1.qual))=true then (some false) else (if (!decide (p0.name=p1.name))=true then (some false) else (if (!decide (p0.count=p1.count))=true then (some false) else (if (!decide (p0.up=p1.up))=true then (some false) else (if (!decide (p0.at_=p1.at_))=true then (some false) else (some true)))))
def U6 (p0:(List aB)) (p1:(List aB)) (x5:Int):Option Bool :=
  if (decide (x5<(p0.length:Int)))=true then ((idx p0 x5)>>=fun y1=>(idx p1 x5)>>=fun y2=>(aCn y1 y2)>>=fun y3=>if (!y3)=true then (some false) else (U6 p0 p1 (IntKind.wrap .i64 (x5+1)))) else (some true)
  partial_fixpoint
def C9 (p0:(List aB)) (p1:(List aB)):Option Bool :=
  if (!decide ((p0.length:Int)=(p1.length:Int)))=true then (some false) else (U6 p0 p1 0)
def zR (x0:Int) (x3:(List UInt8)):Option (List UInt8) :=
  if (decide (0<x0))=true then ((ofBytes ([(IntKind.wrap .u8 (IntKind.wrap .i64 (48+(Int.tmod x0 10))))]:List Int))>>=fun y1=>(aA5 y1 x3)>>=fun y2=>zR (IntKind.wrap .i64 (Int.tdiv x0 10)) y2) else ((aA5 [109] x3)>>=fun y3=>some y3)
  partial_fixpoint
def jL (p0:Int):Option (List UInt8) :=
  if (decide (p0≤0))=true then (some [109,48]) else (zR p0 [])
def wF (p0:(List aB)) (x1:Int) (x5:Int):Option Int :=
  if (decide (x5<(p0.length:Int)))=true then ((idx p0 x5)>>=fun y1=>(jL x1)>>=fun y2=>if (!decide (y1.qual=y2))=true then (some (-1)) else ((idx p0 x5)>>=fun y3=>(jL (IntKind.wrap .i64 (x1+1)))>>=fun y4=>if (!decide (y3.name=y4))=true then (some (-1)) else ((idx p0 x5)>>=fun y5=>if (!decide (y5.count=(IntKind.wrap .i64 ((IntKind.wrap .i64 (x1+1))+1))))=true then (some (-1)) else ((idx p0 x5)>>=fun y6=>if (!decide (y6.up=(IntKind.wrap .i64 ((IntKind.wrap .i64 ((IntKind.wrap .i64 (x1+1))+1))+1))))=true then (some (-1)) else ((idx p0 x5)>>=fun y7=>if (!decide (y7.at_=(IntKind.wrap .i64 ((IntKind.wrap .i64 ((IntKind.wrap .i64 ((IntKind.wrap .i64 (x1+1))+1))+1))+1))))=true then (some (-1)) else (wF p0 (IntKind.wrap .i64 ((IntKind.wrap .i64 ((IntKind.wrap .i64 ((IntKind.wrap .i64 ((IntKind.wrap .i64 (x1+1))+1))+1))+1))+1)) (IntKind.wrap .i64 (x5+1)))))))) else (some x1)
  partial_fixpoint
def aAn (p0:(List aB)) (p1:Int):Option Int :=
  wF p0 p1 0
def wW (x1:Int) (x5:Int) (aQ:(List bI)):Option (Int×(List bI)) :=
  if (decide (x5<(aQ.length:Int)))=true then ((jL x1)>>=fun y1=>(idx aQ x5)>>=fun y2=>wW (IntKind.wrap .i64 ((IntKind.wrap .i64 (x1+1))+1)) (IntKind.wrap .i64 (x5+1)) (aQ.set (x5).toNat (bI.mk y1 (IntKind.wrap .i64 (x1+1))))) else (some (x1,aQ))
  partial_fixpoint
def aE0 (p0:(List bI)) (p1:Int):Option (Int×(List bI)) :=
  wW p1 0 p0
def xI (x1:Int) (x5:Int) (aQ:(List aP)):Option (Int×(List aP)) :=
  if (decide (x5<(aQ.length:Int)))=true then ((jL x1)>>=fun y1=>(idx aQ x5)>>=fun y2=>(aE0 y2.cols (IntKind.wrap .i64 (x1+1)))>>=fun y3=>xI y3.1 (IntKind.wrap .i64 (x5+1)) (aQ.set (x5).toNat (aP.mk y1 y3.2))) else (some (x1,aQ))
  partial_fixpoint
def aDy (p0:(List aP)) (p1:Int):Option (Int×(List aP)) :=
  xI p1 0 p0
def aE3 (p0:aY) (p1:Int):Option (Int×(List aP)) :=
  (aDy p0.tables p1)>>=fun y1=>some (y1.1,y1.2)
mutual
def xJ (x1:Int) (x5:Int) (aQ:(List aV)):Option (Int×(List aV)) :=
  if (decide (x5<(aQ.length:Int)))=true then ((jL x1)>>=fun y1=>(idx aQ x5)>>=fun y2=>(jL (IntKind.wrap .i64 (x1+1)))>>=fun y3=>(uU y2.on_ (IntKind.wrap .i64 ((IntKind.wrap .i64 (x1+1))+1)))>>=fun y4=>xJ y4.1 (IntKind.wrap .i64 (x5+1)) (aQ.set (x5).toNat (aV.mk y1 y3 y4.2))) else (some (x1,aQ))
  partial_fixpoint
def aAl (p0:(List aV)) (p1:Int):Option (Int×(List aV)) :=
  xJ p1 0 p0
  partial_fixpoint
def zK (x1:Int) (x5:Int) (aQ:(List bC)):Option (Int×(List bC)) :=
  if (decide (x5<(aQ.length:Int)))=true then ((idx aQ x5)>>=fun y1=>(jL (IntKind.wrap .i64 ((IntKind.wrap .i64 ((IntKind.wrap .i64 ((IntKind.wrap .i64 ((IntKind.wrap .i64 (x1+1))+1))+1))+1))+1)))>>=fun y2=>(jL (IntKind.wrap .i64 ((IntKind.wrap .i64 ((IntKind.wrap .i64 ((IntKind.wrap .i64 ((IntKind.wrap .i64 ((IntKind.wrap .i64 (x1+1))+1))+1))+1))+1))+1)))>>=fun y3=>(jL (IntKind.wrap .i64 ((IntKind.wrap .i64 ((IntKind.wrap .i64 ((IntKind.wrap .i64 ((IntKind.wrap .i64 ((IntKind.wrap .i64 ((IntKind.wrap .i64 (x1+1))+1))+1))+1))+1))+1))+1)))>>=fun y4=>(uU y1.expr.kids (IntKind.wrap .i64 ((IntKind.wrap .i64 ((IntKind.wrap .i64 ((IntKind.wrap .i64 ((IntKind.wrap .i64 ((IntKind.wrap .i64 ((IntKind.wrap .i64 ((IntKind.wrap .i64 (x1+1))+1))+1))+1))+1))+1))+1))+1)))>>=fun y5=>(J2 y1.expr.sub y5.1)>>=fun y6=>zK (IntKind.wrap .i64 (y6.1+1)) (IntKind.wrap .i64 (x5+1)) (aQ.set (x5).toNat (bC.mk (aA.mk x1 (IntKind.wrap .i64 (x1+1)) (decide ((Int.tmod (IntKind.wrap .i64 ((IntKind.wrap .i64 (x1+1))+1)) 3)=0)) (dV.mk (IntKind.wrap .i64 ((IntKind.wrap .i64 ((IntKind.wrap .i64 (x1+1))+1))+1)) (IntKind.wrap .i64 ((IntKind.wrap .i64 ((IntKind.wrap .i64 ((IntKind.wrap .i64 (x1+1))+1))+1))+1)) y2) y3 y4 y5.2 y6.2) (decide ((Int.tmod y6.1 3)=0))))) else (some (x1,aQ))
  partial_fixpoint
def aC3 (p0:(List bC)) (p1:Int):Option (Int×(List bC)) :=
  zK p1 0 p0
  partial_fixpoint
def D6 (x1:Int) (x5:Int) (aQ:(List bA)):Option (Int×(List bA)) :=
  if (decide (x5<(aQ.length:Int)))=true then ((idx aQ x5)>>=fun y1=>(jL (IntKind.wrap .i64 (x1+1)))>>=fun y2=>(jL (IntKind.wrap .i64 ((IntKind.wrap .i64 ((IntKind.wrap .i64 ((IntKind.wrap .i64 ((IntKind.wrap .i64 ((IntKind.wrap .i64 ((IntKind.wrap .i64 (x1+1))+1))+1))+1))+1))+1))+1)))>>=fun y3=>(jL (IntKind.wrap .i64 ((IntKind.wrap .i64 ((IntKind.wrap .i64 ((IntKind.wrap .i64 ((IntKind.wrap .i64 ((IntKind.wrap .i64 ((IntKind.wrap .i64 ((IntKind.wrap .i64 (x1+1))+1))+1))+1))+1))+1))+1))+1)))>>=fun y4=>(jL (IntKind.wrap .i64 ((IntKind.wrap .i64 ((IntKind.wrap .i64 ((IntKind.wrap .i64 ((IntKind.wrap .i64 ((IntKind.wrap .i64 ((IntKind.wrap .i64 ((IntKind.wrap .i64 ((IntKind.wrap .i64 (x1+1))+1))+1))+1))+1))+1))+1))+1))+1)))>>=fun y5=>(uU y1.expr.kids (IntKind.wrap .i64 ((IntKind.wrap .i64 ((IntKind.wrap .i64 ((IntKind.wrap .i64 ((IntKind.wrap .i64 ((IntKind.wrap .i64 ((IntKind.wrap .i64 ((IntKind.wrap .i64 ((IntKind.wrap .i64 ((IntKind.wrap .i64 (x1+1))+1))+1))+1))+1))+1))+1))+1))+1))+1)))>>=fun y6=>(J2 y1.expr.sub y6.1)>>=fun y7=>(jL y7.1)>>=fun y8=>D6 (IntKind.wrap .i64 (y7.1+1)) (IntKind.wrap .i64 (x5+1)) (aQ.set (x5).toNat (bA.mk (decide ((Int.tmod x1 3)=0)) y2 (aA.mk (IntKind.wrap .i64 ((IntKind.wrap .i64 (x1+1))+1)) (IntKind.wrap .i64 ((IntKind.wrap .i64 ((IntKind.wrap .i64 (x1+1))+1))+1)) (decide ((Int.tmod (IntKind.wrap .i64 ((IntKind.wrap .i64 ((IntKind.wrap .i64 ((IntKind.wrap .i64 (x1+1))+1))+1))+1)) 3)=0)) (dV.mk (IntKind.wrap .i64 ((IntKind.wrap .i64 ((IntKind.wrap .i64 ((IntKind.wrap .i64 ((IntKind.wrap .i64 (x1+1))+1))+1))+1))+1)) (IntKind.wrap .i64 ((IntKind.wrap .i64 ((IntKind.wrap .i64 ((IntKind.wrap .i64 ((IntKind.wrap .i64 ((IntKind.wrap .i64 (x1+1))+1))+1))+1))+1))+1)) y3) y4 y5 y6.2 y7.2) y8))) else (some (x1,aQ))
  partial_fixpoint
def V7 (p0:(List bA)) (p1:Int):Option (Int×(List bA)) :=
  D6 p1 0 p0
  partial_fixpoint
def D5 (x1:Int) (x5:Int) (aQ:(List aJ)):Option (Int×(List aJ)) :=
  if (decide (x5<(aQ.length:Int)))=true then ((idx aQ x5)>>=fun y1=>(V7 y1.items (IntKind.wrap .i64 (x1+1)))>>=fun y2=>(aAl y1.from_ y2.1)>>=fun y3=>(uU y1.where_ y3.1)>>=fun y4=>(aC3 y1.order y4.1)>>=fun y5=>D5 (IntKind.wrap .i64 (y5.1+1)) (IntKind.wrap .i64 (x5+1)) (aQ.set (x5).toNat (aJ.mk (decide ((Int.tmod x1 3)=0)) y2.2 y3.2 y4.2 y5.2 y5.1))) else (some (x1,aQ))
  partial_fixpoint
def J2 (p0:(List aJ)) (p1:Int):Option (Int×(List aJ)) :=
  D5 p1 0 p0
  partial_fixpoint
def yA (x1:Int) (x5:Int) (aQ:(List aA)):Option (Int×(List aA)) :=
  if (decide (x5<(aQ.length:Int)))=true then ((idx aQ x5)>>=fun y1=>(jL (IntKind.wrap .i64 ((IntKind.wrap .i64 ((IntKind.wrap .i64 ((IntKind.wrap .i64 ((IntKind.wrap .i64 (x1+1))+1))+1))+1))+1)))>>=fun y2=>(jL (IntKind.wrap .i64 ((IntKind.wrap .i64 ((IntKind.wrap .i64 ((IntKind.wrap .i64 ((IntKind.wrap .i64 ((IntKind.wrap .i64 (x1+1))+1))+1))+1))+1))+1)))>>=fun y3=>(jL (IntKind.wrap .i64 ((IntKind.wrap .i64 ((IntKind.wrap .i64 ((IntKind.wrap .i64 ((IntKind.wrap .i64 ((IntKind.wrap .i64 ((IntKind.wrap .i64 (x1+1))+1))+1))+1))+1))+1))+1)))>>=fun y4=>(uU y1.kids (IntKind.wrap .i64 ((IntKind.wrap .i64 ((IntKind.wrap .i64 ((IntKind.wrap .i64 ((IntKind.wrap .i64 ((IntKind.wrap .i64 ((IntKind.wrap .i64 ((IntKind.wrap .i64 (x1+1))+1))+1))+1))+1))+1))+1))+1)))>>=fun y5=>(J2 y1.sub y5.1)>>=fun y6=>yA y6.1 (IntKind.wrap .i64 (x5+1)) (aQ.set (x5).toNat (aA.mk x1 (IntKind.wrap .i64 (x1+1)) (decide ((Int.tmod (IntKind.wrap .i64 ((IntKind.wrap .i64 (x1+1))+1)) 3)=0)) (dV.mk (IntKind.wrap .i64 ((IntKind.wrap .i64 ((IntKind.wrap .i64 (x1+1))+1))+1)) (IntKind.wrap .i64 ((IntKind.wrap .i64 ((IntKind.wrap .i64 ((IntKind.wrap .i64 (x1+1))+1))+1))+1)) y2) y3 y4 y5.2 y6.2))) else (some (x1,aQ))
  partial_fixpoint
def uU (p0:(List aA)) (p1:Int):Option (Int×(List aA)) :=
  yA p1 0 p0
  partial_fixpoint
end
def aDq (p0:aJ) (p1:Int):Option (Int×(List bA)×(List aV)×(List aA)×(List bC)) :=
  (V7 p0.items p1)>>=fun y1=>(aAl p0.from_ y1.1)>>=fun y2=>(uU p0.where_ y2.1)>>=fun y3=>(aC3 p0.order y3.1)>>=fun y4=>some (y4.1,y1.2,y2.2,y3.2,y4.2)
def wH (x1:Int) (x5:Int) (aQ:(List aB)):Option (Int×(List aB)) :=
  if (decide (x5<(aQ.length:Int)))=true then ((jL x1)>>=fun y1=>(idx aQ x5)>>=fun y2=>(jL (IntKind.wrap .i64 (x1+1)))>>=fun y3=>wH (IntKind.wrap .i64 ((IntKind.wrap .i64 ((IntKind.wrap .i64 ((IntKind.wrap .i64 ((IntKind.wrap .i64 (x1+1))+1))+1))+1))+1)) (IntKind.wrap .i64 (x5+1)) (aQ.set (x5).toNat (aB.mk y1 y3 (IntKind.wrap .i64 ((IntKind.wrap .i64 (x1+1))+1)) (IntKind.wrap .i64 ((IntKind.wrap .i64 ((IntKind.wrap .i64 (x1+1))+1))+1)) (IntKind.wrap .i64 ((IntKind.wrap .i64 ((IntKind.wrap .i64 ((IntKind.wrap .i64 (x1+1))+1))+1))+1))))) else (some (x1,aQ))
  partial_fixpoint
def aDm (p0:(List aB)) (p1:Int):Option (Int×(List aB)) :=
  wH p1 0 p0
def aAd (p0:bI) (p1:Int):Option Int :=
  if (decide ((IntKind.wrap .i64 (p1 - (p0.name.length:Int)))<0))=true then (some (-1)) else (some (IntKind.wrap .i64 (p1 - (p0.name.length:Int))))
def aB3 (p0:(List bI)) (x1:Int) (x5:Int):Option Int :=
  if (decide (x5<(p0.length:Int)))=true then ((idx p0 x5)>>=fun y1=>(aAd y1 x1)>>=fun y2=>if (decide (y2<0))=true then (some (-1)) else (aB3 p0 y2 (IntKind.wrap .i64 (x5+1)))) else (some x1)
  partial_fixpoint
def aCj (p0:(List bI)) (p1:Int):Option Int :=
  if (decide ((IntKind.wrap .i64 (p1 - (p0.length:Int)))<0))=true then (some (-1)) else (aB3 p0 (IntKind.wrap .i64 (p1 - (p0.length:Int))) 0)
def U4 (p0:aP) (p1:Int):Option Int :=
  if (decide ((IntKind.wrap .i64 (p1 - (p0.name.length:Int)))<0))=true then (some (-1)) else ((aCj p0.cols (IntKind.wrap .i64 (p1 - (p0.name.length:Int))))>>=fun y1=>if (decide (y1<0))=true then (some (-1)) else (some y1))
def aBs (p0:(List aP)) (x1:Int) (x5:Int):Option Int :=
  if (decide (x5<(p0.length:Int)))=true then ((idx p0 x5)>>=fun y1=>(U4 y1 x1)>>=fun y2=>if (decide (y2<0))=true then (some (-1)) else (aBs p0 y2 (IntKind.wrap .i64 (x5+1)))) else (some x1)
  partial_fixpoint
def U1 (p0:(List aP)) (p1:Int):Option Int :=
  if (decide ((IntKind.wrap .i64 (p1 - (p0.length:Int)))<0))=true then (some (-1)) else (aBs p0 (IntKind.wrap .i64 (p1 - (p0.length:Int))) 0)
def aFb (p0:aY) (p1:Int):Option Int :=
  (U1 p0.tables p1)>>=fun y1=>if (decide (y1<0))=true then (some (-1)) else (some y1)
def aAi (p0:dV) (p1:Int):Option Int :=
  if (decide ((IntKind.wrap .i64 (p1 - (p0.text.length:Int)))<0))=true then (some (-1)) else (some (IntKind.wrap .i64 (p1 - (p0.text.length:Int))))
mutual
def yL (p0:aV) (p1:Int):Option Int :=
  if (decide ((IntKind.wrap .i64 (p1 - (p0.table.length:Int)))<0))=true then (some (-1)) else (if (decide ((IntKind.wrap .i64 ((IntKind.wrap .i64 (p1 - (p0.table.length:Int))) - (p0.as_.length:Int)))<0))=true then (some (-1)) else ((sQ p0.on_ (IntKind.wrap .i64 ((IntKind.wrap .i64 (p1 - (p0.table.length:Int))) - (p0.as_.length:Int))))>>=fun y1=>if (decide (y1<0))=true then (some (-1)) else (some y1)))
  partial_fixpoint
def aEn (p0:(List aV)) (x1:Int) (x5:Int):Option Int :=
  if (decide (x5<(p0.length:Int)))=true then ((idx p0 x5)>>=fun y1=>(yL y1 x1)>>=fun y2=>if (decide (y2<0))=true then (some (-1)) else (aEn p0 y2 (IntKind.wrap .i64 (x5+1)))) else (some x1)
  partial_fixpoint
def aD2 (p0:(List aV)) (p1:Int):Option Int :=
  if (decide ((IntKind.wrap .i64 (p1 - (p0.length:Int)))<0))=true then (some (-1)) else (aEn p0 (IntKind.wrap .i64 (p1 - (p0.length:Int))) 0)
  partial_fixpoint
def F7 (p0:bC) (p1:Int):Option Int :=
  (qK p0.expr p1)>>=fun y1=>if (decide (y1<0))=true then (some (-1)) else (some y1)
  partial_fixpoint
def aF8 (p0:(List bC)) (x1:Int) (x5:Int):Option Int :=
  if (decide (x5<(p0.length:Int)))=true then ((idx p0 x5)>>=fun y1=>(F7 y1 x1)>>=fun y2=>if (decide (y2<0))=true then (some (-1)) else (aF8 p0 y2 (IntKind.wrap .i64 (x5+1)))) else (some x1)
  partial_fixpoint
def aD7 (p0:(List bC)) (p1:Int):Option Int :=
  if (decide ((IntKind.wrap .i64 (p1 - (p0.length:Int)))<0))=true then (some (-1)) else (aF8 p0 (IntKind.wrap .i64 (p1 - (p0.length:Int))) 0)
  partial_fixpoint
def Q7 (p0:bA) (p1:Int):Option Int :=
  if (decide ((IntKind.wrap .i64 (p1 - (p0.qual.length:Int)))<0))=true then (some (-1)) else ((qK p0.expr (IntKind.wrap .i64 (p1 - (p0.qual.length:Int))))>>=fun y1=>if (decide (y1<0))=true then (some (-1)) else (if (decide ((IntKind.wrap .i64 (y1 - (p0.as_.length:Int)))<0))=true then (some (-1)) else (some (IntKind.wrap .i64 (y1 - (p0.as_.length:Int))))))
  partial_fixpoint
def aEr (p0:(List bA)) (x1:Int) (x5:Int):Option Int :=
  if (decide (x5<(p0.length:Int)))=true then ((idx p0 x5)>>=fun y1=>(Q7 y1 x1)>>=fun y2=>if (decide (y2<0))=true then (some (-1)) else (aEr p0 y2 (IntKind.wrap .i64 (x5+1)))) else (some x1)
  partial_fixpoint
def aEl (p0:(List bA)) (p1:Int):Option Int :=
  if (decide ((IntKind.wrap .i64 (p1 - (p0.length:Int)))<0))=true then (some (-1)) else (aEr p0 (IntKind.wrap .i64 (p1 - (p0.length:Int))) 0)
  partial_fixpoint
def aFf (p0:(List aJ)) (x1:Int) (x5:Int):Option Int :=
  if (decide (x5<(p0.length:Int)))=true then ((idx p0 x5)>>=fun y1=>(yZ y1 x1)>>=fun y2=>if (decide (y2<0))=true then (some (-1)) else (aFf p0 y2 (IntKind.wrap .i64 (x5+1)))) else (some x1)
  partial_fixpoint
def aD4 (p0:(List aJ)) (p1:Int):Option Int :=
  if (decide ((IntKind.wrap .i64 (p1 - (p0.length:Int)))<0))=true then (some (-1)) else (aFf p0 (IntKind.wrap .i64 (p1 - (p0.length:Int))) 0)
  partial_fixpoint
def qK (p0:aA) (p1:Int):Option Int :=
  (aAi p0.value p1)>>=fun y1=>if (decide (y1<0))=true then (some (-1)) else (if (decide ((IntKind.wrap .i64 (y1 - (p0.qual.length:Int)))<0))=true then (some (-1)) else (if (decide ((IntKind.wrap .i64 ((IntKind.wrap .i64 (y1 - (p0.qual.length:Int))) - (p0.name.length:Int)))<0))=true then (some (-1)) else ((sQ p0.kids (IntKind.wrap .i64 ((IntKind.wrap .i64 (y1 - (p0.qual.length:Int))) - (p0.name.length:Int))))>>=fun y2=>if (decide (y2<0))=true then (some (-1)) else ((aD4 p0.sub y2)>>=fun y3=>if (decide (y3<0))=true then (some (-1)) else (some y3)))))
  partial_fixpoint
def L6 (p0:(List aA)) (x1:Int) (x5:Int):Option Int :=
  if (decide (x5<(p0.length:Int)))=true then ((idx p0 x5)>>=fun y1=>(qK y1 x1)>>=fun y2=>if (decide (y2<0))=true then (some (-1)) else (L6 p0 y2 (IntKind.wrap .i64 (x5+1)))) else (some x1)
  partial_fixpoint
def sQ (p0:(List aA)) (p1:Int):Option Int :=
  if (decide ((IntKind.wrap .i64 (p1 - (p0.length:Int)))<0))=true then (some (-1)) else (L6 p0 (IntKind.wrap .i64 (p1 - (p0.length:Int))) 0)
  partial_fixpoint
def yZ (p0:aJ) (p1:Int):Option Int :=
  (aEl p0.items p1)>>=fun y1=>if (decide (y1<0))=true then (some (-1)) else ((aD2 p0.from_ y1)>>=fun y2=>if (decide (y2<0))=true then (some (-1)) else ((sQ p0.where_ y2)>>=fun y3=>if (decide (y3<0))=true then (some (-1)) else ((aD7 p0.order y3)>>=fun y4=>if (decide (y4<0))=true then (some (-1)) else (some y4))))
  partial_fixpoint
end
def wM (p0:bI):Option bI :=
  some p0
def Y6 (p0:(List bI)) (x4:Int) (aX:(List bI)):Option (List bI) :=
  if (decide (x4<(p0.length:Int)))=true then ((idx p0 x4)>>=fun y2=>(wM y2)>>=fun y3=>(idx aX x4)>>=fun y4=>(pO aX x4 y3)>>=fun y5=>Y6 p0 (IntKind.wrap .i64 (x4+1)) y5) else (some aX)
  partial_fixpoint
def Z5 (p0:(List bI)):Option (List bI) :=
  (mkG 24 (p0.length:Int) ((bI.mk [] 0):bI))>>=fun y1=>Y6 p0 0 y1
def X6 (p0:aP):Option aP :=
  (Z5 p0.cols)>>=fun y1=>some (aP.mk p0.name y1)
def Z7 (p0:(List aP)) (x4:Int) (aX:(List aP)):Option (List aP) :=
  if (decide (x4<(p0.length:Int)))=true then ((idx p0 x4)>>=fun y2=>(X6 y2)>>=fun y3=>(idx aX x4)>>=fun y4=>(pO aX x4 y3)>>=fun y5=>Z7 p0 (IntKind.wrap .i64 (x4+1)) y5) else (some aX)
  partial_fixpoint
def U3 (p0:(List aP)):Option (List aP) :=
  (mkG 40 (p0.length:Int) ((aP.mk [] ([]:List bI)):aP))>>=fun y1=>Z7 p0 0 y1
def aAo (p0:aY):Option aY :=
  (U3 p0.tables)>>=fun y1=>some (aY.mk y1)
def Q8 (p0:(List bI)) (x4:Int) (bH:(List bI)):Option (List bI) :=
  if (decide (x4<(p0.length:Int)))=true then ((idx p0 x4)>>=fun y2=>(wM y2)>>=fun y3=>(idx bH x4)>>=fun y4=>Q8 p0 (IntKind.wrap .i64 (x4+1)) (bH.set (x4).toNat y3)) else (some bH)
  partial_fixpoint
def aDw (p0:(List bI)):Option (List bI) :=
  (mkG 24 (p0.length:Int) ((bI.mk [] 0):bI))>>=fun y1=>Q8 p0 0 y1
def aD5 (p0:aP):Option aP :=
  (aDw p0.cols)>>=fun y1=>some (aP.mk p0.name y1)
def G6 (p0:(List aP)) (x4:Int) (bH:(List aP)):Option (List aP) :=
  if (decide (x4<(p0.length:Int)))=true then ((idx p0 x4)>>=fun y2=>(aD5 y2)>>=fun y3=>(idx bH x4)>>=fun y4=>G6 p0 (IntKind.wrap .i64 (x4+1)) (bH.set (x4).toNat y3)) else (some bH)
  partial_fixpoint
def aFg (p0:(List aP)):Option (List aP) :=
  (mkG 40 (p0.length:Int) ((aP.mk [] ([]:List bI)):aP))>>=fun y1=>G6 p0 0 y1
def aBr (p0:aY):Option aY :=
  (aFg p0.tables)>>=fun y1=>some (aY.mk y1)
def wO (p0:dV):Option dV :=
  some p0
mutual
def yM (p0:aV):Option aV :=
  (uF p0.on_)>>=fun y1=>some (aV.mk p0.table p0.as_ y1)
  partial_fixpoint
def aE4 (p0:(List aV)) (x4:Int) (aX:(List aV)):Option (List aV) :=
  if (decide (x4<(p0.length:Int)))=true then ((idx p0 x4)>>=fun y2=>(yM y2)>>=fun y3=>(idx aX x4)>>=fun y4=>(pO aX x4 y3)>>=fun y5=>aE4 p0 (IntKind.wrap .i64 (x4+1)) y5) else (some aX)
  partial_fixpoint
def aFh (p0:(List aV)):Option (List aV) :=
  (mkG 56 (p0.length:Int) ((aV.mk [] [] ([]:List aA)):aV))>>=fun y1=>aE4 p0 0 y1
  partial_fixpoint
def G8 (p0:bC):Option bC :=
  (rF p0.expr)>>=fun y1=>some (bC.mk y1 p0.desc)
  partial_fixpoint
def aCv (p0:(List bC)) (x4:Int) (aX:(List bC)):Option (List bC) :=
  if (decide (x4<(p0.length:Int)))=true then ((idx p0 x4)>>=fun y2=>(G8 y2)>>=fun y3=>(idx aX x4)>>=fun y4=>(pO aX x4 y3)>>=fun y5=>aCv p0 (IntKind.wrap .i64 (x4+1)) y5) else (some aX)
  partial_fixpoint
def aDt (p0:(List bC)):Option (List bC) :=
  (mkG 144 (p0.length:Int) ((bC.mk (aA.mk 0 0 false (dV.mk 0 0 []) [] [] ([]:List aA) ([]:List aJ)) false):bC))>>=fun y1=>aCv p0 0 y1
  partial_fixpoint
def H5 (p0:bA):Option bA :=
  (rF p0.expr)>>=fun y1=>some (bA.mk p0.star p0.qual y1 p0.as_)
  partial_fixpoint
def aDp (p0:(List bA)) (x4:Int) (aX:(List bA)):Option (List bA) :=
  if (decide (x4<(p0.length:Int)))=true then ((idx p0 x4)>>=fun y2=>(H5 y2)>>=fun y3=>(idx aX x4)>>=fun y4=>(pO aX x4 y3)>>=fun y5=>aDp p0 (IntKind.wrap .i64 (x4+1)) y5) else (some aX)
  partial_fixpoint
def aDf (p0:(List bA)):Option (List bA) :=
  (mkG 176 (p0.length:Int) ((bA.mk false [] (aA.mk 0 0 false (dV.mk 0 0 []) [] [] ([]:List aA) ([]:List aJ)) []):bA))>>=fun y1=>aDp p0 0 y1
  partial_fixpoint
def aE5 (p0:(List aJ)) (x4:Int) (aX:(List aJ)):Option (List aJ) :=
  if (decide (x4<(p0.length:Int)))=true then ((idx p0 x4)>>=fun y2=>(xK y2)>>=fun y3=>(idx aX x4)>>=fun y4=>(pO aX x4 y3)>>=fun y5=>aE5 p0 (IntKind.wrap .i64 (x4+1)) y5) else (some aX)
  partial_fixpoint
def aEk (p0:(List aJ)):Option (List aJ) :=
  (mkG 112 (p0.length:Int) ((aJ.mk false ([]:List bA) ([]:List aV) ([]:List aA) ([]:List bC) 0):aJ))>>=fun y1=>aE5 p0 0 y1
  partial_fixpoint
def rF (p0:aA):Option aA :=
  (wO p0.value)>>=fun y1=>(uF p0.kids)>>=fun y2=>(aEk p0.sub)>>=fun y3=>some (aA.mk p0.kind p0.op p0.not_ y1 p0.qual p0.name y2 y3)
  partial_fixpoint
def R3 (p0:(List aA)) (x4:Int) (aX:(List aA)):Option (List aA) :=
  if (decide (x4<(p0.length:Int)))=true then ((idx p0 x4)>>=fun y2=>(rF y2)>>=fun y3=>(idx aX x4)>>=fun y4=>(pO aX x4 y3)>>=fun y5=>R3 p0 (IntKind.wrap .i64 (x4+1)) y5) else (some aX)
  partial_fixpoint
def uF (p0:(List aA)):Option (List aA) :=
  (mkG 136 (p0.length:Int) ((aA.mk 0 0 false (dV.mk 0 0 []) [] [] ([]:List aA) ([]:List aJ)):aA))>>=fun y1=>R3 p0 0 y1
  partial_fixpoint
def xK (p0:aJ):Option aJ :=
  (aDf p0.items)>>=fun y1=>(aFh p0.from_)>>=fun y2=>(uF p0.where_)>>=fun y3=>(aDt p0.order)>>=fun y4=>some (aJ.mk p0.distinct y1 y2 y3 y4 p0.limit)
  partial_fixpoint
end
mutual
def aBw (p0:aV):Option aV :=
  (rV p0.on_)>>=fun y1=>some (aV.mk p0.table p0.as_ y1)
  partial_fixpoint
def aBy (p0:(List aV)) (x4:Int) (bH:(List aV)):Option (List aV) :=
  if (decide (x4<(p0.length:Int)))=true then ((idx p0 x4)>>=fun y2=>(aBw y2)>>=fun y3=>(idx bH x4)>>=fun y4=>aBy p0 (IntKind.wrap .i64 (x4+1)) (bH.set (x4).toNat y3)) else (some bH)
  partial_fixpoint
def aA6 (p0:(List aV)):Option (List aV) :=
  (mkG 56 (p0.length:Int) ((aV.mk [] [] ([]:List aA)):aV))>>=fun y1=>aBy p0 0 y1
  partial_fixpoint
def aDj (p0:bC):Option bC :=
  (uG p0.expr)>>=fun y1=>some (bC.mk y1 p0.desc)
  partial_fixpoint
def aAs (p0:(List bC)) (x4:Int) (bH:(List bC)):Option (List bC) :=
  if (decide (x4<(p0.length:Int)))=true then ((idx p0 x4)>>=fun y2=>(aDj y2)>>=fun y3=>(idx bH x4)>>=fun y4=>aAs p0 (IntKind.wrap .i64 (x4+1)) (bH.set (x4).toNat y3)) else (some bH)
  partial_fixpoint
def Y9 (p0:(List bC)):Option (List bC) :=
  (mkG 144 (p0.length:Int) ((bC.mk (aA.mk 0 0 false (dV.mk 0 0 []) [] [] ([]:List aA) ([]:List aJ)) false):bC))>>=fun y1=>aAs p0 0 y1
  partial_fixpoint
def aCr (p0:bA):Option bA :=
  (uG p0.expr)>>=fun y1=>some (bA.mk p0.star p0.qual y1 p0.as_)
  partial_fixpoint
def X8 (p0:(List bA)) (x4:Int) (bH:(List bA)):Option (List bA) :=
  if (decide (x4<(p0.length:Int)))=true then ((idx p0 x4)>>=fun y2=>(aCr y2)>>=fun y3=>(idx bH x4)>>=fun y4=>X8 p0 (IntKind.wrap .i64 (x4+1)) (bH.set (x4).toNat y3)) else (some bH)
  partial_fixpoint
def aB4 (p0:(List bA)):Option (List bA) :=
  (mkG 176 (p0.length:Int) ((bA.mk false [] (aA.mk 0 0 false (dV.mk 0 0 []) [] [] ([]:List aA) ([]:List aJ)) []):bA))>>=fun y1=>X8 p0 0 y1
  partial_fixpoint
def Y2 (p0:(List aJ)) (x4:Int) (bH:(List aJ)):Option (List aJ) :=
  if (decide (x4<(p0.length:Int)))=true then ((idx p0 x4)>>=fun y2=>(tN y2)>>=fun y3=>(idx bH x4)>>=fun y4=>Y2 p0 (IntKind.wrap .i64 (x4+1)) (bH.set (x4).toNat y3)) else (some bH)
  partial_fixpoint
def K4 (p0:(List aJ)):Option (List aJ) :=
  (mkG 112 (p0.length:Int) ((aJ.mk false ([]:List bA) ([]:List aV) ([]:List aA) ([]:List bC) 0):aJ))>>=fun y1=>Y2 p0 0 y1
  partial_fixpoint
def uG (p0:aA):Option aA :=
  (wO p0.value)>>=fun y1=>(rV p0.kids)>>=fun y2=>(K4 p0.sub)>>=fun y3=>some (aA.mk p0.kind p0.op p0.not_ y1 p0.qual p0.name y2 y3)
  partial_fixpoint
def T9 (p0:(List aA)) (x4:Int) (bH:(List aA)):Option (List aA) :=
  if (decide (x4<(p0.length:Int)))=true then ((idx p0 x4)>>=fun y2=>(uG y2)>>=fun y3=>(idx bH x4)>>=fun y4=>T9 p0 (IntKind.wrap .i64 (x4+1)) (bH.set (x4).toNat y3)) else (some bH)
  partial_fixpoint
def rV (p0:(List aA)):Option (List aA) :=
  (mkG 136 (p0.length:Int) ((aA.mk 0 0 false (dV.mk 0 0 []) [] [] ([]:List aA) ([]:List aJ)):aA))>>=fun y1=>T9 p0 0 y1
  partial_fixpoint
def tN (p0:aJ):Option aJ :=
  (aB4 p0.items)>>=fun y1=>(aA6 p0.from_)>>=fun y2=>(rV p0.where_)>>=fun y3=>(Y9 p0.order)>>=fun y4=>some (aJ.mk p0.distinct y1 y2 y3 y4 p0.limit)
  partial_fixpoint
end
def aEe (p0:aY) (p1:aJ):Option Bool :=
  (aFb p0 1048576)>>=fun y1=>if (decide (y1<0))=true then (some true) else ((yZ p1 y1)>>=fun y2=>if (decide (y2<0))=true then (some true) else ((aAo p0)>>=fun y3=>(xK p1)>>=fun y4=>(aEh y3 y4)>>=fun y5=>(aBr p0)>>=fun y6=>(tN p1)>>=fun y7=>(aBm y6 y7)>>=fun y8=>(C9 y8.1 y5.1)>>=fun y9=>(some (if (!y9)=true then true else (!(y8.2==y5.2))))>>=fun y10=>if y10=true then (some false) else ((aAo p0)>>=fun y11=>(aCs y6 y11)>>=fun y12=>if (!y12)=true then (some false) else ((xK p1)>>=fun y13=>(zA y7 y13)>>=fun y14=>if (!y14)=true then (some false) else ((aE3 y6 1)>>=fun y15=>(aDq y7 y15.1)>>=fun y16=>(if (true&&((decide (y16.1<0))==false))=true then C9 y8.1 y5.1 else some (default:Bool))>>=fun y17=>(some (if (decide (y16.1<0))=true then true else (!y17)))>>=fun y18=>(some (if y18=true then true else (!(y8.2==y5.2))))>>=fun y19=>if y19=true then (some false) else ((aDm y8.1 1)>>=fun y20=>(aAn y20.2 1)>>=fun y21=>if (decide (y21<0))=true then (some false) else (if (!decide (y21=y20.1))=true then (some false) else ((aBr p0)>>=fun y22=>(tN p1)>>=fun y23=>(aBm y22 y23)>>=fun y24=>(C9 y24.1 y5.1)>>=fun y25=>(some (if (!y25)=true then true else (!(y24.2==y5.2))))>>=fun y26=>if y26=true then (some false) else ((aAn y20.2 1)>>=fun y27=>if (decide (y27<0))=true then (some false) else (if (!decide (y27=y20.1))=true then (some false) else (some true)))))))))))
end Go.Ab
