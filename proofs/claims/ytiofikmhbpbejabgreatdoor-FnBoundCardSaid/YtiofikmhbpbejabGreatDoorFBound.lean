/- The functions of the program,as Lean functions (printed by a program). -/
import Derived.Test.YtiofikmhbpbejabGreatDoorAbF1
namespace Go.Ab
open Go
open Go.IntKind renaming wrap→QA,bits→QB
open _root_.Int renaming tmod→QC,fdiv→QE,tdiv→QF
structure dZ where
  name:(List UInt8)
  type:Int
instance:Inhabited dZ:=⟨(dZ.mk [] 0)⟩
structure bM where
  name:(List UInt8)
  cols:(List dZ)
instance:Inhabited bM:=⟨(bM.mk [] [])⟩
structure aP where
  tables:(List bM)
instance:Inhabited aP:=⟨(aP.mk [])⟩
structure bP where
  kind:Int
  num:Int
  text:(List UInt8)
instance:Inhabited bP:=⟨(bP.mk 0 0 [])⟩
mutual
structure aB where
  kind:Int
  op:Int
  not_:Bool
  value:bP
  qual:(List UInt8)
  name:(List UInt8)
  kids:(List aB)
  sub:(List aL)
structure bG where
  star:Bool
  qual:(List UInt8)
  expr:aB
  as_:(List UInt8)
structure aL where
  distinct:Bool
  items:(List bG)
  from_:(List bI)
  where_:(List aB)
  order:(List eX)
  limit:Int
structure eX where
  expr:aB
  desc:Bool
structure bI where
  table:(List UInt8)
  as_:(List UInt8)
  on_:(List aB)
end
instance:Inhabited aB:=⟨(aB.mk 0 0 false (bP.mk 0 0 []) [] [] [] [])⟩
instance:Inhabited bG:=⟨(bG.mk false [] (aB.mk 0 0 false (bP.mk 0 0 []) [] [] [] []) [])⟩
instance:Inhabited aL:=⟨(aL.mk false [] [] [] [] 0)⟩
instance:Inhabited eX:=⟨(eX.mk (aB.mk 0 0 false (bP.mk 0 0 []) [] [] [] []) false)⟩
instance:Inhabited bI:=⟨(bI.mk [] [] [])⟩
mutual
structure aJ where
  kind:Int
  op:Int
  not_:Bool
  value:bP
  up:Int
  at_:Int
  kids:(List aJ)
  sub:(List bA)
structure dL where
  expr:aJ
  desc:Bool
structure bA where
  tables:(List Int)
  on_:(List (List aJ))
  where_:(List aJ)
  order:(List dL)
  items:(List aJ)
  names:(List (List UInt8))
  distinct:Bool
  limit:Int
end
instance:Inhabited aJ:=⟨(aJ.mk 0 0 false (bP.mk 0 0 []) 0 0 [] [])⟩
instance:Inhabited dL:=⟨(dL.mk (aJ.mk 0 0 false (bP.mk 0 0 []) 0 0 [] []) false)⟩
instance:Inhabited bA:=⟨(bA.mk [] [] [] [] [] [] false 0)⟩
structure fB where
  code:Int
  name:(List UInt8)
instance:Inhabited fB:=⟨(fB.mk 0 [])⟩
structure aU where
  qual:(List UInt8)
  name:(List UInt8)
  count:Int
  up:Int
  at_:Int
instance:Inhabited aU:=⟨(aU.mk [] [] 0 0 0)⟩
structure bV where
  c:aP
  list:(List aU)
  failed:Bool
instance:Inhabited bV:=⟨(bV.mk (aP.mk []) [] false)⟩
structure oP where
  op:Bool
  not_:Bool
  value:Bool
  name:Bool
  least:Int
  most:Int
  subs:Int
instance:Inhabited oP:=⟨(oP.mk false false false false 0 0 0)⟩
structure dX where
  qual:(List UInt8)
  name:(List UInt8)
  type:Int
instance:Inhabited dX:=⟨(dX.mk [] [] 0)⟩
structure aR where
  names:(List dX)
instance:Inhabited aR:=⟨(aR.mk [])⟩
structure bH where
  c:aP
  fault:fB
instance:Inhabited bH:=⟨(bH.mk (aP.mk []) (fB.mk 0 []))⟩
structure wJ where
  up:Int
  at_:Int
  type:Int
instance:Inhabited wJ:=⟨(wJ.mk 0 0 0)⟩
structure aA where
  b:(List Int)
  i:Int
  h:Int
instance:Inhabited aA:=⟨(aA.mk [] 0 0)⟩
def okGCol (x:dZ):Prop:=okS x.name∧okI x.type
def okGTable (x:bM):Prop:=okS x.name∧(okL okGCol) x.cols
def okGCatalog (x:aP):Prop:=(okL okGTable) x.tables
def okGValue (x:bP):Prop:=okI x.kind∧okI x.num∧okS x.text
mutual
def okGExpr:aB→Prop
  | ⟨a0,a1,a2,a3,a4,a5,a6,a7⟩=>okI a0∧okI a1∧okB a2∧okGValue a3∧okS a4∧okS a5∧(a6.length≤9223372036854775807∧okLGExpr a6)∧(a7.length≤9223372036854775807∧okLGQuery a7)
def okGItem:bG→Prop
  | ⟨a0,a1,a2,a3⟩=>okB a0∧okS a1∧okGExpr a2∧okS a3
def okGQuery:aL→Prop
  | ⟨a0,a1,a2,a3,a4,a5⟩=>okB a0∧(a1.length≤9223372036854775807∧okLGItem a1)∧(a2.length≤9223372036854775807∧okLGSource a2)∧(a3.length≤9223372036854775807∧okLGExpr a3)∧(a4.length≤9223372036854775807∧okLGSortKey a4)∧okI a5
def okGSortKey:eX→Prop
  | ⟨a0,a1⟩=>okGExpr a0∧okB a1
def okGSource:bI→Prop
  | ⟨a0,a1,a2⟩=>okS a0∧okS a1∧(a2.length≤9223372036854775807∧okLGExpr a2)
def okLGExpr:List aB→Prop
  | []=>True
  | x::l=>okGExpr x∧okLGExpr l
def okLGItem:List bG→Prop
  | []=>True
  | x::l=>okGItem x∧okLGItem l
def okLGQuery:List aL→Prop
  | []=>True
  | x::l=>okGQuery x∧okLGQuery l
def okLGSortKey:List eX→Prop
  | []=>True
  | x::l=>okGSortKey x∧okLGSortKey l
def okLGSource:List bI→Prop
  | []=>True
  | x::l=>okGSource x∧okLGSource l
end
mutual
def okGPExpr:aJ→Prop
  | ⟨a0,a1,a2,a3,a4,a5,a6,a7⟩=>okI a0∧okI a1∧okB a2∧okGValue a3∧okI a4∧okI a5∧(a6.length≤9223372036854775807∧okLGPExpr a6)∧(a7.length≤9223372036854775807∧okLGPlan a7)
def okGPSort:dL→Prop
  | ⟨a0,a1⟩=>okGPExpr a0∧okB a1
def okGPlan:bA→Prop
  | ⟨a0,a1,a2,a3,a4,a5,a6,a7⟩=>(okL okI) a0∧(a1.length≤9223372036854775807∧okLLGPExpr a1)∧(a2.length≤9223372036854775807∧okLGPExpr a2)∧(a3.length≤9223372036854775807∧okLGPSort a3)∧(a4.length≤9223372036854775807∧okLGPExpr a4)∧(okL okS) a5∧okB a6∧okI a7
def okLGPExpr:List aJ→Prop
  | []=>True
  | x::l=>okGPExpr x∧okLGPExpr l
def okLGPSort:List dL→Prop
  | []=>True
  | x::l=>okGPSort x∧okLGPSort l
def okLGPlan:List bA→Prop
  | []=>True
  | x::l=>okGPlan x∧okLGPlan l
def okLLGPExpr:List (List aJ)→Prop
  | []=>True
  | x::l=>(x.length≤9223372036854775807∧okLGPExpr x)∧okLLGPExpr l
end
def okGRFault (x:fB):Prop:=okI x.code∧okS x.name
def okGUse (x:aU):Prop:=okS x.qual∧okS x.name∧okI x.count∧okI x.up∧okI x.at_
def okGUser (x:bV):Prop:=okGCatalog x.c∧(okL okGUse) x.list∧okB x.failed
def okGForm (x:oP):Prop:=okB x.op∧okB x.not_∧okB x.value∧okB x.name∧okI x.least∧okI x.most∧okI x.subs
def okGNamed (x:dX):Prop:=okS x.qual∧okS x.name∧okI x.type
def okGScope (x:aR):Prop:=(okL okGNamed) x.names
def okGResolver (x:bH):Prop:=okGCatalog x.c∧okGRFault x.fault
def okGBind (x:wJ):Prop:=okI x.up∧okI x.at_∧okI x.type
def okGL1Cur (x:aA):Prop:=(okL okU8) x.b∧okI x.i∧okI x.h
def aLq (p0:aU):Option Bool :=
  some (!decide (p0.count=1))
def U6 (p0:List aU) (x8:Int):Option Int :=
  if (decide (x8<(p0.length:Int)))=true then ((idx p0 x8)>>=fun y1=>(aLq y1)>>=fun y2=>if y2=true then (some x8) else (U6 p0 (QA .i64 (x8+1)))) else (some (-1))
  partial_fixpoint
def aTw (p0:List aU):Option Int :=
  U6 p0 0
def aSm (p0:List aU):Option Bool :=
  (aTw p0)>>=fun y1=>some (decide (0≤y1))
def aR6 (p0:dZ) (c0_0:List UInt8):Option Bool :=
  some (decide (p0.name=c0_0))
def aBm (p0:List dZ) (c0_0:List UInt8) (x8:Int):Option Int :=
  if (decide (x8<(p0.length:Int)))=true then ((idx p0 x8)>>=fun y1=>(aR6 y1 c0_0)>>=fun y2=>if y2=true then (some x8) else (aBm p0 c0_0 (QA .i64 (x8+1)))) else (some (-1))
  partial_fixpoint
def aQd (p0:List dZ) (c0_0:List UInt8):Option Int :=
  aBm p0 c0_0 0
def aM6 (p0:bM) (p1:List UInt8):Option Int :=
  (aQd p0.cols p1)>>=fun y1=>some y1
def xO (p0:List UInt8):Option Bool :=
  (some (if (decide (1≤(p0.length:Int)))=true then (decide ((p0.length:Int)≤20)) else false))>>=fun y1=>some y1
def aBh (p0:bM) (x8:Int):Option Bool :=
  if (decide (x8<(p0.cols.length:Int)))=true then ((idx p0.cols x8)>>=fun y1=>(xO y1.name)>>=fun y2=>(some (if (!y2)=true then true else (decide (y1.type<1))))>>=fun y3=>(some (if y3=true then true else (decide (3<y1.type))))>>=fun y4=>(if (true&&(y4==false))=true then aM6 p0 y1.name else some default)>>=fun y5=>(some (if y4=true then true else (!decide (y5=x8))))>>=fun y6=>if y6=true then (some false) else (aBh p0 (QA .i64 (x8+1)))) else ((xO p0.name)>>=fun y7=>(some (if y7=true then (decide (1≤(p0.cols.length:Int))) else false))>>=fun y8=>(some (if y8=true then (decide ((p0.cols.length:Int)≤4)) else false))>>=fun y9=>some y9)
  partial_fixpoint
def aN4 (p0:bM):Option Bool :=
  aBh p0 0
def aP2 (p0:bM) (c0_0:List UInt8):Option Bool :=
  some (decide (p0.name=c0_0))
def aA7 (p0:List bM) (c0_0:List UInt8) (x8:Int):Option Int :=
  if (decide (x8<(p0.length:Int)))=true then ((idx p0 x8)>>=fun y1=>(aP2 y1 c0_0)>>=fun y2=>if y2=true then (some x8) else (aA7 p0 c0_0 (QA .i64 (x8+1)))) else (some (-1))
  partial_fixpoint
def aPu (p0:List bM) (c0_0:List UInt8):Option Int :=
  aA7 p0 c0_0 0
def aAg (p0:aP) (p1:List UInt8):Option Int :=
  (aPu p0.tables p1)>>=fun y1=>some y1
def aBz (p0:aP) (x8:Int):Option Bool :=
  if (decide (x8<(p0.tables.length:Int)))=true then ((idx p0.tables x8)>>=fun y1=>(aN4 y1)>>=fun y2=>(if (true&&((!y2)==false))=true then aAg p0 y1.name else some default)>>=fun y3=>(some (if (!y2)=true then true else (!decide (y3=x8))))>>=fun y4=>if y4=true then (some false) else (aBz p0 (QA .i64 (x8+1)))) else (some (decide ((p0.tables.length:Int)≤4)))
  partial_fixpoint
def I7 (p0:aP):Option Bool :=
  aBz p0 0
def aC9 (p0:List UInt8):Option Bool :=
  (if (true&&((decide (p0=[]))==false))=true then xO p0 else some default)>>=fun y1=>(some (if (decide (p0=[]))=true then true else y1))>>=fun y2=>some y2
def aMp (p0:bP):Option Bool :=
  if (decide (p0.kind=0))=true then ((some (if (decide (p0.num=0))=true then (decide (p0.text=[])) else false))>>=fun y1=>some y1) else (if (decide (p0.kind=1))=true then (some (decide (p0.text=[]))) else (if (decide (p0.kind=2))=true then ((some (if (decide (p0.num=0))=true then (decide ((p0.text.length:Int)≤200)) else false))>>=fun y2=>some y2) else (if (decide (p0.kind=3))=true then ((some (if (decide (p0.num=0))=true then true else (decide (p0.num=1))))>>=fun y3=>(some (if y3=true then (decide (p0.text=[])) else false))>>=fun y4=>some y4) else (some false))))
def aI9 (p0:bP):Option Bool :=
  (aMp p0)>>=fun y1=>(if (true&&(y1==true))=true then some (if (!decide (p0.kind=1))=true then true else (decide (0≤p0.num))) else some default)>>=fun y2=>(some (if y1=true then y2 else false))>>=fun y3=>(some (if y3=true then (decide ((p0.text.length:Int)≤40)) else false))>>=fun y4=>some y4
def aG9 (p0:aB):Option (oP×Bool) :=
  if (decide (p0.kind=1))=true then ((aI9 p0.value)>>=fun y1=>some ((oP.mk false false true false 0 0 0),y1)) else (if (decide (p0.kind=2))=true then ((xO p0.name)>>=fun y2=>(if ((true&&(y2==true))&&((decide (p0.qual=[]))==false))=true then xO p0.qual else some default)>>=fun y3=>(if (true&&(y2==true))=true then some (if (decide (p0.qual=[]))=true then true else y3) else some default)>>=fun y4=>(some (if y2=true then y4 else false))>>=fun y5=>some ((oP.mk false false false true 0 0 0),y5)) else (if (decide (p0.kind=3))=true then ((some (if (decide (p0.op=15))=true then true else (decide (p0.op=16))))>>=fun y6=>some ((oP.mk true false false false 1 1 0),y6)) else (if (decide (p0.kind=4))=true then ((some (if (decide (1≤p0.op))=true then (decide (p0.op≤14)) else false))>>=fun y7=>some ((oP.mk true false false false 2 2 0),y7)) else (if (decide (p0.kind=5))=true then (some ((oP.mk false true false false 1 1 0),true)) else (if (decide (p0.kind=6))=true then (some ((oP.mk false true false false 3 3 0),true)) else (if (decide (p0.kind=7))=true then (some ((oP.mk false true false false 2 9 0),true)) else (if (decide (p0.kind=8))=true then (some ((oP.mk false true false false 1 1 1),true)) else (if (decide (p0.kind=9))=true then (some ((oP.mk false false false false 0 0 1),true)) else (some ((oP.mk false false false false 0 0 0),false))))))))))
def aA2 (p0:aL) (tK:List aB) (x46:Int):Option (List aB) :=
  if (decide (x46<(p0.order.length:Int)))=true then ((idx p0.order x46)>>=fun y9=>(appG 136 tK ([y9.expr]:List aB))>>=fun y10=>aA2 p0 y10 (QA .i64 (x46+1))) else (some tK)
  partial_fixpoint
def aCk (p0:aL) (dI:List aB) (x30:Int):Option (List aB) :=
  if (decide (x30<(p0.from_.length:Int)))=true then ((idx p0.from_ x30)>>=fun y5=>(appG 136 dI y5.on_)>>=fun y6=>aCk p0 y6 (QA .i64 (x30+1))) else ((appG 136 dI p0.where_)>>=fun y7=>aA2 p0 y7 0)
  partial_fixpoint
mutual
def aJo (p0:aL) (x14:Int) (eH:List aB):Option (List aB) :=
  aI7 p0 eH (QA .i64 (x14+1))
  partial_fixpoint
def aI7 (p0:aL) (x3:List aB) (x14:Int):Option (List aB) :=
  if (decide (x14<(p0.items.length:Int)))=true then ((idx p0.items x14)>>=fun y1=>if (!y1.star)=true then ((appG 136 x3 ([y1.expr]:List aB))>>=fun y2=>aJo p0 x14 y2) else (aJo p0 x14 x3)) else (aCk p0 x3 0)
  partial_fixpoint
end
def aFc (p0:aL):Option (List aB) :=
  aI7 p0 ([]:List aB) 0
mutual
def aJy (p1:List aB) (p0:List aB) (x17:Int):Option Bool :=
  if (decide (x17<(p0.length:Int)))=true then ((idx p0 x17)>>=fun y1=>(idx p1 x17)>>=fun y2=>(aE8 y1 y2)>>=fun y3=>if (!y3)=true then (some false) else (aJy p1 p0 (QA .i64 (x17+1)))) else (some true)
  partial_fixpoint
def aTj (p0:List aB) (p1:List aB):Option Bool :=
  if (!decide ((p0.length:Int)=(p1.length:Int)))=true then (some false) else (aJy p1 p0 0)
  partial_fixpoint
def aDa (p0:List aB) (p1:List aB):Option Bool :=
  (aTj p0 p1)>>=fun y1=>some y1
  partial_fixpoint
def bBx (p0:bI) (p1:bI):Option Bool :=
  (some (if (decide (p0.table=p1.table))=true then (decide (p0.as_=p1.as_)) else false))>>=fun y1=>(if (true&&(y1==true))=true then aDa p0.on_ p1.on_ else some default)>>=fun y2=>(some (if y1=true then y2 else false))>>=fun y3=>some y3
  partial_fixpoint
def aNv (p1:List bI) (p0:List bI) (x17:Int):Option Bool :=
  if (decide (x17<(p0.length:Int)))=true then ((idx p0 x17)>>=fun y1=>(idx p1 x17)>>=fun y2=>(bBx y1 y2)>>=fun y3=>if (!y3)=true then (some false) else (aNv p1 p0 (QA .i64 (x17+1)))) else (some true)
  partial_fixpoint
def bG1 (p0:List bI) (p1:List bI):Option Bool :=
  if (!decide ((p0.length:Int)=(p1.length:Int)))=true then (some false) else (aNv p1 p0 0)
  partial_fixpoint
def bBj (p0:eX) (p1:eX):Option Bool :=
  (if (true&&((p0.desc==p1.desc)==true))=true then aE8 p0.expr p1.expr else some default)>>=fun y1=>(some (if (p0.desc==p1.desc)=true then y1 else false))>>=fun y2=>some y2
  partial_fixpoint
def aPo (p1:List eX) (p0:List eX) (x17:Int):Option Bool :=
  if (decide (x17<(p0.length:Int)))=true then ((idx p0 x17)>>=fun y1=>(idx p1 x17)>>=fun y2=>(bBj y1 y2)>>=fun y3=>if (!y3)=true then (some false) else (aPo p1 p0 (QA .i64 (x17+1)))) else (some true)
  partial_fixpoint
def aVn (p0:List eX) (p1:List eX):Option Bool :=
  if (!decide ((p0.length:Int)=(p1.length:Int)))=true then (some false) else (aPo p1 p0 0)
  partial_fixpoint
def bAl (p0:bG) (p1:bG):Option Bool :=
  (some (if (p0.star==p1.star)=true then (decide (p0.qual=p1.qual)) else false))>>=fun y1=>(some (if y1=true then (decide (p0.as_=p1.as_)) else false))>>=fun y2=>(if (true&&(y2==true))=true then aE8 p0.expr p1.expr else some default)>>=fun y3=>(some (if y2=true then y3 else false))>>=fun y4=>some y4
  partial_fixpoint
def aOk (p1:List bG) (p0:List bG) (x17:Int):Option Bool :=
  if (decide (x17<(p0.length:Int)))=true then ((idx p0 x17)>>=fun y1=>(idx p1 x17)>>=fun y2=>(bAl y1 y2)>>=fun y3=>if (!y3)=true then (some false) else (aOk p1 p0 (QA .i64 (x17+1)))) else (some true)
  partial_fixpoint
def bDh (p0:List bG) (p1:List bG):Option Bool :=
  if (!decide ((p0.length:Int)=(p1.length:Int)))=true then (some false) else (aOk p1 p0 0)
  partial_fixpoint
def bF8 (p0:aL) (p1:aL):Option Bool :=
  (some (if (p0.distinct==p1.distinct)=true then (decide (p0.limit=p1.limit)) else false))>>=fun y1=>(if (true&&(y1==true))=true then bDh p0.items p1.items else some default)>>=fun y2=>(some (if y1=true then y2 else false))>>=fun y3=>(if (true&&(y3==true))=true then bG1 p0.from_ p1.from_ else some default)>>=fun y4=>(some (if y3=true then y4 else false))>>=fun y5=>(if (true&&(y5==true))=true then aDa p0.where_ p1.where_ else some default)>>=fun y6=>(some (if y5=true then y6 else false))>>=fun y7=>(if (true&&(y7==true))=true then aVn p0.order p1.order else some default)>>=fun y8=>(some (if y7=true then y8 else false))>>=fun y9=>some y9
  partial_fixpoint
def aN0 (p1:List aL) (p0:List aL) (x17:Int):Option Bool :=
  if (decide (x17<(p0.length:Int)))=true then ((idx p0 x17)>>=fun y1=>(idx p1 x17)>>=fun y2=>(bF8 y1 y2)>>=fun y3=>if (!y3)=true then (some false) else (aN0 p1 p0 (QA .i64 (x17+1)))) else (some true)
  partial_fixpoint
def aKa (p0:List aL) (p1:List aL):Option Bool :=
  if (!decide ((p0.length:Int)=(p1.length:Int)))=true then (some false) else (aN0 p1 p0 0)
  partial_fixpoint
def aE8 (p0:aB) (p1:aB):Option Bool :=
  (some (if (decide (p0.kind=p1.kind))=true then (decide (p0.op=p1.op)) else false))>>=fun y1=>(some (if y1=true then (p0.not_==p1.not_) else false))>>=fun y2=>(some (if y2=true then ((decide (p0.value.kind=p1.value.kind))&&((decide (p0.value.num=p1.value.num))&&((decide (p0.value.text=p1.value.text))&&true))) else false))>>=fun y3=>(some (if y3=true then (decide (p0.qual=p1.qual)) else false))>>=fun y4=>(some (if y4=true then (decide (p0.name=p1.name)) else false))>>=fun y5=>(if (true&&(y5==true))=true then aDa p0.kids p1.kids else some default)>>=fun y6=>(some (if y5=true then y6 else false))>>=fun y7=>(if (true&&(y7==true))=true then aKa p0.sub p1.sub else some default)>>=fun y8=>(some (if y7=true then y8 else false))>>=fun y9=>some y9
  partial_fixpoint
end
def aHo (p0:aB):Option Bool :=
  (aE8 p0 (aB.mk 0 0 false (bP.mk 0 0 []) [] [] ([]:List aB) ([]:List aL)))>>=fun y1=>some y1
mutual
def aLy (p0:aL):Option Bool :=
  (aFs p0)>>=fun y1=>some (!y1)
  partial_fixpoint
def aFp (p0:List aL) (x8:Int):Option Int :=
  if (decide (x8<(p0.length:Int)))=true then ((idx p0 x8)>>=fun y1=>(aLy y1)>>=fun y2=>if y2=true then (some x8) else (aFp p0 (QA .i64 (x8+1)))) else (some (-1))
  partial_fixpoint
def aLf (p0:List aL):Option Int :=
  aFp p0 0
  partial_fixpoint
def aEn (p0:List aL):Option Bool :=
  (aLf p0)>>=fun y1=>some (decide (0≤y1))
  partial_fixpoint
def zU (p0:aB):Option Bool :=
  (aG9 p0)>>=fun y1=>(if (true&&((!y1.2)==false))=true then some (if (!y1.1.op)=true then (!decide (p0.op=0)) else false) else some default)>>=fun y2=>(some (if (!y1.2)=true then true else y2))>>=fun y3=>(if (true&&(y3==false))=true then some (if (!y1.1.not_)=true then p0.not_ else false) else some default)>>=fun y4=>(some (if y3=true then true else y4))>>=fun y5=>(if (true&&(y5==false))=true then some (if (!y1.1.value)=true then (!((decide (p0.value.kind=0))&&((decide (p0.value.num=0))&&((decide (p0.value.text=[]))&&true)))) else false) else some default)>>=fun y6=>(some (if y5=true then true else y6))>>=fun y7=>(if ((true&&(y7==false))&&((!y1.1.name)==true))=true then some (if (!decide (p0.qual=[]))=true then true else (!decide (p0.name=[]))) else some default)>>=fun y8=>(if (true&&(y7==false))=true then some (if (!y1.1.name)=true then y8 else false) else some default)>>=fun y9=>(some (if y7=true then true else y9))>>=fun y10=>if y10=true then (some false) else ((some (if (decide ((p0.kids.length:Int)<y1.1.least))=true then true else (decide (y1.1.most<(p0.kids.length:Int)))))>>=fun y11=>(some (if y11=true then true else (!decide ((p0.sub.length:Int)=y1.1.subs))))>>=fun y12=>if y12=true then (some false) else ((aC1 p0.kids)>>=fun y13=>(if (true&&(y13==true))=true then aEn p0.sub else some default)>>=fun y14=>(some (if y13=true then (!y14) else false))>>=fun y15=>some y15))
  partial_fixpoint
def aO2 (p0:aB):Option Bool :=
  (zU p0)>>=fun y1=>some (!y1)
  partial_fixpoint
def aG7 (p0:List aB) (x8:Int):Option Int :=
  if (decide (x8<(p0.length:Int)))=true then ((idx p0 x8)>>=fun y1=>(aO2 y1)>>=fun y2=>if y2=true then (some x8) else (aG7 p0 (QA .i64 (x8+1)))) else (some (-1))
  partial_fixpoint
def aQt (p0:List aB):Option Int :=
  aG7 p0 0
  partial_fixpoint
def aT8 (p0:List aB):Option Bool :=
  (aQt p0)>>=fun y1=>some (decide (0≤y1))
  partial_fixpoint
def aC1 (p0:List aB):Option Bool :=
  (aT8 p0)>>=fun y1=>some (!y1)
  partial_fixpoint
def aDo (p0:aL) (x92:Int):Option Bool :=
  if (decide (x92<(p0.from_.length:Int)))=true then ((idx p0.from_ x92)>>=fun y17=>(xO y17.table)>>=fun y18=>(if (true&&((!y18)==false))=true then aC9 y17.as_ else some default)>>=fun y19=>(some (if (!y18)=true then true else (!y19)))>>=fun y20=>(some (if y20=true then true else (decide (1<(y17.on_.length:Int)))))>>=fun y21=>(if (true&&(y21==false))=true then some (if (decide (x92=0))=true then (decide (0<(y17.on_.length:Int))) else false) else some default)>>=fun y22=>(some (if y21=true then true else y22))>>=fun y23=>if y23=true then (some false) else (aDo p0 (QA .i64 (x92+1)))) else ((aFc p0)>>=fun y24=>(aC1 y24)>>=fun y25=>some y25)
  partial_fixpoint
def aE0 (p0:aL) (x49:Int):Option Bool :=
  if (decide (x49<(p0.items.length:Int)))=true then ((idx p0.items x49)>>=fun y7=>(if (true&&(y7.star==true))=true then aC9 y7.qual else some default)>>=fun y8=>(if (true&&(y7.star==true))=true then some (if (!y8)=true then true else (!decide (y7.as_=[]))) else some default)>>=fun y9=>(if ((true&&(y7.star==true))&&(y9==false))=true then aHo y7.expr else some default)>>=fun y10=>(if (true&&(y7.star==true))=true then some (if y9=true then true else (!y10)) else some default)>>=fun y11=>(some (if y7.star=true then y11 else false))>>=fun y12=>(if (((true&&(y12==false))&&((!y7.star)==true))&&((!decide (y7.qual=[]))==false))=true then aC9 y7.as_ else some default)>>=fun y13=>(if ((true&&(y12==false))&&((!y7.star)==true))=true then some (if (!decide (y7.qual=[]))=true then true else (!y13)) else some default)>>=fun y14=>(if (true&&(y12==false))=true then some (if (!y7.star)=true then y14 else false) else some default)>>=fun y15=>(some (if y12=true then true else y15))>>=fun y16=>if y16=true then (some false) else (aE0 p0 (QA .i64 (x49+1)))) else (aDo p0 0)
  partial_fixpoint
def aFs (p0:aL):Option Bool :=
  (some (if (decide ((p0.items.length:Int)<1))=true then true else (decide (12<(p0.items.length:Int)))))>>=fun y1=>(some (if y1=true then true else (decide ((p0.from_.length:Int)<1))))>>=fun y2=>(some (if y2=true then true else (decide (3<(p0.from_.length:Int)))))>>=fun y3=>(some (if y3=true then true else (decide (1<(p0.where_.length:Int)))))>>=fun y4=>(some (if y4=true then true else (decide (12<(p0.order.length:Int)))))>>=fun y5=>(some (if y5=true then true else (decide (p0.limit<(-1)))))>>=fun y6=>if y6=true then (some false) else (aE0 p0 0)
  partial_fixpoint
end
def aIh (p0:Int) (p1:Int):Option Bool :=
  (some (if (decide (p0≤24))=true then (decide (p1≤200)) else false))>>=fun y1=>some y1
mutual
def aCp (p0:aB) (eH:Int) (x23:Int):Option Int :=
  if (decide (x23<(p0.sub.length:Int)))=true then ((idx p0.sub x23)>>=fun y4=>(aB6 y4)>>=fun y5=>aCp p0 (if y5>eH then y5 else eH) (QA .i64 (x23+1))) else (some (QA .i64 (1+eH)))
  partial_fixpoint
def aHi (p0:aB) (x3:Int) (x11:Int):Option Int :=
  if (decide (x11<(p0.kids.length:Int)))=true then ((idx p0.kids x11)>>=fun y1=>(zX y1)>>=fun y2=>aHi p0 (if y2>x3 then y2 else x3) (QA .i64 (x11+1))) else (aCp p0 x3 0)
  partial_fixpoint
def zX (p0:aB):Option Int :=
  aHi p0 0 0
  partial_fixpoint
def aIa (p0:List aB) (x3:Int) (x8:Int):Option Int :=
  if (decide (x8<(p0.length:Int)))=true then ((idx p0 x8)>>=fun y1=>(zX y1)>>=fun y2=>aIa p0 (if y2>x3 then y2 else x3) (QA .i64 (x8+1))) else (some x3)
  partial_fixpoint
def aNx (p0:List aB):Option Int :=
  aIa p0 0 0
  partial_fixpoint
def aB6 (p0:aL):Option Int :=
  (aFc p0)>>=fun y1=>(aNx y1)>>=fun y2=>some y2
  partial_fixpoint
end
mutual
def aEu (p0:aB) (x3:Int) (x13:Int):Option Int :=
  if (decide (x13<(p0.sub.length:Int)))=true then ((idx p0.sub x13)>>=fun y2=>(aCg y2)>>=fun y3=>aEu p0 (QA .i64 (x3+y3)) (QA .i64 (x13+1))) else (some x3)
  partial_fixpoint
def F6 (p0:aB):Option Int :=
  (aJr p0.kids)>>=fun y1=>aEu p0 (QA .i64 (1+y1)) 0
  partial_fixpoint
def aHl (p0:List aB) (x3:Int) (x8:Int):Option Int :=
  if (decide (x8<(p0.length:Int)))=true then ((idx p0 x8)>>=fun y1=>(F6 y1)>>=fun y2=>aHl p0 (QA .i64 (x3+y2)) (QA .i64 (x8+1))) else (some x3)
  partial_fixpoint
def aJr (p0:List aB):Option Int :=
  aHl p0 0 0
  partial_fixpoint
def aCg (p0:aL):Option Int :=
  (aFc p0)>>=fun y1=>(aJr y1)>>=fun y2=>some y2
  partial_fixpoint
end
def G5 (p0:aL):Option Bool :=
  (aB6 p0)>>=fun y1=>(aCg p0)>>=fun y2=>(aIh y1 y2)>>=fun y3=>(if (true&&(y3==true))=true then aFs p0 else some default)>>=fun y4=>(some (if y3=true then y4 else false))>>=fun y5=>some y5
def K5 (p0:aR) (p1:List aR):Option (List aR) :=
  (appG 24 ([p0]:List aR) p1)>>=fun y1=>some y1
mutual
def aFn (p1:List UInt8) (p2:List UInt8) (p0:aR) (x14:Int) (vP:List Int):Option (List Int) :=
  aFg p1 p2 p0 vP (QA .i64 (x14+1))
  partial_fixpoint
def aFg (p1:List UInt8) (p2:List UInt8) (p0:aR) (x7:List Int) (x14:Int):Option (List Int) :=
  if (decide (x14<(p0.names.length:Int)))=true then ((idx p0.names x14)>>=fun y1=>(if (true&&((decide (y1.name=p2))==true))=true then some (if (decide (p1=[]))=true then true else (decide (y1.qual=p1))) else some default)>>=fun y2=>(some (if (decide (y1.name=p2))=true then y2 else false))>>=fun y3=>if y3=true then ((appG 8 x7 ([x14]:List Int))>>=fun y4=>aFn p1 p2 p0 x14 y4) else (aFn p1 p2 p0 x14 x7)) else (some x7)
  partial_fixpoint
end
def aGo (p0:aR) (p1:List UInt8) (p2:List UInt8):Option (List Int) :=
  aFg p1 p2 p0 ([]:List Int) 0
def aG3 (p2:aB) (p0:bV) (X4:Int) (Y8:Int) (Z4:Int):Option bV :=
  (appG 56 p0.list ([(aU.mk p2.qual p2.name X4 Y8 Z4)]:List aU))>>=fun y4=>some (bV.mk p0.c y4 p0.failed)
def aBg (p1:List aR) (p2:aB) (p0:bV) (x17:Int):Option bV :=
  if (decide (x17<(p1.length:Int)))=true then ((idx p1 x17)>>=fun y1=>(aGo y1 p2.qual p2.name)>>=fun y2=>if (decide (0<(y2.length:Int)))=true then (if (decide ((y2.length:Int)=1))=true then ((idx y2 0)>>=fun y3=>aG3 p2 p0 (y2.length:Int) x17 y3) else (aG3 p2 p0 (y2.length:Int) 0 0)) else (aBg p1 p2 p0 (QA .i64 (x17+1)))) else (aG3 p2 p0 0 0 0)
  partial_fixpoint
def aAh (p0:bV) (p1:List aR) (p2:aB):Option bV :=
  aBg p1 p2 p0 0
mutual
def aE3 (p1:List UInt8) (p0:aR) (x12:Int) (lV:List Int):Option (List Int) :=
  aEi p1 p0 lV (QA .i64 (x12+1))
  partial_fixpoint
def aEi (p1:List UInt8) (p0:aR) (x5:List Int) (x12:Int):Option (List Int) :=
  if (decide (x12<(p0.names.length:Int)))=true then ((idx p0.names x12)>>=fun y1=>(some (if (decide (p1=[]))=true then true else (decide (y1.qual=p1))))>>=fun y2=>if y2=true then ((appG 8 x5 ([x12]:List Int))>>=fun y3=>aE3 p1 p0 x12 y3) else (aE3 p1 p0 x12 x5)) else (some x5)
  partial_fixpoint
end
def aHq (p0:aR) (p1:List UInt8):Option (List Int) :=
  aEi p1 p0 ([]:List Int) 0
def aHu (p0:bI):Option (List UInt8) :=
  if (decide (p0.as_=[]))=true then (some p0.table) else (some p0.as_)
mutual
def L6 (p1:List bI) (y3:List UInt8) (x19:Int) (y7:bM) (p0:aP) (x57:Int) (sV:List dX):Option (aR×Int×(List UInt8)) :=
  if (decide (x57<(y7.cols.length:Int)))=true then ((idx y7.cols x57)>>=fun y9=>(appG 40 sV ([(dX.mk y3 y9.name y9.type)]:List dX))>>=fun y10=>L6 p1 y3 x19 y7 p0 (QA .i64 (x57+1)) y10) else (aAc p1 p0 (QA .i64 (x19+1)) sV)
  partial_fixpoint
def aCy (p1:List bI) (y2:Int) (y3:List UInt8) (x19:Int) (y4:List bI) (p0:aP) (fU:List dX) (x39:Int):Option (aR×Int×(List UInt8)) :=
  if (decide (x39<(y4.length:Int)))=true then ((idx y4 x39)>>=fun y5=>(aHu y5)>>=fun y6=>if (decide (y6=y3))=true then (some ((aR.mk ([]:List dX)),2,y3)) else (aCy p1 y2 y3 x19 y4 p0 fU (QA .i64 (x39+1)))) else ((idx p0.tables y2)>>=fun y7=>L6 p1 y3 x19 y7 p0 0 fU)
  partial_fixpoint
def aAc (p1:List bI) (p0:aP) (x19:Int) (fU:List dX):Option (aR×Int×(List UInt8)) :=
  if (decide (x19<(p1.length:Int)))=true then ((idx p1 x19)>>=fun y1=>(aAg p0 y1.table)>>=fun y2=>if (decide (y2<0))=true then (some ((aR.mk ([]:List dX)),1,y1.table)) else ((aHu y1)>>=fun y3=>(nR p1 0 x19)>>=fun y4=>aCy p1 y2 y3 x19 y4 p0 fU 0)) else (some ((aR.mk fU),0,[]))
  partial_fixpoint
end
def aJ7 (p0:aP) (p1:List bI):Option (aR×Int×(List UInt8)) :=
  aAc p1 p0 0 ([]:List dX)
def aIz (p0:bV) (p1:List bI):Option (aR×bV) :=
  (aJ7 p0.c p1)>>=fun y1=>(some (if p0.failed=true then true else (!decide (y1.2.1=0))))>>=fun y2=>some (y1.1,(bV.mk p0.c p0.list y2))
mutual
def aG8 (y7:List aR) (p2:aL) (x66:Int) (y23:List Int) (jB:List bM) (jD:Bool) (kx86:Int×(List aU)):Option bV :=
  if (decide (kx86.1<(y23.length:Int)))=true then ((idx y23 kx86.1)>>=fun y25=>(idx y7 0)>>=fun y26=>(idx y26.names y25)>>=fun y27=>(appG 56 kx86.2 ([(aU.mk y27.qual y27.name 1 0 y25)]:List aU))>>=fun y28=>aG8 y7 p2 x66 y23 jB jD ((QA .i64 (kx86.1+1)),y28)) else (aFm y7 p2 x66 jB kx86.2 jD)
  partial_fixpoint
def aFm (y7:List aR) (p2:aL) (x66:Int) (uH:List bM) (uM:List aU) (uW:Bool):Option bV :=
  aE5 y7 p2 (QA .i64 (x66+1)) uH uM uW
  partial_fixpoint
def aE5 (y7:List aR) (p2:aL) (x66:Int) (jB:List bM) (qG:List aU) (jD:Bool):Option bV :=
  if (decide (x66<(p2.items.length:Int)))=true then ((idx p2.items x66)>>=fun y17=>if (!y17.star)=true then ((mR (bV.mk (aP.mk jB) qG jD) y7 ([y17.expr]:List aB))>>=fun y18=>aFm y7 p2 x66 y18.c.tables y18.list y18.failed) else ((idx y7 0)>>=fun y22=>(aHq y22 y17.qual)>>=fun y23=>aG8 y7 p2 x66 y23 jB jD (0,qG))) else (some (bV.mk (aP.mk jB) qG jD))
  partial_fixpoint
def aDh (y7:List aR) (p2:aL) (x52:Int) (tC:List bM) (sF:List aU) (tV:Bool):Option bV :=
  if (decide (x52<(p2.order.length:Int)))=true then ((idx p2.order x52)>>=fun y12=>(mR (bV.mk (aP.mk tC) sF tV) y7 ([y12.expr]:List aB))>>=fun y13=>aDh y7 p2 (QA .i64 (x52+1)) y13.c.tables y13.list y13.failed) else (aE5 y7 p2 0 tC sF tV)
  partial_fixpoint
def wK (p1:List aR) (p2:List aB) (x12:Int) (y1:aB) (x31:Int) (lC:List bM) (jG:(List aU)×Bool):Option bV :=
  if (decide (x31<(y1.sub.length:Int)))=true then ((idx y1.sub x31)>>=fun y10=>(vY (bV.mk (aP.mk lC) jG.1 jG.2) p1 y10)>>=fun y11=>wK p1 p2 x12 y1 (QA .i64 (x31+1)) y11.c.tables (y11.list,y11.failed)) else (pO p1 p2 (QA .i64 (x12+1)) lC jG.1 jG.2)
  partial_fixpoint
def K3 (p1:List aR) (p2:List aB) (x12:Int) (y1:aB) (vR:List bM) (vE:List aU) (wG:Bool):Option bV :=
  (mR (bV.mk (aP.mk vR) vE wG) p1 y1.kids)>>=fun y6=>wK p1 p2 x12 y1 0 y6.c.tables (y6.list,y6.failed)
  partial_fixpoint
def pO (p1:List aR) (p2:List aB) (x12:Int) (aV:List bM) (aZ:List aU) (bD:Bool):Option bV :=
  if (decide (x12<(p2.length:Int)))=true then ((idx p2 x12)>>=fun y1=>if (decide (y1.kind=2))=true then ((aAh (bV.mk (aP.mk aV) aZ bD) p1 y1)>>=fun y2=>K3 p1 p2 x12 y1 y2.c.tables y2.list y2.failed) else (K3 p1 p2 x12 y1 aV aZ bD)) else (some (bV.mk (aP.mk aV) aZ bD))
  partial_fixpoint
def mR (p0:bV) (p1:List aR) (p2:List aB):Option bV :=
  pO p1 p2 0 p0.c.tables p0.list p0.failed
  partial_fixpoint
def aD1 (p1:List aR) (p2:aL) (x19:Int) (aV:List bM) (aZ:List aU) (bD:Bool):Option bV :=
  if (decide (x19<(p2.from_.length:Int)))=true then ((idx p2.from_ x19)>>=fun y1=>(nR p2.from_ 0 (QA .i64 (x19+1)))>>=fun y2=>(aIz (bV.mk (aP.mk aV) aZ bD) y2)>>=fun y3=>(K5 y3.1 p1)>>=fun y4=>(mR y3.2 y4 y1.on_)>>=fun y5=>aD1 p1 p2 (QA .i64 (x19+1)) y5.c.tables y5.list y5.failed) else ((aIz (bV.mk (aP.mk aV) aZ bD) p2.from_)>>=fun y6=>(K5 y6.1 p1)>>=fun y7=>(mR y6.2 y7 p2.where_)>>=fun y8=>aDh y7 p2 0 y8.c.tables y8.list y8.failed)
  partial_fixpoint
def vY (p0:bV) (p1:List aR) (p2:aL):Option bV :=
  aD1 p1 p2 0 p0.c.tables p0.list p0.failed
  partial_fixpoint
end
def aN5 (p0:aP) (p1:aL):Option ((List aU)×Bool) :=
  (I7 p0)>>=fun y1=>(if (true&&((!y1)==false))=true then G5 p1 else some default)>>=fun y2=>(some (if (!y1)=true then true else (!y2)))>>=fun y3=>if y3=true then (some (([]:List aU),false)) else ((vY (bV.mk p0 ([]:List aU) false) ([]:List aR) p1)>>=fun y4=>if y4.failed=true then (some (([]:List aU),false)) else (some (y4.list,true)))
def aLw (p0:aP) (p1:aL):Option Bool :=
  (aN5 p0 p1)>>=fun y1=>(if (true&&(y1.2==true))=true then aSm y1.1 else some default)>>=fun y2=>(some (if y1.2=true then (!y2) else false))>>=fun y3=>some y3
def X8 (p0:bA) (dI:List aJ) (x27:Int):Option (List aJ) :=
  if (decide (x27<(p0.order.length:Int)))=true then ((idx p0.order x27)>>=fun y5=>(appG 120 dI ([y5.expr]:List aJ))>>=fun y6=>X8 p0 y6 (QA .i64 (x27+1))) else ((appG 120 dI p0.items)>>=fun y7=>some y7)
  partial_fixpoint
def aEv (p0:bA) (x3:List aJ) (x12:Int):Option (List aJ) :=
  if (decide (x12<(p0.on_.length:Int)))=true then ((idx p0.on_ x12)>>=fun y1=>(appG 120 x3 y1)>>=fun y2=>aEv p0 y2 (QA .i64 (x12+1))) else ((appG 120 x3 p0.where_)>>=fun y3=>X8 p0 y3 0)
  partial_fixpoint
def aHg (p0:bA):Option (List aJ) :=
  aEv p0 ([]:List aJ) 0
mutual
def aG4 (p0:aJ) (x3:Int) (x12:Int):Option Int :=
  if (decide (x12<(p0.sub.length:Int)))=true then ((idx p0.sub x12)>>=fun y2=>(Z0 y2)>>=fun y3=>aG4 p0 (if y3>x3 then y3 else x3) (QA .i64 (x12+1))) else (some (QA .i64 (1+x3)))
  partial_fixpoint
def aAp (p0:aJ):Option Int :=
  (aJ4 p0.kids)>>=fun y1=>aG4 p0 y1 0
  partial_fixpoint
def aFy (p0:List aJ) (x3:Int) (x8:Int):Option Int :=
  if (decide (x8<(p0.length:Int)))=true then ((idx p0 x8)>>=fun y1=>(aAp y1)>>=fun y2=>aFy p0 (if y2>x3 then y2 else x3) (QA .i64 (x8+1))) else (some x3)
  partial_fixpoint
def aJ4 (p0:List aJ):Option Int :=
  aFy p0 0 0
  partial_fixpoint
def Z0 (p0:bA):Option Int :=
  (aHg p0)>>=fun y1=>(aJ4 y1)>>=fun y2=>some y2
  partial_fixpoint
end
mutual
def aDk (p0:aJ) (x3:Int) (x13:Int):Option Int :=
  if (decide (x13<(p0.sub.length:Int)))=true then ((idx p0.sub x13)>>=fun y2=>(U8 y2)>>=fun y3=>aDk p0 (QA .i64 (x3+y3)) (QA .i64 (x13+1))) else (some x3)
  partial_fixpoint
def Y4 (p0:aJ):Option Int :=
  (aH0 p0.kids)>>=fun y1=>aDk p0 (QA .i64 (1+y1)) 0
  partial_fixpoint
def aJk (p0:List aJ) (x3:Int) (x8:Int):Option Int :=
  if (decide (x8<(p0.length:Int)))=true then ((idx p0 x8)>>=fun y1=>(Y4 y1)>>=fun y2=>aJk p0 (QA .i64 (x3+y2)) (QA .i64 (x8+1))) else (some x3)
  partial_fixpoint
def aH0 (p0:List aJ):Option Int :=
  aJk p0 0 0
  partial_fixpoint
def U8 (p0:bA):Option Int :=
  (aHg p0)>>=fun y1=>(aH0 y1)>>=fun y2=>some y2
  partial_fixpoint
end
def tH (p0:bH):Option Bool :=
  some (!decide (p0.fault.code=0))
def aFd (y4:bA×(List Int)×bH) (aCv:List bM) (M5:Int) (L8:List UInt8):Option (bA×fB) :=
  (tH (bH.mk (aP.mk aCv) (fB.mk M5 L8)))>>=fun y11=>if y11=true then (some ((bA.mk ([]:List Int) ([]:List (List aJ)) ([]:List aJ) ([]:List dL) ([]:List aJ) ([]:List (List UInt8)) false 0),(fB.mk M5 L8))) else (some (y4.1,(fB.mk 0 [])))
def yN (p0:bH) (p1:Int) (p2:List UInt8):Option bH :=
  if (decide (p0.fault.code=0))=true then (some (bH.mk p0.c (fB.mk p1 p2))) else (some p0)
def aL7 (p0:List UInt8) (p1:List UInt8):Option (List UInt8) :=
  if (decide (p0=[]))=true then (some p1) else ((oG p0 [46])>>=fun y1=>(oG y1 p1)>>=fun y2=>some y2)
def aCf (p1:List UInt8) (p2:List UInt8) (p0:List aR) (x13:Int):Option (wJ×Int) :=
  if (decide (x13<(p0.length:Int)))=true then ((idx p0 x13)>>=fun y1=>(aGo y1 p1 p2)>>=fun y2=>if (decide ((y2.length:Int)=0))=true then (aCf p1 p2 p0 (QA .i64 (x13+1))) else (if (decide ((y2.length:Int)=1))=true then ((idx y2 0)>>=fun y3=>(idx y2 0)>>=fun y4=>(idx y1.names y4)>>=fun y5=>some ((wJ.mk x13 y3 y5.type),0)) else (some ((wJ.mk 0 0 0),4)))) else (some ((wJ.mk 0 0 0),3))
  partial_fixpoint
def aM2 (p0:List aR) (p1:List UInt8) (p2:List UInt8):Option (wJ×Int) :=
  aCf p1 p2 p0 0
def aGb (p0:Int) (p1:Int) (p2:Int):Option Bool :=
  (some (if (decide (p1=p0))=true then true else (decide (p1=0))))>>=fun y1=>(if (true&&(y1==true))=true then some (if (decide (p2=p0))=true then true else (decide (p2=0))) else some default)>>=fun y2=>(some (if y1=true then y2 else false))>>=fun y3=>some y3
def aB0 (x8:Int) (x9:Bool):Option (Int×Bool) :=
  if (!x9)=true then (some (0,false)) else (some (x8,true))
def aJf (p0:Int):Option Bool :=
  (some (if (decide (0≤p0))=true then (decide (p0≤3)) else false))>>=fun y1=>some y1
def aJp (p0:Int) (p1:Int):Option (Int×Bool) :=
  (aJf p0)>>=fun y1=>(if (true&&((!y1)==false))=true then aJf p1 else some default)>>=fun y2=>(some (if (!y1)=true then true else (!y2)))>>=fun y3=>if y3=true then (some (0,false)) else (if (decide (p0=0))=true then (some (p1,true)) else ((some (if (decide (p1=0))=true then true else (decide (p0=p1))))>>=fun y4=>if y4=true then (some (p0,true)) else (some (0,false))))
def aBy (p0:Int):Option Bool :=
  (some (if (decide (p0=0))=true then true else (decide (p0=3))))>>=fun y1=>some y1
def aLe (p0:Int) (p1:Int) (p2:Int):Option (Int×Bool) :=
  (some (if (decide (p0<1))=true then true else (decide (14<p0))))>>=fun y1=>if y1=true then (aB0 0 false) else (if (decide (p0≤2))=true then ((aBy p1)>>=fun y2=>(if (true&&(y2==true))=true then aBy p2 else some default)>>=fun y3=>(some (if y2=true then y3 else false))>>=fun y4=>aB0 3 y4) else (if (decide (p0≤8))=true then ((aJp p1 p2)>>=fun y5=>aB0 3 y5.2) else (if (decide (p0=9))=true then ((aGb 2 p1 p2)>>=fun y6=>aB0 2 y6) else ((aGb 1 p1 p2)>>=fun y7=>aB0 1 y7))))
def aKz (p0:List Int):Option (List Int) :=
  if (decide ((p0.length:Int)=0))=true then (some ([]:List Int)) else ((appG 8 ([]:List Int) p0)>>=fun y1=>some y1)
def aBv (p0:List Int) (x4:Int) (x11:Int):Option (Int×Bool) :=
  if (decide (x11<(p0.length:Int)))=true then ((idx p0 x11)>>=fun y1=>(aJp x4 y1)>>=fun y2=>if (!y2.2)=true then (some (0,false)) else (aBv p0 y2.1 (QA .i64 (x11+1)))) else (some (x4,true))
  partial_fixpoint
def aKs (p0:List Int):Option (Int×Bool) :=
  aBv p0 0 0
def aEx (p1:List Int) (p2:List Int) (x40:Bool):Option (Int×Bool) :=
  if x40=true then (some (3,true)) else ((aKz p1)>>=fun y6=>(appG 8 y6 p2)>>=fun y7=>(aKs y7)>>=fun y8=>if (!y8.2)=true then (some (0,false)) else (some (3,true)))
def aKl (p0:Int) (p1:Int):Option (Int×Bool) :=
  (if (true&&((decide (p0=15))==true))=true then aBy p1 else some default)>>=fun y1=>(some (if (decide (p0=15))=true then y1 else false))>>=fun y2=>if y2=true then (some (3,true)) else ((if (true&&((decide (p0=16))==true))=true then aGb 1 p1 p1 else some default)>>=fun y3=>(some (if (decide (p0=16))=true then y3 else false))>>=fun y4=>if y4=true then (some (1,true)) else (some (0,false)))
def aLc (p0:aJ) (p1:List Int) (p2:List Int):Option (Int×Bool) :=
  if (decide (p0.kind=1))=true then (some (p0.value.kind,true)) else (if (decide (p0.kind=3))=true then ((idx p1 0)>>=fun y1=>(aKl p0.op y1)>>=fun y2=>some (y2.1,y2.2)) else (if (decide (p0.kind=4))=true then ((idx p1 0)>>=fun y3=>(idx p1 1)>>=fun y4=>(aLe p0.op y3 y4)>>=fun y5=>some (y5.1,y5.2)) else (if (decide (p0.kind=5))=true then (aEx p1 p2 (decide (p0.kind=5))) else (aEx p1 p2 (decide (p0.kind=9))))))
def aRz (p0:Int):Option (List UInt8) :=
  some (Lib.itoa p0)
def aRd (p0:Int):Option (List UInt8) :=
  (aRz p0)>>=fun y1=>some y1
def aM1 (p0:bG) (p1:Int):Option (List UInt8) :=
  if (!decide (p0.as_=[]))=true then (some p0.as_) else (if (decide (p0.expr.kind=2))=true then (some p0.expr.name) else ((aRd (QA .i64 (p1+1)))>>=fun y1=>(oG [99] y1)>>=fun y2=>some y2))
def aKj (p0:bH) (c1_0:List Int) (c1_1:List (List aJ)) (c1_2:List aJ) (c1_3:List dL) (c1_4:List aJ) (c1_5:List (List UInt8)) (c1_6:Bool) (c1_7:Int) (p2:aJ) (p3:List UInt8):Option (bH×Bool×Int×(List aJ)×(List (List UInt8))) :=
  (appG 120 c1_4 ([(aJ.mk 0 0 false (bP.mk 0 0 []) 0 0 [] [])]:List aJ))>>=fun y1=>(idx y1 (c1_4.length:Int))>>=fun y2=>(appG 16 c1_5 ([p3]:List (List UInt8)))>>=fun y3=>if (decide (12<(y1.length:Int)))=true then ((yN p0 8 [])>>=fun y4=>some (y4,c1_6,c1_7,(y1.set ((c1_4.length:Int)).toNat p2),y3)) else (some (p0,c1_6,c1_7,(y1.set ((c1_4.length:Int)).toNat p2),y3))
def aMa (p0:bH) (c1_0:List Int) (c1_1:List (List aJ)) (c1_2:List aJ) (c1_3:List dL) (c1_4:List aJ) (c1_5:List (List UInt8)) (c1_6:Bool) (c1_7:Int) (p2:aJ) (p3:List UInt8):Option (bH×Bool×Int×(List aJ)×(List (List UInt8))) :=
  (appG 120 c1_4 ([(aJ.mk 0 0 false (bP.mk 0 0 []) 0 0 [] [])]:List aJ))>>=fun y1=>(idx y1 (c1_4.length:Int))>>=fun y2=>(appG 16 c1_5 ([p3]:List (List UInt8)))>>=fun y3=>if (decide (12<(y1.length:Int)))=true then ((yN p0 8 [])>>=fun y4=>some (y4,c1_6,c1_7,(y1.set ((c1_4.length:Int)).toNat (aJ.mk p2.kind p2.op p2.not_ p2.value p2.up p2.at_ ([]:List aJ) ([]:List bA))),y3)) else (some (p0,c1_6,c1_7,(y1.set ((c1_4.length:Int)).toNat (aJ.mk p2.kind p2.op p2.not_ p2.value p2.up p2.at_ ([]:List aJ) ([]:List bA))),y3))
mutual
def aDq (p1:List aR) (p2:List bG) (x20:Int) (y14:List Int) (x70:Int) (c1_0:List Int) (kf:(List (List aJ))×(List aJ)×(List dL)×(List bM)×Int×(List UInt8)×Bool×Int×(List Int)×(List aJ)×(List (List UInt8))):Option ((List Int)×bH×Bool×Int×(List aJ)×(List (List UInt8))) :=
  aDv p1 p2 x20 y14 c1_0 kf.1 (kf.2.1,kf.2.2.1,(QA .i64 (x70+1)),kf.2.2.2.1,kf.2.2.2.2.1,kf.2.2.2.2.2.1,kf.2.2.2.2.2.2.1,kf.2.2.2.2.2.2.2.1,kf.2.2.2.2.2.2.2.2.1,kf.2.2.2.2.2.2.2.2.2.1,kf.2.2.2.2.2.2.2.2.2.2)
  partial_fixpoint
def aDv (p1:List aR) (p2:List bG) (x20:Int) (y14:List Int) (c1_0:List Int) (c1_1:List (List aJ)) (ka:(List aJ)×(List dL)×Int×(List bM)×Int×(List UInt8)×Bool×Int×(List Int)×(List aJ)×(List (List UInt8))):Option ((List Int)×bH×Bool×Int×(List aJ)×(List (List UInt8))) :=
  if (decide (ka.2.2.1<(y14.length:Int)))=true then ((idx y14 ka.2.2.1)>>=fun y24=>(tH (bH.mk (aP.mk ka.2.2.2.1) (fB.mk ka.2.2.2.2.1 ka.2.2.2.2.2.1)))>>=fun y25=>if (!y25)=true then ((idx p1 0)>>=fun y26=>(idx y26.names y24)>>=fun y27=>(aMa (bH.mk (aP.mk ka.2.2.2.1) (fB.mk ka.2.2.2.2.1 ka.2.2.2.2.2.1)) c1_0 c1_1 ka.1 ka.2.1 ka.2.2.2.2.2.2.2.2.2.1 ka.2.2.2.2.2.2.2.2.2.2 ka.2.2.2.2.2.2.1 ka.2.2.2.2.2.2.2.1 (aJ.mk 2 0 false (bP.mk 0 0 []) 0 y24 ([]:List aJ) ([]:List bA)) y27.name)>>=fun y28=>(idx p1 0)>>=fun y29=>(idx y29.names y24)>>=fun y30=>(appG 8 ka.2.2.2.2.2.2.2.2.1 ([y30.type]:List Int))>>=fun y31=>aDq p1 p2 x20 y14 ka.2.2.1 c1_0 (c1_1,ka.1,ka.2.1,y28.1.c.tables,y28.1.fault.code,y28.1.fault.name,y28.2.1,y28.2.2.1,y31,y28.2.2.2.1,y28.2.2.2.2)) else (aDq p1 p2 x20 y14 ka.2.2.1 c1_0 (c1_1,ka.1,ka.2.1,ka.2.2.2.1,ka.2.2.2.2.1,ka.2.2.2.2.2.1,ka.2.2.2.2.2.2.1,ka.2.2.2.2.2.2.2.1,ka.2.2.2.2.2.2.2.2.1,ka.2.2.2.2.2.2.2.2.2.1,ka.2.2.2.2.2.2.2.2.2.2))) else (aBt p1 p2 x20 c1_0 c1_1 ka.1 (ka.2.1,ka.2.2.2.1,ka.2.2.2.2.1,ka.2.2.2.2.2.1,ka.2.2.2.2.2.2.1,ka.2.2.2.2.2.2.2.1,ka.2.2.2.2.2.2.2.2.2.1,ka.2.2.2.2.2.2.2.2.2.2,ka.2.2.2.2.2.2.2.2.1))
  partial_fixpoint
def aJl (p1:List aR) (y14:List Int) (p2:List bG) (x20:Int) (vT:Bool) (wR:Int) (jN:(List Int)×(List Int)×(((List (List aJ))×(List aJ)×(List dL)×(List aJ)×(((List (List UInt8))×(List bM)×Int×(List UInt8)))))):Option ((List Int)×bH×Bool×Int×(List aJ)×(List (List UInt8))) :=
  aDv p1 p2 x20 y14 jN.2.1 jN.2.2.1 (jN.2.2.2.1,jN.2.2.2.2.1,0,jN.2.2.2.2.2.2.2.1,jN.2.2.2.2.2.2.2.2.1,jN.2.2.2.2.2.2.2.2.2,vT,wR,jN.1,jN.2.2.2.2.2.1,jN.2.2.2.2.2.2.1)
  partial_fixpoint
def aBt (p1:List aR) (p2:List bG) (x20:Int) (c1_0:List Int) (c1_1:List (List aJ)) (c1_2:List aJ) (ke:(List dL)×(List bM)×Int×(List UInt8)×Bool×Int×(List aJ)×(((List (List UInt8))×(List Int)))):Option ((List Int)×bH×Bool×Int×(List aJ)×(List (List UInt8))) :=
  U4 p1 p2 c1_0 c1_1 c1_2 ke.1 ((QA .i64 (x20+1)),ke.2.1,ke.2.2.1,ke.2.2.2.1,ke.2.2.2.2.1,ke.2.2.2.2.2.1,ke.2.2.2.2.2.2.2.2,ke.2.2.2.2.2.2.1,ke.2.2.2.2.2.2.2.1)
  partial_fixpoint
def U4 (p1:List aR) (p2:List bG) (c1_0:List Int) (c1_1:List (List aJ)) (c1_2:List aJ) (c1_3:List dL) (kx20:Int×(List bM)×Int×(List UInt8)×Bool×Int×(List Int)×(List aJ)×(List (List UInt8))):Option ((List Int)×bH×Bool×Int×(List aJ)×(List (List UInt8))) :=
  if (decide (kx20.1<(p2.length:Int)))=true then ((idx p2 kx20.1)>>=fun y1=>(tH (bH.mk (aP.mk kx20.2.1) (fB.mk kx20.2.2.1 kx20.2.2.2.1)))>>=fun y2=>if y2=true then (some (([]:List Int),(bH.mk (aP.mk kx20.2.1) (fB.mk kx20.2.2.1 kx20.2.2.2.1)),kx20.2.2.2.2.1,kx20.2.2.2.2.2.1,kx20.2.2.2.2.2.2.2.1,kx20.2.2.2.2.2.2.2.2)) else (if (!y1.star)=true then ((aC2 (bH.mk (aP.mk kx20.2.1) (fB.mk kx20.2.2.1 kx20.2.2.2.1)) p1 y1.expr)>>=fun y3=>(appG 8 kx20.2.2.2.2.2.2.1 ([y3.2.1]:List Int))>>=fun y4=>(tH y3.2.2)>>=fun y5=>if (!y5)=true then ((aM1 y1 (kx20.2.2.2.2.2.2.2.1.length:Int))>>=fun y6=>(aKj y3.2.2 c1_0 c1_1 c1_2 c1_3 kx20.2.2.2.2.2.2.2.1 kx20.2.2.2.2.2.2.2.2 kx20.2.2.2.2.1 kx20.2.2.2.2.2.1 y3.1 y6)>>=fun y7=>aBt p1 p2 kx20.1 c1_0 c1_1 c1_2 (c1_3,y7.1.c.tables,y7.1.fault.code,y7.1.fault.name,y7.2.1,y7.2.2.1,y7.2.2.2.1,y7.2.2.2.2,y4)) else (aBt p1 p2 kx20.1 c1_0 c1_1 c1_2 (c1_3,y3.2.2.c.tables,y3.2.2.fault.code,y3.2.2.fault.name,kx20.2.2.2.2.1,kx20.2.2.2.2.2.1,kx20.2.2.2.2.2.2.2.1,kx20.2.2.2.2.2.2.2.2,y4))) else ((idx p1 0)>>=fun y13=>(aHq y13 y1.qual)>>=fun y14=>if (decide ((y14.length:Int)=0))=true then ((yN (bH.mk (aP.mk kx20.2.1) (fB.mk kx20.2.2.1 kx20.2.2.2.1)) 7 y1.qual)>>=fun y15=>aJl p1 y14 p2 kx20.1 kx20.2.2.2.2.1 kx20.2.2.2.2.2.1 (kx20.2.2.2.2.2.2.1,c1_0,c1_1,c1_2,c1_3,kx20.2.2.2.2.2.2.2.1,kx20.2.2.2.2.2.2.2.2,y15.c.tables,y15.fault.code,y15.fault.name)) else (aJl p1 y14 p2 kx20.1 kx20.2.2.2.2.1 kx20.2.2.2.2.2.1 (kx20.2.2.2.2.2.2.1,c1_0,c1_1,c1_2,c1_3,kx20.2.2.2.2.2.2.2.1,kx20.2.2.2.2.2.2.2.2,kx20.2.1,kx20.2.2.1,kx20.2.2.2.1))))) else (some (kx20.2.2.2.2.2.2.1,(bH.mk (aP.mk kx20.2.1) (fB.mk kx20.2.2.1 kx20.2.2.2.1)),kx20.2.2.2.2.1,kx20.2.2.2.2.2.1,kx20.2.2.2.2.2.2.2.1,kx20.2.2.2.2.2.2.2.2))
  partial_fixpoint
def aKg (p0:bH) (p1:List aR) (p2:List bG) (c1_0:List Int) (c1_1:List (List aJ)) (c1_2:List aJ) (kd:(List dL)×(List aJ)×(((List (List UInt8))×Bool×Int))):Option ((List Int)×bH×Bool×Int×(List aJ)×(List (List UInt8))) :=
  U4 p1 p2 c1_0 c1_1 c1_2 kd.1 (0,p0.c.tables,p0.fault.code,p0.fault.name,kd.2.2.2.1,kd.2.2.2.2,([]:List Int),kd.2.1,kd.2.2.1)
  partial_fixpoint
def aDn (y2:List aR) (p2:aL) (y1:aR×bH×Bool×Int×(List Int)×(List (List aJ))) (y4:(List aJ)×bH) (x39:Int) (aV:List bM) (jQ:Int×(List UInt8)×(List dL)):Option (bA×(List Int)×bH) :=
  if (decide (x39<(p2.order.length:Int)))=true then ((idx p2.order x39)>>=fun y5=>(tH (bH.mk (aP.mk aV) (fB.mk jQ.1 jQ.2.1)))>>=fun y6=>if y6=true then (some ((bA.mk ([]:List Int) ([]:List (List aJ)) ([]:List aJ) ([]:List dL) ([]:List aJ) ([]:List (List UInt8)) false 0),([]:List Int),(bH.mk (aP.mk aV) (fB.mk jQ.1 jQ.2.1)))) else ((aC2 (bH.mk (aP.mk aV) (fB.mk jQ.1 jQ.2.1)) y2 y5.expr)>>=fun y7=>(appG 128 jQ.2.2 ([(dL.mk y7.1 y5.desc)]:List dL))>>=fun y8=>aDn y2 p2 y1 y4 (QA .i64 (x39+1)) y7.2.2.c.tables (y7.2.2.fault.code,y7.2.2.fault.name,y8))) else ((tH (bH.mk (aP.mk aV) (fB.mk jQ.1 jQ.2.1)))>>=fun y9=>if y9=true then (some ((bA.mk ([]:List Int) ([]:List (List aJ)) ([]:List aJ) ([]:List dL) ([]:List aJ) ([]:List (List UInt8)) false 0),([]:List Int),(bH.mk (aP.mk aV) (fB.mk jQ.1 jQ.2.1)))) else ((aKg (bH.mk (aP.mk aV) (fB.mk jQ.1 jQ.2.1)) y2 p2.items y1.2.2.2.2.1 y1.2.2.2.2.2 y4.1 (jQ.2.2,([]:List aJ),([]:List (List UInt8)),y1.2.2.1,y1.2.2.2.1))>>=fun y10=>(tH y10.2.1)>>=fun y11=>if y11=true then (some ((bA.mk ([]:List Int) ([]:List (List aJ)) ([]:List aJ) ([]:List dL) ([]:List aJ) ([]:List (List UInt8)) false 0),([]:List Int),y10.2.1)) else (some ((bA.mk y1.2.2.2.2.1 y1.2.2.2.2.2 y4.1 jQ.2.2 y10.2.2.2.2.1 y10.2.2.2.2.2 y10.2.2.1 y10.2.2.2.1),y10.1,y10.2.1))))
  partial_fixpoint
def aIe (p1:List aR) (p2:List bI) (x18:Int) (nM:List dX) (y1:bI) (y3:aR×Int×(List UInt8)) (kc:Bool×Int×(List Int)×(((List (List aJ))×(List aJ)×(List dL)×(List aJ)×(((List (List UInt8))×(List bM)×Int×(List UInt8)))))):Option (aR×bH×Bool×Int×(List Int)×(List (List aJ))) :=
  (tH (bH.mk (aP.mk kc.2.2.2.2.2.2.2.2.1) (fB.mk kc.2.2.2.2.2.2.2.2.2.1 kc.2.2.2.2.2.2.2.2.2.2)))>>=fun y8=>if y8=true then (some ((aR.mk ([]:List dX)),(bH.mk (aP.mk kc.2.2.2.2.2.2.2.2.1) (fB.mk kc.2.2.2.2.2.2.2.2.2.1 kc.2.2.2.2.2.2.2.2.2.2)),kc.1,kc.2.1,kc.2.2.1,kc.2.2.2.1)) else ((aAg (aP.mk kc.2.2.2.2.2.2.2.2.1) y1.table)>>=fun y9=>(appG 8 kc.2.2.1 ([y9]:List Int))>>=fun y10=>(K5 y3.1 p1)>>=fun y11=>(aGw (bH.mk (aP.mk kc.2.2.2.2.2.2.2.2.1) (fB.mk kc.2.2.2.2.2.2.2.2.2.1 kc.2.2.2.2.2.2.2.2.2.2)) y11 y1.on_)>>=fun y12=>(appG 24 kc.2.2.2.1 ([y12.1]:List (List aJ)))>>=fun y13=>aEj p1 p2 kc.1 kc.2.1 kc.2.2.2.2.1 kc.2.2.2.2.2.1 (kc.2.2.2.2.2.2.1,kc.2.2.2.2.2.2.2.1,(QA .i64 (x18+1)),y3.1.names,y12.2.c.tables,y12.2.fault.code,y12.2.fault.name,y10,y13))
  partial_fixpoint
def aEj (p1:List aR) (p2:List bI) (c1_6:Bool) (c1_7:Int) (c1_2:List aJ) (c1_3:List dL) (kb:(List aJ)×(((List (List UInt8))×Int×(List dX)×(List bM)×Int×(List UInt8)×(List Int)×(List (List aJ))))):Option (aR×bH×Bool×Int×(List Int)×(List (List aJ))) :=
  if (decide (kb.2.2.1<(p2.length:Int)))=true then ((idx p2 kb.2.2.1)>>=fun y1=>(nR p2 0 (QA .i64 (kb.2.2.1+1)))>>=fun y2=>(aJ7 (aP.mk kb.2.2.2.2.1) y2)>>=fun y3=>if (!decide (y3.2.1=0))=true then ((yN (bH.mk (aP.mk kb.2.2.2.2.1) (fB.mk kb.2.2.2.2.2.1 kb.2.2.2.2.2.2.1)) y3.2.1 y3.2.2)>>=fun y4=>aIe p1 p2 kb.2.2.1 kb.2.2.2.1 y1 y3 (c1_6,c1_7,kb.2.2.2.2.2.2.2.1,kb.2.2.2.2.2.2.2.2,c1_2,c1_3,kb.1,kb.2.1,y4.c.tables,y4.fault.code,y4.fault.name)) else (aIe p1 p2 kb.2.2.1 kb.2.2.2.1 y1 y3 (c1_6,c1_7,kb.2.2.2.2.2.2.2.1,kb.2.2.2.2.2.2.2.2,c1_2,c1_3,kb.1,kb.2.1,kb.2.2.2.2.1,kb.2.2.2.2.2.1,kb.2.2.2.2.2.2.1))) else (some ((aR.mk kb.2.2.2.1),(bH.mk (aP.mk kb.2.2.2.2.1) (fB.mk kb.2.2.2.2.2.1 kb.2.2.2.2.2.2.1)),c1_6,c1_7,kb.2.2.2.2.2.2.2.1,kb.2.2.2.2.2.2.2.2))
  partial_fixpoint
def aLd (p0:bH) (p1:List aR) (p2:List bI) (c1_0:List Int) (c1_1:List (List aJ)) (c1_2:List aJ) (kd:(List dL)×(List aJ)×(((List (List UInt8))×Bool×Int))):Option (aR×bH×Bool×Int×(List Int)×(List (List aJ))) :=
  aEj p1 p2 kd.2.2.2.1 kd.2.2.2.2 c1_2 kd.1 (kd.2.1,kd.2.2.1,0,([]:List dX),p0.c.tables,p0.fault.code,p0.fault.name,c1_0,c1_1)
  partial_fixpoint
def aHw (p1:List aR) (p2:aB) (x65:Int) (y10:bA×(List Int)×bH) (uT:List bA) (jR:List aJ) (lY:(List Int)×(List bM)×Int×(List UInt8)):Option (aJ×Int×bH) :=
  (tH (bH.mk (aP.mk lY.2.1) (fB.mk lY.2.2.1 lY.2.2.2)))>>=fun y23=>if y23=true then (some ((aJ.mk 0 0 false (bP.mk 0 0 []) 0 0 ([]:List aJ) ([]:List bA)),0,(bH.mk (aP.mk lY.2.1) (fB.mk lY.2.2.1 lY.2.2.2)))) else ((appG 160 uT ([y10.1]:List bA))>>=fun y24=>aFz p1 p2 jR lY.1 (QA .i64 (x65+1)) lY.2.1 (lY.2.2.1,lY.2.2.2,y24,y10.2.1))
  partial_fixpoint
def aFz (p1:List aR) (p2:aB) (jR:List aJ) (tJ:List Int) (x65:Int) (lM:List bM) (jC:Int×(List UInt8)×(List bA)×(List Int)):Option (aJ×Int×bH) :=
  if (decide (x65<(p2.sub.length:Int)))=true then ((idx p2.sub x65)>>=fun y9=>(aH3 (bH.mk (aP.mk lM) (fB.mk jC.1 jC.2.1)) p1 y9)>>=fun y10=>(tH y10.2.2)>>=fun y11=>(some (if (!y11)=true then (decide (p2.kind=8)) else false))>>=fun y12=>(some (if y12=true then (!decide ((y10.2.1.length:Int)=1)) else false))>>=fun y13=>if y13=true then ((yN y10.2.2 6 [])>>=fun y14=>aHw p1 p2 x65 y10 jC.2.2.1 jR (tJ,y14.c.tables,y14.fault.code,y14.fault.name)) else (aHw p1 p2 x65 y10 jC.2.2.1 jR (tJ,y10.2.2.c.tables,y10.2.2.fault.code,y10.2.2.fault.name))) else (if (decide (p2.kind=2))=true then ((aM2 p1 p2.qual p2.name)>>=fun y18=>if (!decide (y18.2=0))=true then ((aL7 p2.qual p2.name)>>=fun y19=>(yN (bH.mk (aP.mk lM) (fB.mk jC.1 jC.2.1)) y18.2 y19)>>=fun y20=>some ((aJ.mk 0 0 false (bP.mk 0 0 []) 0 0 ([]:List aJ) ([]:List bA)),0,y20)) else (some ((aJ.mk p2.kind p2.op p2.not_ p2.value y18.1.up y18.1.at_ jR jC.2.2.1),y18.1.type,(bH.mk (aP.mk lM) (fB.mk jC.1 jC.2.1))))) else ((aLc (aJ.mk p2.kind p2.op p2.not_ p2.value 0 0 jR jC.2.2.1) tJ jC.2.2.2)>>=fun y21=>if (!y21.2)=true then ((yN (bH.mk (aP.mk lM) (fB.mk jC.1 jC.2.1)) 5 [])>>=fun y22=>some ((aJ.mk 0 0 false (bP.mk 0 0 []) 0 0 ([]:List aJ) ([]:List bA)),0,y22)) else (some ((aJ.mk p2.kind p2.op p2.not_ p2.value 0 0 jR jC.2.2.1),y21.1,(bH.mk (aP.mk lM) (fB.mk jC.1 jC.2.1))))))
  partial_fixpoint
def aDp (p1:List aR) (p2:aB) (x37:Int) (aV:List bM) (aZ:Int) (bD:List UInt8) (pU:(List aJ)×(List Int)):Option (aJ×Int×bH) :=
  if (decide (x37<(p2.kids.length:Int)))=true then ((idx p2.kids x37)>>=fun y1=>(aC2 (bH.mk (aP.mk aV) (fB.mk aZ bD)) p1 y1)>>=fun y2=>(tH y2.2.2)>>=fun y3=>if y3=true then (some ((aJ.mk 0 0 false (bP.mk 0 0 []) 0 0 ([]:List aJ) ([]:List bA)),0,y2.2.2)) else ((appG 120 pU.1 ([y2.1]:List aJ))>>=fun y4=>(appG 8 pU.2 ([y2.2.1]:List Int))>>=fun y5=>aDp p1 p2 (QA .i64 (x37+1)) y2.2.2.c.tables y2.2.2.fault.code y2.2.2.fault.name (y4,y5))) else (aFz p1 p2 pU.1 pU.2 0 aV (aZ,bD,([]:List bA),([]:List Int)))
  partial_fixpoint
def aC2 (p0:bH) (p1:List aR) (p2:aB):Option (aJ×Int×bH) :=
  aDp p1 p2 0 p0.c.tables p0.fault.code p0.fault.name (([]:List aJ),([]:List Int))
  partial_fixpoint
def aHd (p1:List aR) (p2:List aB) (x15:Int) (y2:aJ×Int×bH) (kE:List aJ) (lC:List bM) (jG:Int×(List UInt8)):Option ((List aJ)×bH) :=
  (appG 120 kE ([y2.1]:List aJ))>>=fun y10=>aEs p1 p2 (QA .i64 (x15+1)) lC jG.1 jG.2 y10
  partial_fixpoint
def aEs (p1:List aR) (p2:List aB) (x15:Int) (aV:List bM) (aZ:Int) (bD:List UInt8) (kE:List aJ):Option ((List aJ)×bH) :=
  if (decide (x15<(p2.length:Int)))=true then ((idx p2 x15)>>=fun y1=>(aC2 (bH.mk (aP.mk aV) (fB.mk aZ bD)) p1 y1)>>=fun y2=>(tH y2.2.2)>>=fun y3=>(if (true&&((!y3)==true))=true then aBy y2.2.1 else some default)>>=fun y4=>(some (if (!y3)=true then (!y4) else false))>>=fun y5=>if y5=true then ((yN y2.2.2 5 [])>>=fun y6=>aHd p1 p2 x15 y2 kE y6.c.tables (y6.fault.code,y6.fault.name)) else (aHd p1 p2 x15 y2 kE y2.2.2.c.tables (y2.2.2.fault.code,y2.2.2.fault.name))) else (some (kE,(bH.mk (aP.mk aV) (fB.mk aZ bD))))
  partial_fixpoint
def aGw (p0:bH) (p1:List aR) (p2:List aB):Option ((List aJ)×bH) :=
  aEs p1 p2 0 p0.c.tables p0.fault.code p0.fault.name ([]:List aJ)
  partial_fixpoint
def aH3 (p0:bH) (p1:List aR) (p2:aL):Option (bA×(List Int)×bH) :=
  (aLd p0 p1 p2.from_ ([]:List Int) ([]:List (List aJ)) ([]:List aJ) (([]:List dL),([]:List aJ),([]:List (List UInt8)),p2.distinct,p2.limit))>>=fun y1=>(K5 y1.1 p1)>>=fun y2=>(tH y1.2.1)>>=fun y3=>if y3=true then (some ((bA.mk ([]:List Int) ([]:List (List aJ)) ([]:List aJ) ([]:List dL) ([]:List aJ) ([]:List (List UInt8)) false 0),([]:List Int),y1.2.1)) else ((aGw y1.2.1 y2 p2.where_)>>=fun y4=>aDn y2 p2 y1 y4 0 y4.2.c.tables (y4.2.fault.code,y4.2.fault.name,([]:List dL)))
  partial_fixpoint
end
def aKp (p0:aP) (p1:aL):Option (bA×fB) :=
  (I7 p0)>>=fun y1=>(if (true&&((!y1)==false))=true then G5 p1 else some default)>>=fun y2=>(some (if (!y1)=true then true else (!y2)))>>=fun y3=>if y3=true then (some ((bA.mk ([]:List Int) ([]:List (List aJ)) ([]:List aJ) ([]:List dL) ([]:List aJ) ([]:List (List UInt8)) false 0),(fB.mk 9 []))) else ((aH3 (bH.mk p0 (fB.mk 0 [])) ([]:List aR) p1)>>=fun y4=>(tH y4.2.2)>>=fun y5=>(if (true&&((!y5)==true))=true then Z0 y4.1 else some default)>>=fun y6=>(if (true&&((!y5)==true))=true then U8 y4.1 else some default)>>=fun y7=>(if (true&&((!y5)==true))=true then aIh y6 y7 else some default)>>=fun y8=>(some (if (!y5)=true then (!y8) else false))>>=fun y9=>if y9=true then ((yN y4.2.2 8 [])>>=fun y10=>aFd y4 y10.c.tables y10.fault.code y10.fault.name) else (aFd y4 y4.2.2.c.tables y4.2.2.fault.code y4.2.2.fault.name))
def aB1 (y1:(List aU)×Bool) (x6:Bool) (x7:Int):Option Bool :=
  if (decide (x7<(y1.1.length:Int)))=true then ((if (true&&(x6==true))=true then idx y1.1 x7 else some default)>>=fun y2=>(some (if x6=true then (decide (y2.count=1)) else false))>>=fun y3=>aB1 y1 y3 (QA .i64 (x7+1))) else (some x6)
  partial_fixpoint
def O1 (p1:List UInt8) (p0:bM) (x5:Int):Option Int :=
  if (decide (x5<(p0.cols.length:Int)))=true then ((idx p0.cols x5)>>=fun y1=>if (decide (y1.name=p1))=true then (some x5) else (O1 p1 p0 (QA .i64 (x5+1)))) else (some (-1))
  partial_fixpoint
def G9 (p0:bM) (p1:List UInt8):Option Int :=
  O1 p1 p0 0
def kW (p0:Int) (p1:Int) (p2:Int):Option Bool :=
  (some (if (decide (p1≤p0))=true then (decide (p0≤p2)) else false))>>=fun y1=>some y1
def pI (p0:List UInt8):Option Bool :=
  (kW (p0.length:Int) 1 20)>>=fun y1=>some y1
def F8 (p1:List UInt8) (p0:aP) (x5:Int):Option Int :=
  if (decide (x5<(p0.tables.length:Int)))=true then ((idx p0.tables x5)>>=fun y1=>if (decide (y1.name=p1))=true then (some x5) else (F8 p1 p0 (QA .i64 (x5+1)))) else (some (-1))
  partial_fixpoint
def tL (p0:aP) (p1:List UInt8):Option Int :=
  F8 p1 p0 0
mutual
def Q9 (x3:Int) (p0:aP) (y1:bM) (x5:Int):Option Bool :=
  if (decide (x5<(y1.cols.length:Int)))=true then ((idx y1.cols x5)>>=fun y7=>(pI y7.name)>>=fun y8=>(if (true&&((!y8)==false))=true then idx y1.cols x5 else some default)>>=fun y9=>(if (true&&((!y8)==false))=true then G9 y1 y9.name else some default)>>=fun y10=>(some (if (!y8)=true then true else (!decide (y10=x5))))>>=fun y11=>(if (true&&(y11==false))=true then idx y1.cols x5 else some default)>>=fun y12=>(if (true&&(y11==false))=true then kW y12.type 1 3 else some default)>>=fun y13=>(some (if y11=true then true else (!y13)))>>=fun y14=>if y14=true then (some false) else (Q9 x3 p0 y1 (QA .i64 (x5+1)))) else (aAy p0 (QA .i64 (x3+1)))
  partial_fixpoint
def aAy (p0:aP) (x3:Int):Option Bool :=
  if (decide (x3<(p0.tables.length:Int)))=true then ((idx p0.tables x3)>>=fun y1=>(pI y1.name)>>=fun y2=>(if (true&&((!y2)==false))=true then tL p0 y1.name else some default)>>=fun y3=>(some (if (!y2)=true then true else (!decide (y3=x3))))>>=fun y4=>(if (true&&(y4==false))=true then kW (y1.cols.length:Int) 1 4 else some default)>>=fun y5=>(some (if y4=true then true else (!y5)))>>=fun y6=>if y6=true then (some false) else (Q9 x3 p0 y1 0)) else (some true)
  partial_fixpoint
end
def aHr (p0:aP):Option Bool :=
  if (decide (4<(p0.tables.length:Int)))=true then (some false) else (aAy p0 0)
def zB (p0:aR) (p1:List aR):Option (List aR) :=
  (appG 24 ([p0]:List aR) p1)>>=fun y1=>some y1
mutual
def aFa (p1:List UInt8) (x6:Int) (p0:aR) (lV:List Int):Option (List Int) :=
  aEb p1 p0 lV (QA .i64 (x6+1))
  partial_fixpoint
def aEb (p1:List UInt8) (p0:aR) (x5:List Int) (x6:Int):Option (List Int) :=
  if (decide (x6<(p0.names.length:Int)))=true then ((if (true&&((decide (p1=[]))==false))=true then idx p0.names x6 else some default)>>=fun y1=>(some (if (decide (p1=[]))=true then true else (decide (y1.qual=p1))))>>=fun y2=>if y2=true then ((appG 8 x5 ([x6]:List Int))>>=fun y3=>aFa p1 x6 p0 y3) else (aFa p1 x6 p0 x5)) else (some x5)
  partial_fixpoint
end
def aEl (p0:aR) (p1:List UInt8):Option (List Int) :=
  aEb p1 p0 ([]:List Int) 0
def aKe (p0:bI):Option (List UInt8) :=
  if (!decide (p0.as_=[]))=true then (some p0.as_) else (some p0.table)
def aD2 (p0:List (List UInt8)) (p1:List UInt8) (x5:Int):Option Bool :=
  if (decide (x5<(p0.length:Int)))=true then ((idx p0 x5)>>=fun y1=>if (decide (y1=p1))=true then (some true) else (aD2 p0 p1 (QA .i64 (x5+1)))) else (some false)
  partial_fixpoint
def aKr (p0:List (List UInt8)) (p1:List UInt8):Option Bool :=
  aD2 p0 p1 0
mutual
def aEk (p1:List bI) (y7:List (List UInt8)) (x9:Int) (y4:List UInt8) (y8:bM) (p0:aP) (x13:Int) (uA:List dX):Option (aR×Int×(List UInt8)) :=
  if (decide (x13<(y8.cols.length:Int)))=true then ((idx y8.cols x13)>>=fun y10=>(idx y8.cols x13)>>=fun y11=>(appG 40 uA ([(dX.mk y4 y10.name y11.type)]:List dX))>>=fun y12=>aEk p1 y7 x9 y4 y8 p0 (QA .i64 (x13+1)) y12) else (aC8 p1 p0 y7 (QA .i64 (x9+1)) uA)
  partial_fixpoint
def aC8 (p1:List bI) (p0:aP) (x8:List (List UInt8)) (x9:Int) (fU:List dX):Option (aR×Int×(List UInt8)) :=
  if (decide (x9<(p1.length:Int)))=true then ((idx p1 x9)>>=fun y1=>(tL p0 y1.table)>>=fun y2=>(idx p1 x9)>>=fun y3=>(aKe y3)>>=fun y4=>if (decide (y2<0))=true then ((idx p1 x9)>>=fun y5=>some ((aR.mk ([]:List dX)),1,y5.table)) else ((aKr x8 y4)>>=fun y6=>if y6=true then (some ((aR.mk ([]:List dX)),2,y4)) else ((appG 16 x8 ([y4]:List (List UInt8)))>>=fun y7=>(idx p0.tables y2)>>=fun y8=>aEk p1 y7 x9 y4 y8 p0 0 fU))) else (some ((aR.mk fU),0,[]))
  partial_fixpoint
end
def I8 (p0:aP) (p1:List bI):Option (aR×Int×(List UInt8)) :=
  aC8 p1 p0 ([]:List (List UInt8)) 0 ([]:List dX)
def aF7 (p1:aB) (qM:Int) (aAz:Int) (aAo:Int):Option aU :=
  some (aU.mk p1.qual p1.name qM aAz aAo)
def aBb (p1:aB) (qM:Int) (aBl:Int) (aBf:Int):Option aU :=
  if (!decide (qM=1))=true then (aF7 p1 qM 0 0) else (aF7 p1 qM aBl aBf)
mutual
def aFu (p0:List aR) (x6:Int) (x7:Int) (p1:aB) (wF:Int) (wH:Int) (uY:Int):Option aU :=
  aDg p0 x6 p1 (QA .i64 (x7+1)) wF wH uY
  partial_fixpoint
def aDg (p0:List aR) (x6:Int) (p1:aB) (x7:Int) (qX:Int) (sQ:Int) (tZ:Int):Option aU :=
  (idx p0 x6)>>=fun y7=>if (decide (x7<(y7.names.length:Int)))=true then ((idx p0 x6)>>=fun y8=>(idx y8.names x7)>>=fun y9=>(if (true&&((decide (y9.name=p1.name))==true))=true then some (if (decide (p1.qual=[]))=true then true else (decide (y9.qual=p1.qual))) else some default)>>=fun y10=>(some (if (decide (y9.name=p1.name))=true then y10 else false))>>=fun y11=>if y11=true then (aFu p0 x6 x7 p1 (QA .i64 (qX+1)) x6 x7) else (aFu p0 x6 x7 p1 qX sQ tZ)) else (if (decide (0<qX))=true then (aBb p1 qX sQ tZ) else (aBe p0 p1 (QA .i64 (x6+1)) qX sQ tZ))
  partial_fixpoint
def aBe (p0:List aR) (p1:aB) (x6:Int) (xB:Int) (xI:Int) (xY:Int):Option aU :=
  if (decide (x6<(p0.length:Int)))=true then (aDg p0 x6 p1 0 xB xI xY) else (aBb p1 xB xI xY)
  partial_fixpoint
end
def aGn (p0:List aR) (p1:aB):Option aU :=
  aBe p0 p1 0 0 0 0
mutual
def aFj (eT:Bool) (x18:List aR) (x20:Int) (y26:List Int) (p0:aP) (p2:aL) (y1:aR×Int×(List UInt8)) (oW:(List aU)×Int):Option ((List aU)×Bool) :=
  if (decide (oW.2<(y26.length:Int)))=true then ((idx y26 oW.2)>>=fun y28=>(idx y1.1.names y28)>>=fun y29=>(idx y26 oW.2)>>=fun y30=>(appG 56 oW.1 ([(aU.mk y29.qual y29.name 1 0 y30)]:List aU))>>=fun y31=>aFj eT x18 x20 y26 p0 p2 y1 (y31,(QA .i64 (oW.2+1)))) else (aH2 x18 x20 p0 p2 y1 oW.1 eT)
  partial_fixpoint
def aH2 (x18:List aR) (x20:Int) (p0:aP) (p2:aL) (y1:aR×Int×(List UInt8)) (kM:List aU) (kR:Bool):Option ((List aU)×Bool) :=
  aIm x18 p0 p2 y1 kM kR (QA .i64 (x20+1))
  partial_fixpoint
def aIm (x18:List aR) (p0:aP) (p2:aL) (y1:aR×Int×(List UInt8)) (jA:List aU) (eT:Bool) (x20:Int):Option ((List aU)×Bool) :=
  (some (if (decide (x20<(p2.items.length:Int)))=true then eT else false))>>=fun y19=>if y19=true then ((idx p2.items x20)>>=fun y20=>if (!y20.star)=true then ((idx p2.items x20)>>=fun y21=>(rG p0 x18 y21.expr jA)>>=fun y22=>aH2 x18 x20 p0 p2 y1 y22.1 y22.2) else ((idx p2.items x20)>>=fun y25=>(aEl y1.1 y25.qual)>>=fun y26=>aFj eT x18 x20 y26 p0 p2 y1 (jA,0))) else (some (jA,eT))
  partial_fixpoint
def aIt (x18:List aR) (p0:aP) (p2:aL) (y1:aR×Int×(List UInt8)) (kL:List aU) (jY:Bool) (x19:Int):Option ((List aU)×Bool) :=
  (some (if (decide (x19<(p2.order.length:Int)))=true then jY else false))>>=fun y14=>if y14=true then ((idx p2.order x19)>>=fun y15=>(rG p0 x18 y15.expr kL)>>=fun y16=>aIt x18 p0 p2 y1 y16.1 y16.2 (QA .i64 (x19+1))) else (aIm x18 p0 p2 y1 kL jY 0)
  partial_fixpoint
def aGp (p0:aP) (p2:aL) (y1:aR×Int×(List UInt8)) (nE:List aU) (nJ:Bool) (x18:List aR):Option ((List aU)×Bool) :=
  aIt x18 p0 p2 y1 nE nJ 0
  partial_fixpoint
def aI8 (p1:List aR) (p0:aP) (p2:aL) (y1:aR×Int×(List UInt8)) (x3:List aU) (x13:Bool) (x14:Int):Option ((List aU)×Bool) :=
  (some (if (decide (x14<(p2.from_.length:Int)))=true then x13 else false))>>=fun y2=>if y2=true then ((nR p2.from_ 0 (QA .i64 (x14+1)))>>=fun y3=>(I8 p0 y3)>>=fun y4=>(zB y4.1 p1)>>=fun y5=>(idx p2.from_ x14)>>=fun y6=>(zM p0 y5 y6.on_ x3)>>=fun y7=>aI8 p1 p0 p2 y1 y7.1 y7.2 (QA .i64 (x14+1))) else ((zB y1.1 p1)>>=fun y8=>if x13=true then ((zM p0 y8 p2.where_ x3)>>=fun y9=>aGp p0 p2 y1 y9.1 y9.2 y8) else (aGp p0 p2 y1 x3 x13 y8))
  partial_fixpoint
def aDr (p0:aP) (p1:List aR) (p2:aL) (p3:List aU):Option ((List aU)×Bool) :=
  (I8 p0 p2.from_)>>=fun y1=>if (!decide (y1.2.1=0))=true then (some (p3,false)) else (aI8 p1 p0 p2 y1 p3 true 0)
  partial_fixpoint
def P9 (p1:List aR) (p0:aP) (p2:aB) (sI:List aU) (tY:Bool) (x12:Int):Option ((List aU)×Bool) :=
  (some (if (decide (x12<(p2.sub.length:Int)))=true then tY else false))>>=fun y9=>if y9=true then ((idx p2.sub x12)>>=fun y10=>(aDr p0 p1 y10 sI)>>=fun y11=>P9 p1 p0 p2 y11.1 y11.2 (QA .i64 (x12+1))) else (some (sI,tY))
  partial_fixpoint
def R4 (p1:List aR) (p0:aP) (p2:aB) (eH:List aU) (x10:Bool) (x11:Int):Option ((List aU)×Bool) :=
  (some (if (decide (x11<(p2.kids.length:Int)))=true then x10 else false))>>=fun y4=>if y4=true then ((idx p2.kids x11)>>=fun y5=>(rG p0 p1 y5 eH)>>=fun y6=>R4 p1 p0 p2 y6.1 y6.2 (QA .i64 (x11+1))) else (P9 p1 p0 p2 eH x10 0)
  partial_fixpoint
def aIg (p1:List aR) (p0:aP) (p2:aB) (x3:List aU):Option ((List aU)×Bool) :=
  R4 p1 p0 p2 x3 true 0
  partial_fixpoint
def rG (p0:aP) (p1:List aR) (p2:aB) (p3:List aU):Option ((List aU)×Bool) :=
  if (decide (p2.kind=2))=true then ((aGn p1 p2)>>=fun y1=>(appG 56 p3 ([y1]:List aU))>>=fun y2=>aIg p1 p0 p2 y2) else (aIg p1 p0 p2 p3)
  partial_fixpoint
def aBk (p2:List aB) (p0:aP) (x1:List aR) (x3:List aU) (x10:Bool) (x11:Int):Option ((List aU)×Bool) :=
  (some (if (decide (x11<(p2.length:Int)))=true then x10 else false))>>=fun y1=>if y1=true then ((idx p2 x11)>>=fun y2=>(rG p0 x1 y2 x3)>>=fun y3=>aBk p2 p0 x1 y3.1 y3.2 (QA .i64 (x11+1))) else (some (x3,x10))
  partial_fixpoint
def zM (p0:aP) (p1:List aR) (p2:List aB) (p3:List aU):Option ((List aU)×Bool) :=
  aBk p2 p0 p1 p3 true 0
  partial_fixpoint
end
mutual
def aG2 (eT:Bool) (x18:List aR) (x20:Int) (y26:List Int) (p0:aP) (p2:aL) (y1:aR×Int×(List UInt8)) (qA:List aU) (x22:Int):Option ((List aU)×Bool) :=
  if (decide (x22<(y26.length:Int)))=true then ((idx y26 x22)>>=fun y28=>(idx y1.1.names y28)>>=fun y29=>(idx y26 x22)>>=fun y30=>(appG 56 qA ([(aU.mk y29.qual y29.name 1 0 y30)]:List aU))>>=fun y31=>aG2 eT x18 x20 y26 p0 p2 y1 y31 (QA .i64 (x22+1))) else (aJq x18 x20 p0 p2 y1 qA eT)
  partial_fixpoint
def aJq (x18:List aR) (x20:Int) (p0:aP) (p2:aL) (y1:aR×Int×(List UInt8)) (kM:List aU) (kR:Bool):Option ((List aU)×Bool) :=
  aIy x18 p0 p2 y1 kM kR (QA .i64 (x20+1))
  partial_fixpoint
def aIy (x18:List aR) (p0:aP) (p2:aL) (y1:aR×Int×(List UInt8)) (jA:List aU) (eT:Bool) (x20:Int):Option ((List aU)×Bool) :=
  (some (if (decide (x20<(p2.items.length:Int)))=true then eT else false))>>=fun y19=>if y19=true then ((idx p2.items x20)>>=fun y20=>if (!y20.star)=true then ((idx p2.items x20)>>=fun y21=>(rG p0 x18 y21.expr jA)>>=fun y22=>aJq x18 x20 p0 p2 y1 y22.1 y22.2) else ((idx p2.items x20)>>=fun y25=>(aEl y1.1 y25.qual)>>=fun y26=>aG2 eT x18 x20 y26 p0 p2 y1 jA 0)) else (some (jA,eT))
  partial_fixpoint
end
def aFf (x18:List aR) (p0:aP) (p2:aL) (y1:aR×Int×(List UInt8)) (kL:List aU) (jY:Bool) (x19:Int):Option ((List aU)×Bool) :=
  (some (if (decide (x19<(p2.order.length:Int)))=true then jY else false))>>=fun y14=>if y14=true then ((idx p2.order x19)>>=fun y15=>(rG p0 x18 y15.expr kL)>>=fun y16=>aFf x18 p0 p2 y1 y16.1 y16.2 (QA .i64 (x19+1))) else (aIy x18 p0 p2 y1 kL jY 0)
  partial_fixpoint
def aK5 (p0:aP) (p2:aL) (y1:aR×Int×(List UInt8)) (nE:List aU) (nJ:Bool) (x18:List aR):Option ((List aU)×Bool) :=
  aFf x18 p0 p2 y1 nE nJ 0
def aF4 (p1:List aR) (p0:aP) (p2:aL) (y1:aR×Int×(List UInt8)) (x3:List aU) (x13:Bool) (x14:Int):Option ((List aU)×Bool) :=
  (some (if (decide (x14<(p2.from_.length:Int)))=true then x13 else false))>>=fun y2=>if y2=true then ((nR p2.from_ 0 (QA .i64 (x14+1)))>>=fun y3=>(I8 p0 y3)>>=fun y4=>(zB y4.1 p1)>>=fun y5=>(idx p2.from_ x14)>>=fun y6=>(zM p0 y5 y6.on_ x3)>>=fun y7=>aF4 p1 p0 p2 y1 y7.1 y7.2 (QA .i64 (x14+1))) else ((zB y1.1 p1)>>=fun y8=>if x13=true then ((zM p0 y8 p2.where_ x3)>>=fun y9=>aK5 p0 p2 y1 y9.1 y9.2 y8) else (aK5 p0 p2 y1 x3 x13 y8))
  partial_fixpoint
def aFb (p0:aP) (p1:List aR) (p2:aL) (p3:List aU):Option ((List aU)×Bool) :=
  (I8 p0 p2.from_)>>=fun y1=>if (!decide (y1.2.1=0))=true then (some (p3,false)) else (aF4 p1 p0 p2 y1 p3 true 0)
def uO (p0:List UInt8):Option Bool :=
  (if (true&&((decide (p0=[]))==false))=true then pI p0 else some default)>>=fun y1=>(some (if (decide (p0=[]))=true then true else y1))>>=fun y2=>some y2
def aAv (p0:aL) (vH:List aB) (x6:Int):Option (List aB) :=
  if (decide (x6<(p0.order.length:Int)))=true then ((idx p0.order x6)>>=fun y10=>(appG 136 vH ([y10.expr]:List aB))>>=fun y11=>aAv p0 y11 (QA .i64 (x6+1))) else (some vH)
  partial_fixpoint
def aC4 (p0:aL) (xQ:List aB) (x5:Int):Option (List aB) :=
  if (decide (x5<(p0.from_.length:Int)))=true then ((idx p0.from_ x5)>>=fun y6=>(appG 136 xQ y6.on_)>>=fun y7=>aC4 p0 y7 (QA .i64 (x5+1))) else ((appG 136 xQ p0.where_)>>=fun y8=>aAv p0 y8 0)
  partial_fixpoint
mutual
def aHc (x4:Int) (p0:aL) (dI:List aB):Option (List aB) :=
  aJb p0 dI (QA .i64 (x4+1))
  partial_fixpoint
def aJb (p0:aL) (x3:List aB) (x4:Int):Option (List aB) :=
  if (decide (x4<(p0.items.length:Int)))=true then ((idx p0.items x4)>>=fun y1=>if (!y1.star)=true then ((idx p0.items x4)>>=fun y2=>(appG 136 x3 ([y2.expr]:List aB))>>=fun y3=>aHc x4 p0 y3) else (aHc x4 p0 x3)) else (aC4 p0 x3 0)
  partial_fixpoint
end
def aEt (p0:aL):Option (List aB) :=
  aJb p0 ([]:List aB) 0
def aJt (p0:bP):Option Bool :=
  if (decide (p0.kind=0))=true then ((some (if (decide (p0.num=0))=true then (decide (p0.text=[])) else false))>>=fun y1=>some y1) else (if (decide (p0.kind=1))=true then (some (decide (p0.text=[]))) else (if (decide (p0.kind=2))=true then ((some (if (decide (p0.num=0))=true then (decide ((p0.text.length:Int)≤200)) else false))>>=fun y2=>some y2) else (if (decide (p0.kind=3))=true then ((kW p0.num 0 1)>>=fun y3=>(some (if y3=true then (decide (p0.text=[])) else false))>>=fun y4=>some y4) else (some false))))
def aCc (p0:bP):Option Bool :=
  (aJt p0)>>=fun y1=>(if (true&&(y1==true))=true then some (if (!decide (p0.kind=1))=true then true else (decide (0≤p0.num))) else some default)>>=fun y2=>(some (if y1=true then y2 else false))>>=fun y3=>(some (if y3=true then (decide ((p0.text.length:Int)≤40)) else false))>>=fun y4=>some y4
def zH (p0:aB):Option Bool :=
  (if (true&&((!decide (p0.kind=2))==true))=true then some (if (!decide (p0.qual=[]))=true then true else (!decide (p0.name=[]))) else some default)>>=fun y1=>(some (if (!decide (p0.kind=2))=true then y1 else false))>>=fun y2=>(if (true&&(y2==false))=true then some (if (!decide (p0.kind=1))=true then (!((decide (p0.value.kind=0))&&((decide (p0.value.num=0))&&((decide (p0.value.text=[]))&&true)))) else false) else some default)>>=fun y3=>(some (if y2=true then true else y3))>>=fun y4=>if y4=true then (some false) else ((some (if (!decide (p0.kind=3))=true then (!decide (p0.kind=4)) else false))>>=fun y5=>(some (if y5=true then (!decide (p0.op=0)) else false))>>=fun y6=>(if ((true&&(y6==false))&&(p0.not_==true))=true then kW p0.kind 5 8 else some default)>>=fun y7=>(if (true&&(y6==false))=true then some (if p0.not_=true then (!y7) else false) else some default)>>=fun y8=>(some (if y6=true then true else y8))>>=fun y9=>if y9=true then (some false) else (if (decide (p0.kind=1))=true then ((aCc p0.value)>>=fun y10=>(some (if y10=true then (decide ((QA .i64 ((p0.kids.length:Int)+(p0.sub.length:Int)))=0)) else false))>>=fun y11=>some y11) else (if (decide (p0.kind=2))=true then ((pI p0.name)>>=fun y12=>(if (true&&(y12==true))=true then uO p0.qual else some default)>>=fun y13=>(some (if y12=true then y13 else false))>>=fun y14=>(some (if y14=true then (decide ((QA .i64 ((p0.kids.length:Int)+(p0.sub.length:Int)))=0)) else false))>>=fun y15=>some y15) else (if (decide (p0.kind=3))=true then ((some (if (decide (p0.op=15))=true then true else (decide (p0.op=16))))>>=fun y16=>(some (if y16=true then (decide ((p0.kids.length:Int)=1)) else false))>>=fun y17=>(some (if y17=true then (decide ((p0.sub.length:Int)=0)) else false))>>=fun y18=>some y18) else (if (decide (p0.kind=4))=true then ((kW p0.op 1 14)>>=fun y19=>(some (if y19=true then (decide ((p0.kids.length:Int)=2)) else false))>>=fun y20=>(some (if y20=true then (decide ((p0.sub.length:Int)=0)) else false))>>=fun y21=>some y21) else (if (decide (p0.kind=5))=true then ((some (if (decide ((p0.kids.length:Int)=1))=true then (decide ((p0.sub.length:Int)=0)) else false))>>=fun y22=>some y22) else (if (decide (p0.kind=6))=true then ((some (if (decide ((p0.kids.length:Int)=3))=true then (decide ((p0.sub.length:Int)=0)) else false))>>=fun y23=>some y23) else (if (decide (p0.kind=7))=true then ((kW (p0.kids.length:Int) 2 9)>>=fun y24=>(some (if y24=true then (decide ((p0.sub.length:Int)=0)) else false))>>=fun y25=>some y25) else (if (decide (p0.kind=8))=true then ((some (if (decide ((p0.kids.length:Int)=1))=true then (decide ((p0.sub.length:Int)=1)) else false))>>=fun y26=>some y26) else (if (decide (p0.kind=9))=true then ((some (if (decide ((p0.kids.length:Int)=0))=true then (decide ((p0.sub.length:Int)=1)) else false))>>=fun y27=>some y27) else (some false)))))))))))
mutual
def aLz (p0:aL) (p1:aL) (x11:Int):Option Bool :=
  if (decide (x11<(p0.order.length:Int)))=true then ((idx p0.order x11)>>=fun y18=>(idx p1.order x11)>>=fun y19=>(if (true&&((!(y18.desc==y19.desc))==false))=true then idx p0.order x11 else some default)>>=fun y20=>(if (true&&((!(y18.desc==y19.desc))==false))=true then idx p1.order x11 else some default)>>=fun y21=>(if (true&&((!(y18.desc==y19.desc))==false))=true then K8 y20.expr y21.expr else some default)>>=fun y22=>(some (if (!(y18.desc==y19.desc))=true then true else (!y22)))>>=fun y23=>if y23=true then (some false) else (aLz p0 p1 (QA .i64 (x11+1)))) else (some true)
  partial_fixpoint
def aT3 (p0:aL) (p1:aL) (x8:Int):Option Bool :=
  if (decide (x8<(p0.from_.length:Int)))=true then ((idx p0.from_ x8)>>=fun y13=>(idx p1.from_ x8)>>=fun y14=>(some (if (!decide (y13.table=y14.table))=true then true else (!decide (y13.as_=y14.as_))))>>=fun y15=>(if (true&&(y15==false))=true then aEw y13.on_ y14.on_ else some default)>>=fun y16=>(some (if y15=true then true else (!y16)))>>=fun y17=>if y17=true then (some false) else (aT3 p0 p1 (QA .i64 (x8+1)))) else (aLz p0 p1 0)
  partial_fixpoint
def aQ5 (p0:aL) (p1:aL) (x5:Int):Option Bool :=
  if (decide (x5<(p0.items.length:Int)))=true then ((idx p0.items x5)>>=fun y7=>(idx p1.items x5)>>=fun y8=>(some (if (!(y7.star==y8.star))=true then true else (!decide (y7.qual=y8.qual))))>>=fun y9=>(some (if y9=true then true else (!decide (y7.as_=y8.as_))))>>=fun y10=>(if (true&&(y10==false))=true then K8 y7.expr y8.expr else some default)>>=fun y11=>(some (if y10=true then true else (!y11)))>>=fun y12=>if y12=true then (some false) else (aQ5 p0 p1 (QA .i64 (x5+1)))) else (aT3 p0 p1 0)
  partial_fixpoint
def bG8 (p0:aL) (p1:aL):Option Bool :=
  (some (if (!(p0.distinct==p1.distinct))=true then true else (!decide (p0.limit=p1.limit))))>>=fun y1=>(some (if y1=true then true else (!decide ((p0.items.length:Int)=(p1.items.length:Int)))))>>=fun y2=>(some (if y2=true then true else (!decide ((p0.from_.length:Int)=(p1.from_.length:Int)))))>>=fun y3=>(some (if y3=true then true else (!decide ((p0.order.length:Int)=(p1.order.length:Int)))))>>=fun y4=>(if (true&&(y4==false))=true then aEw p0.where_ p1.where_ else some default)>>=fun y5=>(some (if y4=true then true else (!y5)))>>=fun y6=>if y6=true then (some false) else (aQ5 p0 p1 0)
  partial_fixpoint
def aJz (p0:aB) (p1:aB) (x5:Int):Option Bool :=
  if (decide (x5<(p0.sub.length:Int)))=true then ((idx p0.sub x5)>>=fun y9=>(idx p1.sub x5)>>=fun y10=>(bG8 y9 y10)>>=fun y11=>if (!y11)=true then (some false) else (aJz p0 p1 (QA .i64 (x5+1)))) else (some true)
  partial_fixpoint
def aMl (p0:List aB) (p1:List aB) (x5:Int):Option Bool :=
  if (decide (x5<(p0.length:Int)))=true then ((idx p0 x5)>>=fun y1=>(idx p1 x5)>>=fun y2=>(K8 y1 y2)>>=fun y3=>if (!y3)=true then (some false) else (aMl p0 p1 (QA .i64 (x5+1)))) else (some true)
  partial_fixpoint
def aEw (p0:List aB) (p1:List aB):Option Bool :=
  if (!decide ((p0.length:Int)=(p1.length:Int)))=true then (some false) else (aMl p0 p1 0)
  partial_fixpoint
def K8 (p0:aB) (p1:aB):Option Bool :=
  (some (if (!decide (p0.kind=p1.kind))=true then true else (!decide (p0.op=p1.op))))>>=fun y1=>(some (if y1=true then true else (!(p0.not_==p1.not_))))>>=fun y2=>(some (if y2=true then true else (!((decide (p0.value.kind=p1.value.kind))&&((decide (p0.value.num=p1.value.num))&&((decide (p0.value.text=p1.value.text))&&true))))))>>=fun y3=>(some (if y3=true then true else (!decide (p0.qual=p1.qual))))>>=fun y4=>(some (if y4=true then true else (!decide (p0.name=p1.name))))>>=fun y5=>(some (if y5=true then true else (!decide ((p0.sub.length:Int)=(p1.sub.length:Int)))))>>=fun y6=>(if (true&&(y6==false))=true then aEw p0.kids p1.kids else some default)>>=fun y7=>(some (if y6=true then true else (!y7)))>>=fun y8=>if y8=true then (some false) else (aJz p0 p1 0)
  partial_fixpoint
end
mutual
def G8 (p0:aB) (x3:Int):Option Bool :=
  if (decide (x3<(p0.kids.length:Int)))=true then ((idx p0.kids x3)>>=fun y2=>(nH y2)>>=fun y3=>if (!y3)=true then (some false) else (G8 p0 (QA .i64 (x3+1)))) else ((if (true&&((decide ((p0.sub.length:Int)=0))==false))=true then idx p0.sub 0 else some default)>>=fun y4=>(if (true&&((decide ((p0.sub.length:Int)=0))==false))=true then rV y4 else some default)>>=fun y5=>(some (if (decide ((p0.sub.length:Int)=0))=true then true else y5))>>=fun y6=>some y6)
  partial_fixpoint
def nH (p0:aB):Option Bool :=
  (zH p0)>>=fun y1=>if (!y1)=true then (some false) else (G8 p0 0)
  partial_fixpoint
def F4 (y24:List aB) (x8:Int):Option Bool :=
  if (decide (x8<(y24.length:Int)))=true then ((idx y24 x8)>>=fun y25=>(nH y25)>>=fun y26=>if (!y26)=true then (some false) else (F4 y24 (QA .i64 (x8+1)))) else (some true)
  partial_fixpoint
def zF (p0:aL) (x5:Int):Option Bool :=
  if (decide (x5<(p0.from_.length:Int)))=true then ((idx p0.from_ x5)>>=fun y17=>(pI y17.table)>>=fun y18=>(if (true&&((!y18)==false))=true then uO y17.as_ else some default)>>=fun y19=>(some (if (!y18)=true then true else (!y19)))>>=fun y20=>(some (if y20=true then true else (decide (1<(y17.on_.length:Int)))))>>=fun y21=>(if (true&&(y21==false))=true then some (if (decide (x5=0))=true then (decide (0<(y17.on_.length:Int))) else false) else some default)>>=fun y22=>(some (if y21=true then true else y22))>>=fun y23=>if y23=true then (some false) else (zF p0 (QA .i64 (x5+1)))) else ((aEt p0)>>=fun y24=>F4 y24 0)
  partial_fixpoint
def zK (p0:aL) (x3:Int):Option Bool :=
  if (decide (x3<(p0.items.length:Int)))=true then ((idx p0.items x3)>>=fun y7=>(if (true&&(y7.star==true))=true then uO y7.qual else some default)>>=fun y8=>(if (true&&(y7.star==true))=true then some (if (!y8)=true then true else (!decide (y7.as_=[]))) else some default)>>=fun y9=>(if ((true&&(y7.star==true))&&(y9==false))=true then K8 y7.expr (aB.mk 0 0 false (bP.mk 0 0 []) [] [] ([]:List aB) ([]:List aL)) else some default)>>=fun y10=>(if (true&&(y7.star==true))=true then some (if y9=true then true else (!y10)) else some default)>>=fun y11=>(some (if y7.star=true then y11 else false))>>=fun y12=>(if (((true&&(y12==false))&&((!y7.star)==true))&&((!decide (y7.qual=[]))==false))=true then uO y7.as_ else some default)>>=fun y13=>(if ((true&&(y12==false))&&((!y7.star)==true))=true then some (if (!decide (y7.qual=[]))=true then true else (!y13)) else some default)>>=fun y14=>(if (true&&(y12==false))=true then some (if (!y7.star)=true then y14 else false) else some default)>>=fun y15=>(some (if y12=true then true else y15))>>=fun y16=>if y16=true then (some false) else (zK p0 (QA .i64 (x3+1)))) else (zF p0 0)
  partial_fixpoint
def rV (p0:aL):Option Bool :=
  (kW (p0.items.length:Int) 1 12)>>=fun y1=>(if (true&&((!y1)==false))=true then kW (p0.from_.length:Int) 1 3 else some default)>>=fun y2=>(some (if (!y1)=true then true else (!y2)))>>=fun y3=>(some (if y3=true then true else (decide (1<(p0.where_.length:Int)))))>>=fun y4=>(some (if y4=true then true else (decide (12<(p0.order.length:Int)))))>>=fun y5=>(some (if y5=true then true else (decide (p0.limit<(-1)))))>>=fun y6=>if y6=true then (some false) else (zK p0 0)
  partial_fixpoint
end
def rX (p0:Int) (p1:Int):Option Int :=
  if (decide (p1<p0))=true then (some p0) else (some p1)
mutual
def aCi (p0:aB) (dI:Int) (x5:Int):Option Int :=
  if (decide (x5<(p0.sub.length:Int)))=true then ((idx p0.sub x5)>>=fun y5=>(aBp y5)>>=fun y6=>(rX dI y6)>>=fun y7=>aCi p0 y7 (QA .i64 (x5+1))) else (some (QA .i64 (dI+1)))
  partial_fixpoint
def aJm (p0:aB) (x3:Int) (x4:Int):Option Int :=
  if (decide (x4<(p0.kids.length:Int)))=true then ((idx p0.kids x4)>>=fun y1=>(xZ y1)>>=fun y2=>(rX x3 y2)>>=fun y3=>aJm p0 y3 (QA .i64 (x4+1))) else (aCi p0 x3 0)
  partial_fixpoint
def xZ (p0:aB):Option Int :=
  aJm p0 0 0
  partial_fixpoint
def aK4 (y1:List aB) (x3:Int) (x5:Int):Option Int :=
  if (decide (x5<(y1.length:Int)))=true then ((idx y1 x5)>>=fun y2=>(xZ y2)>>=fun y3=>(rX x3 y3)>>=fun y4=>aK4 y1 y4 (QA .i64 (x5+1))) else (some x3)
  partial_fixpoint
def aBp (p0:aL):Option Int :=
  (aEt p0)>>=fun y1=>aK4 y1 0 0
  partial_fixpoint
end
mutual
def aD8 (p0:aB) (eH:Int) (x5:Int):Option Int :=
  if (decide (x5<(p0.sub.length:Int)))=true then ((idx p0.sub x5)>>=fun y4=>(aBo y4)>>=fun y5=>aD8 p0 (QA .i64 (eH+y5)) (QA .i64 (x5+1))) else (some eH)
  partial_fixpoint
def aJd (p0:aB) (x3:Int) (x4:Int):Option Int :=
  if (decide (x4<(p0.kids.length:Int)))=true then ((idx p0.kids x4)>>=fun y1=>(xG y1)>>=fun y2=>aJd p0 (QA .i64 (x3+y2)) (QA .i64 (x4+1))) else (aD8 p0 x3 0)
  partial_fixpoint
def xG (p0:aB):Option Int :=
  aJd p0 1 0
  partial_fixpoint
def aJx (y1:List aB) (x3:Int) (x5:Int):Option Int :=
  if (decide (x5<(y1.length:Int)))=true then ((idx y1 x5)>>=fun y2=>(xG y2)>>=fun y3=>aJx y1 (QA .i64 (x3+y3)) (QA .i64 (x5+1))) else (some x3)
  partial_fixpoint
def aBo (p0:aL):Option Int :=
  (aEt p0)>>=fun y1=>aJx y1 0 0
  partial_fixpoint
end
def aFo (p0:aL):Option Bool :=
  (rV p0)>>=fun y1=>(if (true&&(y1==true))=true then aBp p0 else some default)>>=fun y2=>(some (if y1=true then (decide (y2≤24)) else false))>>=fun y3=>(if (true&&(y3==true))=true then aBo p0 else some default)>>=fun y4=>(some (if y3=true then (decide (y4≤200)) else false))>>=fun y5=>some y5
def aKy (p0:aP) (p1:aL):Option ((List aU)×Bool) :=
  (aHr p0)>>=fun y1=>(if (true&&((!y1)==false))=true then aFo p1 else some default)>>=fun y2=>(some (if (!y1)=true then true else (!y2)))>>=fun y3=>if y3=true then (some (([]:List aU),false)) else ((aFb p0 ([]:List aR) p1 ([]:List aU))>>=fun y4=>if (!y4.2)=true then (some (([]:List aU),false)) else (some (y4.1,true)))
def aKn (p0:aP) (p1:aL):Option Bool :=
  (aKy p0 p1)>>=fun y1=>aB1 y1 y1.2 0
def K6 (eY:List bM) (aV:List Int) (aZ:Int) (bD:Int):Option (aP×aA) :=
  some ((aP.mk eY),(aA.mk aV aZ bD))
mutual
def aBn (x0:Int) (p0:Int) (x4:List UInt8) (x5:Int):Option (List UInt8) :=
  (ofBytes ([(QA .u8 (QA .i64 (48+x5)))]:List Int))>>=fun y2=>(oG y2 x4)>>=fun y3=>X0 p0 (QA .i64 (QF x0 10)) y3
  partial_fixpoint
def X0 (p0:Int) (x0:Int) (x4:List UInt8):Option (List UInt8) :=
  if (!decide (x0=0))=true then (if (decide ((QC x0 10)<0))=true then (aBn x0 p0 x4 (QA .i64 (0 - (QC x0 10)))) else (aBn x0 p0 x4 (QC x0 10))) else (if (decide (p0<0))=true then ((oG [45] x4)>>=fun y1=>some y1) else (some x4))
  partial_fixpoint
end
def V3 (p0:Int):Option (List UInt8) :=
  if (decide (p0=0))=true then (some [48]) else (X0 p0 p0 [])
def aM0 (p0:aA) (x3:Int) (aZ:Int):Option (Int×aA) :=
  some (x3,(aA.mk p0.b aZ (QA .i64 ((QA .i64 (p0.h * 6364136223846793005))+1442695040888963407))))
def I5 (p0:aA):Option (Int×aA) :=
  if (decide (p0.i<(p0.b.length:Int)))=true then ((idx p0.b p0.i)>>=fun y1=>aM0 p0 (QA .i64 ((BitVec.ofInt (QB .i64) (QA .i64 ((QA .i64 ((BitVec.ofInt (QB .i64) (QA .i64 ((BitVec.ofInt (QB .i64) (QE (QA .i64 ((QA .i64 (p0.h * 6364136223846793005))+1442695040888963407)) (2 ^ 33)) ^^^ BitVec.ofInt (QB .i64) (QE (QA .i64 ((QA .i64 (p0.h * 6364136223846793005))+1442695040888963407)) (2 ^ 45))).toNat:Int)) &&& BitVec.ofInt (QB .i64) 255).toNat:Int))+(QA .i64 y1))) &&& BitVec.ofInt (QB .i64) 255).toNat:Int)) (QA .i64 (p0.i+1))) else (aM0 p0 (QA .i64 ((BitVec.ofInt (QB .i64) (QA .i64 ((BitVec.ofInt (QB .i64) (QE (QA .i64 ((QA .i64 (p0.h * 6364136223846793005))+1442695040888963407)) (2 ^ 33)) ^^^ BitVec.ofInt (QB .i64) (QE (QA .i64 ((QA .i64 (p0.h * 6364136223846793005))+1442695040888963407)) (2 ^ 45))).toNat:Int)) &&& BitVec.ofInt (QB .i64) 255).toNat:Int)) p0.i)
def iV (p0:aA) (p1:Int):Option (Int×aA) :=
  if (decide (p1≤0))=true then (some (0,p0)) else (if (decide (p1≤256))=true then ((I5 p0)>>=fun y1=>(aHv y1.1 p1)>>=fun y2=>some (y2,y1.2)) else ((I5 p0)>>=fun y3=>(I5 y3.2)>>=fun y4=>(I5 y4.2)>>=fun y5=>(I5 y5.2)>>=fun y6=>(aHv (QA .i64 ((QA .i64 ((QA .i64 ((QA .i64 (y3.1 * 16777216))+(QA .i64 (y4.1 * 65536))))+(QA .i64 (y5.1 * 256))))+y6.1)) p1)>>=fun y7=>some (y7,y6.2)))
def aAf (yC:List Int) (yS:Int) (yT:Int) (nZ:List bM):Option (aP×aA) :=
  (iV (aA.mk yC yS yT) 2)>>=fun y15=>if (decide ((nZ.length:Int)<(QA .i64 (4+y15.1))))=true then ((V3 (nZ.length:Int))>>=fun y16=>(oG [120] y16)>>=fun y17=>(appG 40 nZ ([(bM.mk y17 ([(dZ.mk [97] 1),(dZ.mk [98] 1),(dZ.mk [99] 2),(dZ.mk [100] 3)]:List dZ))]:List bM))>>=fun y18=>aAf y15.2.b y15.2.i y15.2.h y18) else (K6 nZ y15.2.b y15.2.i y15.2.h)
  partial_fixpoint
def iC (p0:aA) (p1:Int):Option (Bool×aA) :=
  (iV p0 p1)>>=fun y1=>some ((decide (y1.1=0)),y1.2)
def pG (p0:aA) (p1:List (List UInt8)):Option ((List UInt8)×aA) :=
  (iV p0 (p1.length:Int))>>=fun y1=>(idx p1 y1.1)>>=fun y2=>some (y2,y1.2)
def I4 (p0:aA) (p1:List Int):Option (Int×aA) :=
  (iV p0 (p1.length:Int))>>=fun y1=>(idx p1 y1.1)>>=fun y2=>some (y2,y1.2)
def H8 (p0:aA):Option ((List UInt8)×aA) :=
  (iC p0 6)>>=fun y1=>if y1.1=true then ((pG y1.2 ([[97,32,98],[102,114,111,109],[83,101,108,101,99,116],[49,120],[113,34,113],[0],[34],[105,116,39,115],[120,46,121],[45]]:List (List UInt8)))>>=fun y2=>some (y2.1,y2.2)) else ((pG y1.2 ([[97],[98],[99],[116],[117],[118],[105,100],[110,97,109,101],[65],[95,120,49]]:List (List UInt8)))>>=fun y3=>some (y3.1,y3.2))
mutual
def aF0 (y1:Int×aA) (x6:Int) (y3:Int×aA) (x9:Int) (y2:List UInt8) (oI:List Int) (pV:Int×Int×(List bM)×(((List (List UInt8))×(List dZ)))):Option (aP×aA) :=
  aDw y1 x6 y3 y2 pV.2.2.1 pV.2.2.2.1 ((QA .i64 (x9+1)),oI,pV.1,pV.2.1,pV.2.2.2.2)
  partial_fixpoint
def aJ5 (y1:Int×aA) (x6:Int) (y3:Int×aA) (x9:Int) (y2:List UInt8) (y8:Int×aA) (uV:List dZ) (lQ:(List bM)×(((List (List UInt8))×(List UInt8)×(List Int)×Int×Int))):Option (aP×aA) :=
  (G9 (bM.mk y2 uV) lQ.2.2.1)>>=fun y15=>if (decide (y15<0))=true then ((appG 24 uV ([(dZ.mk lQ.2.2.1 y8.1)]:List dZ))>>=fun y16=>aF0 y1 x6 y3 x9 y2 lQ.2.2.2.1 (lQ.2.2.2.2.1,lQ.2.2.2.2.2,lQ.1,lQ.2.1,y16)) else (aF0 y1 x6 y3 x9 y2 lQ.2.2.2.1 (lQ.2.2.2.2.1,lQ.2.2.2.2.2,lQ.1,lQ.2.1,uV))
  partial_fixpoint
def aDw (y1:Int×aA) (x6:Int) (y3:Int×aA) (y2:List UInt8) (lF:List bM) (kN:List (List UInt8)) (kx9:Int×(List Int)×Int×Int×(List dZ)):Option (aP×aA) :=
  if (decide (kx9.1<(QA .i64 (1+y3.1))))=true then ((pG (aA.mk kx9.2.1 kx9.2.2.1 kx9.2.2.2.1) ([[97],[98],[99],[105,100],[110,97,109,101]]:List (List UInt8)))>>=fun y7=>(I4 y7.2 ([1,1,2,3]:List Int))>>=fun y8=>(iC y8.2 20)>>=fun y9=>if y9.1=true then ((H8 y9.2)>>=fun y10=>aJ5 y1 x6 y3 kx9.1 y2 y8 kx9.2.2.2.2 (lF,kN,y10.1,y10.2.b,y10.2.i,y10.2.h)) else (aJ5 y1 x6 y3 kx9.1 y2 y8 kx9.2.2.2.2 (lF,kN,y7.1,y9.2.b,y9.2.i,y9.2.h))) else ((appG 40 lF ([(bM.mk y2 kx9.2.2.2.2)]:List bM))>>=fun y14=>aBa y1 (QA .i64 (x6+1)) kx9.2.1 kx9.2.2.1 kx9.2.2.2.1 y14 (kN.set (x6).toNat y2))
  partial_fixpoint
def aBa (y1:Int×aA) (x6:Int) (aV:List Int) (aZ:Int) (bD:Int) (lF:List bM) (kN:List (List UInt8)):Option (aP×aA) :=
  if (decide (x6<(QA .i64 (1+y1.1))))=true then ((idx kN x6)>>=fun y2=>(iV (aA.mk aV aZ bD) 3)>>=fun y3=>aDw y1 x6 y3 y2 lF kN (0,y3.2.b,y3.2.i,y3.2.h,([]:List dZ))) else (some ((aP.mk lF),(aA.mk aV aZ bD)))
  partial_fixpoint
end
def aLr (p0:aA):Option (aP×aA) :=
  (iV p0 3)>>=fun y1=>aBa y1 0 y1.2.b y1.2.i y1.2.h ([]:List bM) ([[116],[117],[118]]:List (List UInt8))
def aCt (p1:Int) (x5:List Int) (x6:Int) (aV:List Int) (aZ:Int) (bD:Int):Option ((List Int)×aA) :=
  if (decide (x6<p1))=true then ((I5 (aA.mk aV aZ bD))>>=fun y1=>(appG 1 x5 ([(QA .u8 y1.1)]:List Int))>>=fun y2=>aCt p1 y2 (QA .i64 (x6+1)) y1.2.b y1.2.i y1.2.h) else (some (x5,(aA.mk aV aZ bD)))
  partial_fixpoint
def bDu (p0:aA) (p1:Int):Option ((List Int)×aA) :=
  aCt p1 ([]:List Int) 0 p0.b p0.i p0.h
def bD3:Option (List (List UInt8)) :=
  some ([[],[83,69,76,69,67,84],[68,73,83,84,73,78,67,84],[70,82,79,77],[74,79,73,78],[79,78],[87,72,69,82,69],[79,82,68,69,82],[66,89],[65,83,67],[68,69,83,67],[76,73,77,73,84],[65,83],[65,78,68],[79,82],[78,79,84],[73,83],[73,78],[66,69,84,87,69,69,78],[69,88,73,83,84,83],[78,85,76,76],[84,82,85,69],[70,65,76,83,69],[73,78,83,69,82,84],[73,78,84,79],[86,65,76,85,69,83],[85,80,68,65,84,69],[83,69,84],[68,69,76,69,84,69]]:List (List UInt8))
def aJs (p0:aA):Option ((List UInt8)×aA) :=
  (iV p0 6)>>=fun y1=>if (decide (y1.1=0))=true then ((pG y1.2 ([[],[97,98,99,100,101,102,103,104,105,106,107,108,109,110,111,112,113,114,115,116],[97,98,99,100,101,102,103,104,105,106,107,108,109,110,111,112,113,114,115,116,117],[108,105,109,105,116],[76,73,77,73,84,83],[65,83,99],[57],[97,57],[195,169]]:List (List UInt8)))>>=fun y2=>some (y2.1,y2.2)) else (if (decide (y1.1=1))=true then ((bD3)>>=fun y3=>(iV y1.2 29)>>=fun y4=>(idx y3 y4.1)>>=fun y5=>some (y5,y4.2)) else (if (decide (y1.1=2))=true then ((iV y1.2 5)>>=fun y6=>(bDu y6.2 y6.1)>>=fun y7=>(ofBytes y7.1)>>=fun y8=>some (y8,y7.2)) else ((H8 y1.2)>>=fun y9=>some (y9.1,y9.2))))
def aKu (p0:aA):Option (aP×aA) :=
  (aLr p0)>>=fun y1=>(iV y1.2 16)>>=fun y2=>if (decide (y2.1=0))=true then ((idx y1.1.tables 0)>>=fun y3=>(appG 40 y1.1.tables ([y3]:List bM))>>=fun y4=>K6 y4 y2.2.b y2.2.i y2.2.h) else (if (decide (y2.1=1))=true then ((idx y1.1.tables 0)>>=fun y5=>(aJs y2.2)>>=fun y6=>(iV y6.2 5)>>=fun y7=>(appG 24 y5.cols ([(dZ.mk y6.1 y7.1)]:List dZ))>>=fun y8=>K6 (y1.1.tables.set (0:Int).toNat (bM.mk y5.name y8)) y7.2.b y7.2.i y7.2.h) else (if (decide (y2.1=2))=true then ((aJs y2.2)>>=fun y9=>(idx y1.1.tables 0)>>=fun y10=>K6 (y1.1.tables.set (0:Int).toNat (bM.mk y9.1 y10.cols)) y9.2.b y9.2.i y9.2.h) else (if (decide (y2.1=3))=true then ((idx y1.1.tables 0)>>=fun y11=>K6 (y1.1.tables.set (0:Int).toNat (bM.mk y11.name ([]:List dZ))) y2.2.b y2.2.i y2.2.h) else (if (decide (y2.1=4))=true then (K6 ([]:List bM) y2.2.b y2.2.i y2.2.h) else (if (decide (y2.1=5))=true then (aAf y2.2.b y2.2.i y2.2.h y1.1.tables) else (K6 y1.1.tables y2.2.b y2.2.i y2.2.h))))))
def aAl (p0:List Int) (x3:Int) (x4:Int):Option aA :=
  (some (if (decide (x4<(p0.length:Int)))=true then (decide (x4<4000)) else false))>>=fun y1=>if y1=true then ((idx p0 x4)>>=fun y2=>aAl p0 (QA .i64 ((BitVec.ofInt (QB .i64) (QA .i64 ((QA .i64 ((QA .i64 (x3 * 131))+(QA .i64 y2)))+7)) &&& BitVec.ofInt (QB .i64) 1073741823).toNat:Int)) (QA .i64 (x4+1))) else (some (aA.mk p0 0 x3))
  partial_fixpoint
def aMj (p0:List Int):Option aA :=
  aAl p0 (QA .i64 (28322+(p0.length:Int))) 0
def aLx (p0:List Int) (p1:Int):Option Int :=
  if (decide (p1<(QA .i64 (2+(QA .i64 (QF (p0.length:Int) 20))))))=true then (some p1) else (some (QA .i64 (2+(QA .i64 (QF (p0.length:Int) 20)))))
def xU (V4:List bM) (fU:Bool) (X9:List aB) (Q5:Int) (nM:List Int) (U5:Int) (O5:Int) (O9:List bG) (Z8:List bI) (X5:List eX):Option (aA×aP×aL) :=
  some ((aA.mk nM U5 O5),(aP.mk V4),(aL.mk fU O9 Z8 X9 X5 Q5))
def aCm (y4:aP×aL×aA) (y5:Int×aA) (qN:List bG):Option (aA×aP×aL) :=
  if (decide ((qN.length:Int)<7))=true then ((appG 176 qN ([(bG.mk true [] (aB.mk 0 0 false (bP.mk 0 0 []) [] [] ([]:List aB) ([]:List aL)) [])]:List bG))>>=fun y14=>aCm y4 y5 y14) else (xU y4.1.tables y4.2.1.distinct y4.2.1.where_ y4.2.1.limit y5.2.b y5.2.i y5.2.h qN y4.2.1.from_ y4.2.1.order)
  partial_fixpoint
def aH8 (p0:Int) (p1:Int):Option (List UInt8) :=
  (V3 p0)>>=fun y1=>(oG [113] y1)>>=fun y2=>(oG y2 [95])>>=fun y3=>(V3 p1)>>=fun y4=>(oG y3 y4)>>=fun y5=>some y5
mutual
def aC7 (p1:List Int) (p2:Int) (x8:Int) (p0:aP) (y2:bM) (uR:List dX) (x10:Int):Option (List dX) :=
  if (decide (x10<(y2.cols.length:Int)))=true then ((aH8 p2 x8)>>=fun y4=>(idx y2.cols x10)>>=fun y5=>(idx y2.cols x10)>>=fun y6=>(appG 40 uR ([(dX.mk y4 y5.name y6.type)]:List dX))>>=fun y7=>aC7 p1 p2 x8 p0 y2 y7 (QA .i64 (x10+1))) else (aF2 p1 p2 p0 uR (QA .i64 (x8+1)))
  partial_fixpoint
def aF2 (p1:List Int) (p2:Int) (p0:aP) (x7:List dX) (x8:Int):Option (List dX) :=
  if (decide (x8<(p1.length:Int)))=true then ((idx p1 x8)>>=fun y1=>(idx p0.tables y1)>>=fun y2=>aC7 p1 p2 x8 p0 y2 x7 0) else (some x7)
  partial_fixpoint
end
def aKw (p0:aP) (p1:List Int) (p2:Int):Option (List dX) :=
  aF2 p1 p2 p0 ([]:List dX) 0
mutual
def I1 (y2:List aR) (p0:aP) (p2:bA) (jZ:List eX) (iG:List bI) (y3:List aB) (x12:Int) (rU:List bG):Option aL :=
  if (decide (x12<(p2.items.length:Int)))=true then ((idx p2.items x12)>>=fun y14=>(E9 p0 y2 y14)>>=fun y15=>(idx p2.names x12)>>=fun y16=>(appG 176 rU ([(bG.mk false [] y15 y16)]:List bG))>>=fun y17=>I1 y2 p0 p2 jZ iG y3 (QA .i64 (x12+1)) y17) else (some (aL.mk p2.distinct rU iG y3 jZ p2.limit))
  partial_fixpoint
def N7 (y2:List aR) (p0:aP) (p2:bA) (iG:List bI) (y3:List aB) (x11:Int) (jZ:List eX):Option aL :=
  if (decide (x11<(p2.order.length:Int)))=true then ((idx p2.order x11)>>=fun y10=>(E9 p0 y2 y10.expr)>>=fun y11=>(idx p2.order x11)>>=fun y12=>(appG 144 jZ ([(eX.mk y11 y12.desc)]:List eX))>>=fun y13=>N7 y2 p0 p2 iG y3 (QA .i64 (x11+1)) y13) else (I1 y2 p0 p2 jZ iG y3 0 ([]:List bG))
  partial_fixpoint
def aBw (p1:List aR) (y2:List aR) (p0:aP) (p2:bA) (y3:List aB) (x10:Int) (iG:List bI):Option aL :=
  if (decide (x10<(p2.tables.length:Int)))=true then ((idx p2.tables x10)>>=fun y4=>(idx p0.tables y4)>>=fun y5=>(aH8 (p1.length:Int) x10)>>=fun y6=>(idx p2.on_ x10)>>=fun y7=>(aC3 p0 y2 y7)>>=fun y8=>(appG 56 iG ([(bI.mk y5.name y6 y8)]:List bI))>>=fun y9=>aBw p1 y2 p0 p2 y3 (QA .i64 (x10+1)) y9) else (N7 y2 p0 p2 iG y3 0 ([]:List eX))
  partial_fixpoint
def aF6 (p1:List aR) (p0:aP) (p2:aJ) (kV:List UInt8) (kY:List UInt8) (y1:List aB) (x9:Int) (rH:List aL):Option aB :=
  if (decide (x9<(p2.sub.length:Int)))=true then ((idx p2.sub x9)>>=fun y4=>(aDx p0 p1 y4)>>=fun y5=>(appG 112 rH ([y5]:List aL))>>=fun y6=>aF6 p1 p0 p2 kV kY y1 (QA .i64 (x9+1)) y6) else (some (aB.mk p2.kind p2.op p2.not_ p2.value kV kY y1 rH))
  partial_fixpoint
def aHh (p1:List aR) (p0:aP) (p2:aJ) (y1:List aB) (kV:List UInt8) (kY:List UInt8):Option aB :=
  aF6 p1 p0 p2 kV kY y1 0 ([]:List aL)
  partial_fixpoint
def E9 (p0:aP) (p1:List aR) (p2:aJ):Option aB :=
  (aC3 p0 p1 p2.kids)>>=fun y1=>if (decide (p2.kind=2))=true then ((idx p1 p2.up)>>=fun y2=>(idx y2.names p2.at_)>>=fun y3=>aHh p1 p0 p2 y1 y3.qual y3.name) else (aHh p1 p0 p2 y1 [] [])
  partial_fixpoint
def aEd (p1:List aR) (p2:List aJ) (p0:aP) (x8:Int) (rP:List aB):Option (List aB) :=
  if (decide (x8<(p2.length:Int)))=true then ((idx p2 x8)>>=fun y1=>(E9 p0 p1 y1)>>=fun y2=>(appG 136 rP ([y2]:List aB))>>=fun y3=>aEd p1 p2 p0 (QA .i64 (x8+1)) y3) else (some rP)
  partial_fixpoint
def aC3 (p0:aP) (p1:List aR) (p2:List aJ):Option (List aB) :=
  aEd p1 p2 p0 0 ([]:List aB)
  partial_fixpoint
def aDx (p0:aP) (p1:List aR) (p2:bA):Option aL :=
  (aKw p0 p2.tables (p1.length:Int))>>=fun y1=>(zB (aR.mk y1) p1)>>=fun y2=>(aC3 p0 y2 p2.where_)>>=fun y3=>aBw p1 y2 p0 p2 y3 0 ([]:List bI)
  partial_fixpoint
end
def U0 (p0:bA) (dI:List aJ) (x5:Int):Option (List aJ) :=
  if (decide (x5<(p0.order.length:Int)))=true then ((idx p0.order x5)>>=fun y5=>(appG 120 dI ([y5.expr]:List aJ))>>=fun y6=>U0 p0 y6 (QA .i64 (x5+1))) else ((appG 120 dI p0.items)>>=fun y7=>some y7)
  partial_fixpoint
def aFr (p0:bA) (x3:List aJ) (x4:Int):Option (List aJ) :=
  if (decide (x4<(p0.on_.length:Int)))=true then ((idx p0.on_ x4)>>=fun y1=>(appG 120 x3 y1)>>=fun y2=>aFr p0 y2 (QA .i64 (x4+1))) else ((appG 120 x3 p0.where_)>>=fun y3=>U0 p0 y3 0)
  partial_fixpoint
def aHm (p0:bA):Option (List aJ) :=
  aFr p0 ([]:List aJ) 0
mutual
def aD7 (p0:aJ) (dI:Int) (x5:Int):Option Int :=
  if (decide (x5<(p0.sub.length:Int)))=true then ((idx p0.sub x5)>>=fun y5=>(aE2 y5)>>=fun y6=>(rX dI y6)>>=fun y7=>aD7 p0 y7 (QA .i64 (x5+1))) else (some (QA .i64 (dI+1)))
  partial_fixpoint
def aH4 (p0:aJ) (x3:Int) (x4:Int):Option Int :=
  if (decide (x4<(p0.kids.length:Int)))=true then ((idx p0.kids x4)>>=fun y1=>(X3 y1)>>=fun y2=>(rX x3 y2)>>=fun y3=>aH4 p0 y3 (QA .i64 (x4+1))) else (aD7 p0 x3 0)
  partial_fixpoint
def X3 (p0:aJ):Option Int :=
  aH4 p0 0 0
  partial_fixpoint
def aDy (y1:List aJ) (x3:Int) (x5:Int):Option Int :=
  if (decide (x5<(y1.length:Int)))=true then ((idx y1 x5)>>=fun y2=>(X3 y2)>>=fun y3=>(rX x3 y3)>>=fun y4=>aDy y1 y4 (QA .i64 (x5+1))) else (some x3)
  partial_fixpoint
def aE2 (p0:bA):Option Int :=
  (aHm p0)>>=fun y1=>aDy y1 0 0
  partial_fixpoint
end
mutual
def aCd (p0:aJ) (eH:Int) (x5:Int):Option Int :=
  if (decide (x5<(p0.sub.length:Int)))=true then ((idx p0.sub x5)>>=fun y4=>(aGh y4)>>=fun y5=>aCd p0 (QA .i64 (eH+y5)) (QA .i64 (x5+1))) else (some eH)
  partial_fixpoint
def aId (p0:aJ) (x3:Int) (x4:Int):Option Int :=
  if (decide (x4<(p0.kids.length:Int)))=true then ((idx p0.kids x4)>>=fun y1=>(V6 y1)>>=fun y2=>aId p0 (QA .i64 (x3+y2)) (QA .i64 (x4+1))) else (aCd p0 x3 0)
  partial_fixpoint
def V6 (p0:aJ):Option Int :=
  aId p0 1 0
  partial_fixpoint
def aGk (y1:List aJ) (x3:Int) (x5:Int):Option Int :=
  if (decide (x5<(y1.length:Int)))=true then ((idx y1 x5)>>=fun y2=>(V6 y2)>>=fun y3=>aGk y1 (QA .i64 (x3+y3)) (QA .i64 (x5+1))) else (some x3)
  partial_fixpoint
def aGh (p0:bA):Option Int :=
  (aHm p0)>>=fun y1=>aGk y1 0 0
  partial_fixpoint
end
def aCx (p0:bM) (x3:List Int) (x4:Int):Option (List Int) :=
  if (decide (x4<(p0.cols.length:Int)))=true then ((idx p0.cols x4)>>=fun y1=>(appG 8 x3 ([y1.type]:List Int))>>=fun y2=>aCx p0 y2 (QA .i64 (x4+1))) else (some x3)
  partial_fixpoint
def aMr (p0:bM):Option (List Int) :=
  aCx p0 ([]:List Int) 0
def aBx (p1:List Int) (p0:aP) (x6:List Int) (x7:Int):Option ((List Int)×Bool) :=
  if (decide (x7<(p1.length:Int)))=true then ((idx p1 x7)>>=fun y1=>(kW y1 0 (QA .i64 ((p0.tables.length:Int) - 1)))>>=fun y2=>if (!y2)=true then (some (([]:List Int),false)) else ((idx p1 x7)>>=fun y3=>(idx p0.tables y3)>>=fun y4=>(aMr y4)>>=fun y5=>(appG 8 x6 y5)>>=fun y6=>aBx p1 p0 y6 (QA .i64 (x7+1)))) else (some (x6,true))
  partial_fixpoint
def Y5 (p0:aP) (p1:List Int):Option ((List Int)×Bool) :=
  aBx p1 p0 ([]:List Int) 0
def P5 (p0:aP) (p1:bA) (x6:Int):Option Bool :=
  if (decide (x6<(p1.names.length:Int)))=true then ((idx p1.names x6)>>=fun y12=>(pI y12)>>=fun y13=>if (!y13)=true then (some false) else (P5 p0 p1 (QA .i64 (x6+1)))) else ((Y5 p0 p1.tables)>>=fun y14=>some y14.2)
  partial_fixpoint
def P7 (p0:aP) (p1:bA) (x5:Int):Option Bool :=
  if (decide (x5<(p1.on_.length:Int)))=true then ((idx p1.on_ x5)>>=fun y11=>if (decide (1<(y11.length:Int)))=true then (some false) else (P7 p0 p1 (QA .i64 (x5+1)))) else (P5 p0 p1 0)
  partial_fixpoint
def aNm (p0:aP) (p1:bA):Option Bool :=
  (kW (p1.tables.length:Int) 1 3)>>=fun y1=>(some (if (!y1)=true then true else (!decide ((p1.on_.length:Int)=(p1.tables.length:Int)))))>>=fun y2=>(if (true&&(y2==false))=true then idx p1.on_ 0 else some default)>>=fun y3=>(some (if y2=true then true else (decide (0<(y3.length:Int)))))>>=fun y4=>(some (if y4=true then true else (decide (1<(p1.where_.length:Int)))))>>=fun y5=>(some (if y5=true then true else (decide (12<(p1.order.length:Int)))))>>=fun y6=>(if (true&&(y6==false))=true then kW (p1.items.length:Int) 1 12 else some default)>>=fun y7=>(some (if y6=true then true else (!y7)))>>=fun y8=>(some (if y8=true then true else (!decide ((p1.names.length:Int)=(p1.items.length:Int)))))>>=fun y9=>(some (if y9=true then true else (decide (p1.limit<(-1)))))>>=fun y10=>if y10=true then (some false) else (P7 p0 p1 0)
def aAs (p0:List Int) (p1:List (List Int)):Option (List (List Int)) :=
  (appG 24 ([p0]:List (List Int)) p1)>>=fun y1=>some y1
def aGa (p0:Int):Option Bool :=
  (some (if (decide (p0=0))=true then true else (decide (p0=3))))>>=fun y1=>some y1
def aMm (p0:aJ) (y3:List aB) (y4:List aL) (rD:List UInt8):Option Bool :=
  (zH (aB.mk p0.kind p0.op p0.not_ p0.value [] rD y3 y4))>>=fun y5=>some y5
def aK1 (p0:aJ):Option Bool :=
  (if (true&&((!decide (p0.kind=2))==true))=true then some (if (!decide (p0.up=0))=true then true else (!decide (p0.at_=0))) else some default)>>=fun y1=>(some (if (!decide (p0.kind=2))=true then y1 else false))>>=fun y2=>if y2=true then (some false) else ((mkG 136 (p0.kids.length:Int) ((aB.mk 0 0 false (bP.mk 0 0 []) [] [] ([]:List aB) ([]:List aL)):aB))>>=fun y3=>(mkG 112 (p0.sub.length:Int) ((aL.mk false ([]:List bG) ([]:List bI) ([]:List aB) ([]:List eX) 0):aL))>>=fun y4=>if (decide (p0.kind=2))=true then (aMm p0 y3 y4 [97]) else (aMm p0 y3 y4 []))
def M7 (p0:Int) (p1:Bool):Option (Int×Bool) :=
  if (!p1)=true then (some (0,false)) else (some (p0,true))
def aHa (p0:Int) (p1:Int):Option Bool :=
  (some (if (decide (p0=0))=true then true else (decide (p0=p1))))>>=fun y1=>some y1
def aIw (p1:Int) (p2:Int) (x10:Int):Option (Int×Bool) :=
  (aHa p1 x10)>>=fun y12=>(if (true&&(y12==true))=true then aHa p2 x10 else some default)>>=fun y13=>(some (if y12=true then y13 else false))>>=fun y14=>(M7 x10 y14)>>=fun y15=>some (y15.1,y15.2)
def aEz (p0:Int):Option Bool :=
  (kW p0 0 3)>>=fun y1=>some y1
def aH9 (p0:Int) (p1:Int):Option (Int×Bool) :=
  (aEz p0)>>=fun y1=>(if (true&&((!y1)==false))=true then aEz p1 else some default)>>=fun y2=>(some (if (!y1)=true then true else (!y2)))>>=fun y3=>if y3=true then (some (0,false)) else (if (decide (p0=0))=true then (some (p1,true)) else ((some (if (decide (p1=0))=true then true else (decide (p0=p1))))>>=fun y4=>if y4=true then (some (p0,true)) else (some (0,false))))
def aKd (p0:Int) (p1:Int) (p2:Int):Option (Int×Bool) :=
  (kW p0 1 14)>>=fun y1=>(if (true&&((!y1)==false))=true then aEz p1 else some default)>>=fun y2=>(some (if (!y1)=true then true else (!y2)))>>=fun y3=>(if (true&&(y3==false))=true then aEz p2 else some default)>>=fun y4=>(some (if y3=true then true else (!y4)))>>=fun y5=>if y5=true then (some (0,false)) else (if (decide (p0≤2))=true then ((aGa p1)>>=fun y6=>(if (true&&(y6==true))=true then aGa p2 else some default)>>=fun y7=>(some (if y6=true then y7 else false))>>=fun y8=>(M7 3 y8)>>=fun y9=>some (y9.1,y9.2)) else (if (decide (p0≤8))=true then ((aH9 p1 p2)>>=fun y10=>(M7 3 y10.2)>>=fun y11=>some (y11.1,y11.2)) else (if (decide (p0=9))=true then (aIw p1 p2 2) else (aIw p1 p2 1))))
def aC0 (p0:List Int) (x3:Int) (x4:Int):Option Bool :=
  if (decide (x4<(p0.length:Int)))=true then ((idx p0 x4)>>=fun y1=>(aH9 x3 y1)>>=fun y2=>if (!y2.2)=true then (some false) else (aC0 p0 y2.1 (QA .i64 (x4+1)))) else (some true)
  partial_fixpoint
def aOe (p0:List Int):Option Bool :=
  aC0 p0 0 0
def aDs (p2:aJ) (aAt:List Int):Option (Int×Bool) :=
  if (decide (p2.kind=5))=true then (some (3,true)) else ((aOe aAt)>>=fun y23=>(M7 3 y23)>>=fun y24=>some (y24.1,y24.2))
def aN9 (p0:Int) (p1:Int):Option (Int×Bool) :=
  if (decide (p0=15))=true then ((aGa p1)>>=fun y1=>(M7 3 y1)>>=fun y2=>some (y2.1,y2.2)) else (if (decide (p0=16))=true then ((aHa p1 1)>>=fun y3=>(M7 1 y3)>>=fun y4=>some (y4.1,y4.2)) else (some (0,false)))
mutual
def Y0 (y8:List (List Int)) (p0:aP) (p2:bA) (x17:List Int) (x18:Int):Option ((List Int)×Bool) :=
  if (decide (x18<(p2.items.length:Int)))=true then ((idx p2.items x18)>>=fun y12=>(aAx p0 y8 y12)>>=fun y13=>if (!y13.2)=true then (some (([]:List Int),false)) else ((appG 8 x17 ([y13.1]:List Int))>>=fun y14=>Y0 y8 p0 p2 y14 (QA .i64 (x18+1)))) else (some (x17,true))
  partial_fixpoint
def aA4 (y8:List (List Int)) (p0:aP) (p2:bA) (x14:Int):Option ((List Int)×Bool) :=
  if (decide (x14<(p2.order.length:Int)))=true then ((idx p2.order x14)>>=fun y10=>(aAx p0 y8 y10.expr)>>=fun y11=>if (!y11.2)=true then (some (([]:List Int),false)) else (aA4 y8 p0 p2 (QA .i64 (x14+1)))) else (Y0 y8 p0 p2 ([]:List Int) 0)
  partial_fixpoint
def aF8 (p1:List (List Int)) (p0:aP) (p2:aJ) (x8:List Int) (x9:Int):Option (Int×Bool) :=
  if (decide (x9<(p2.kids.length:Int)))=true then ((idx p2.kids x9)>>=fun y2=>(aAx p0 p1 y2)>>=fun y3=>if (!y3.2)=true then (some (0,false)) else ((appG 8 x8 ([y3.1]:List Int))>>=fun y4=>aF8 p1 p0 p2 y4 (QA .i64 (x9+1)))) else (if (decide (p2.kind=1))=true then (some (p2.value.kind,true)) else (if (decide (p2.kind=2))=true then ((kW p2.up 0 (QA .i64 ((p1.length:Int) - 1)))>>=fun y5=>(if (true&&((!y5)==false))=true then idx p1 p2.up else some default)>>=fun y6=>(if (true&&((!y5)==false))=true then kW p2.at_ 0 (QA .i64 ((y6.length:Int) - 1)) else some default)>>=fun y7=>(some (if (!y5)=true then true else (!y7)))>>=fun y8=>if y8=true then (some (0,false)) else ((idx p1 p2.up)>>=fun y9=>(idx y9 p2.at_)>>=fun y10=>some (y10,true))) else (if (decide (p2.kind=3))=true then ((idx x8 0)>>=fun y11=>(aN9 p2.op y11)>>=fun y12=>some (y12.1,y12.2)) else (if (decide (p2.kind=4))=true then ((idx x8 0)>>=fun y13=>(idx x8 1)>>=fun y14=>(aKd p2.op y13 y14)>>=fun y15=>some (y15.1,y15.2)) else (if (decide (0<(p2.sub.length:Int)))=true then ((idx p2.sub 0)>>=fun y16=>(aGm p0 p1 y16)>>=fun y17=>(if (true&&((!y17.2)==false))=true then some (if (decide (p2.kind=8))=true then (!decide ((y17.1.length:Int)=1)) else false) else some default)>>=fun y18=>(some (if (!y17.2)=true then true else y18))>>=fun y19=>if y19=true then (some (0,false)) else (if (decide (p2.kind=8))=true then ((idx y17.1 0)>>=fun y20=>(appG 8 x8 ([y20]:List Int))>>=fun y21=>aDs p2 y21) else (aDs p2 x8))) else (aDs p2 x8))))))
  partial_fixpoint
def aAx (p0:aP) (p1:List (List Int)) (p2:aJ):Option (Int×Bool) :=
  (aK1 p2)>>=fun y1=>if (!y1)=true then (some (0,false)) else (aF8 p1 p0 p2 ([]:List Int) 0)
  partial_fixpoint
def aF3 (p1:List (List Int)) (p2:List aJ) (p0:aP) (x7:Int):Option Bool :=
  if (decide (x7<(p2.length:Int)))=true then ((idx p2 x7)>>=fun y1=>(aAx p0 p1 y1)>>=fun y2=>(if (true&&((!y2.2)==false))=true then aGa y2.1 else some default)>>=fun y3=>(some (if (!y2.2)=true then true else (!y3)))>>=fun y4=>if y4=true then (some false) else (aF3 p1 p2 p0 (QA .i64 (x7+1)))) else (some true)
  partial_fixpoint
def aHk (p0:aP) (p1:List (List Int)) (p2:List aJ):Option Bool :=
  aF3 p1 p2 p0 0
  partial_fixpoint
def aGe (p1:List (List Int)) (p0:aP) (p2:bA) (x8:Int):Option ((List Int)×Bool) :=
  if (decide (x8<(p2.on_.length:Int)))=true then ((nR p2.tables 0 (QA .i64 (x8+1)))>>=fun y2=>(Y5 p0 y2)>>=fun y3=>(aAs y3.1 p1)>>=fun y4=>(idx p2.on_ x8)>>=fun y5=>(aHk p0 y4 y5)>>=fun y6=>if (!y6)=true then (some (([]:List Int),false)) else (aGe p1 p0 p2 (QA .i64 (x8+1)))) else ((Y5 p0 p2.tables)>>=fun y7=>(aAs y7.1 p1)>>=fun y8=>(aHk p0 y8 p2.where_)>>=fun y9=>if (!y9)=true then (some (([]:List Int),false)) else (aA4 y8 p0 p2 0))
  partial_fixpoint
def aGm (p0:aP) (p1:List (List Int)) (p2:bA):Option ((List Int)×Bool) :=
  (aNm p0 p2)>>=fun y1=>if (!y1)=true then (some (([]:List Int),false)) else (aGe p1 p0 p2 0)
  partial_fixpoint
end
def aSy (p0:aP) (p1:bA):Option Bool :=
  (aHr p0)>>=fun y1=>(if (true&&((!y1)==false))=true then aE2 p1 else some default)>>=fun y2=>(some (if (!y1)=true then true else (decide (24<y2))))>>=fun y3=>(if (true&&(y3==false))=true then aGh p1 else some default)>>=fun y4=>(some (if y3=true then true else (decide (200<y4))))>>=fun y5=>if y5=true then (some false) else ((aGm p0 ([]:List (List Int)) p1)>>=fun y6=>some y6.2)
def aM9 (p0:aP) (p1:bA):Option (aL×Bool) :=
  (aSy p0 p1)>>=fun y1=>if (!y1)=true then (some ((aL.mk false ([]:List bG) ([]:List bI) ([]:List aB) ([]:List eX) 0),false)) else ((aDx p0 ([]:List aR) p1)>>=fun y2=>some (y2,true))
mutual
def aEp (y1:Int×aA) (x6:Int) (y3:Int×aA) (x9:Int) (eY:List bM) (y2:List UInt8) (pY:(List Int)×Int×Int×(List dZ)):Option (aP×aA) :=
  aDc y1 x6 y3 eY y2 (QA .i64 (x9+1)) (pY.2.2.2,pY.1,pY.2.1,pY.2.2.1)
  partial_fixpoint
def aIl (y1:Int×aA) (x6:Int) (y3:Int×aA) (x9:Int) (eY:List bM) (y2:List UInt8) (uK:List dZ) (ky8:(Int×aA)×(List UInt8)×(List Int)×Int×Int):Option (aP×aA) :=
  (G9 (bM.mk y2 uK) ky8.2.1)>>=fun y15=>if (decide (y15<0))=true then ((appG 24 uK ([(dZ.mk ky8.2.1 ky8.1.1)]:List dZ))>>=fun y16=>aEp y1 x6 y3 x9 eY y2 (ky8.2.2.1,ky8.2.2.2.1,ky8.2.2.2.2,y16)) else (aEp y1 x6 y3 x9 eY y2 (ky8.2.2.1,ky8.2.2.2.1,ky8.2.2.2.2,uK))
  partial_fixpoint
def aDc (y1:Int×aA) (x6:Int) (y3:Int×aA) (eY:List bM) (y2:List UInt8) (x9:Int) (mQ:(List dZ)×(List Int)×Int×Int):Option (aP×aA) :=
  if (decide (x9<(QA .i64 (1+y3.1))))=true then ((pG (aA.mk mQ.2.1 mQ.2.2.1 mQ.2.2.2) ([[97],[98],[99],[105,100],[110,97,109,101]]:List (List UInt8)))>>=fun y7=>(I4 y7.2 ([1,1,2,3]:List Int))>>=fun y8=>(iC y8.2 20)>>=fun y9=>if y9.1=true then ((H8 y9.2)>>=fun y10=>aIl y1 x6 y3 x9 eY y2 mQ.1 (y8,y10.1,y10.2.b,y10.2.i,y10.2.h)) else (aIl y1 x6 y3 x9 eY y2 mQ.1 (y8,y7.1,y9.2.b,y9.2.i,y9.2.h))) else ((appG 40 eY ([(bM.mk y2 mQ.1)]:List bM))>>=fun y14=>aC6 y1 (QA .i64 (x6+1)) y14 mQ.2.1 mQ.2.2.1 mQ.2.2.2)
  partial_fixpoint
def aC6 (y1:Int×aA) (x6:Int) (eY:List bM) (aV:List Int) (aZ:Int) (bD:Int):Option (aP×aA) :=
  if (decide (x6<(QA .i64 (1+y1.1))))=true then ((idx ([[116],[117],[118]]:List (List UInt8)) x6)>>=fun y2=>(iV (aA.mk aV aZ bD) 3)>>=fun y3=>aDc y1 x6 y3 eY y2 0 (([]:List dZ),y3.2.b,y3.2.i,y3.2.h)) else (some ((aP.mk eY),(aA.mk aV aZ bD)))
  partial_fixpoint
end
def aL1 (p0:aA):Option (aP×aA) :=
  (iV p0 3)>>=fun y1=>aC6 y1 0 ([]:List bM) y1.2.b y1.2.i y1.2.h
def aMd (y1:Bool×aA) (qP:List dL) (qU:List aJ) (jS:List (List UInt8)) (jU:List aJ) (jM:List (List aJ)) (jO:List Int) (V9:Int) (U3:List Int) (Q7:Int) (Q8:Int):Option (bA×aA) :=
  some ((bA.mk jO jM qU qP jU jS y1.1 V9),(aA.mk U3 Q7 Q8))
def aHn (y1:Bool×aA) (qU:List aJ) (jS:List (List UInt8)) (jU:List aJ) (jM:List (List aJ)) (jO:List Int) (aC5:List Int) (aCw:Int) (aD4:Int) (qP:List dL):Option (bA×aA) :=
  (iC (aA.mk aC5 aCw aD4) 4)>>=fun y38=>if y38.1=true then ((iV y38.2 4)>>=fun y39=>aMd y1 qP qU jS jU jM jO y39.1 y39.2.b y39.2.i y39.2.h) else (aMd y1 qP qU jS jU jM jO (-1) y38.2.b y38.2.i y38.2.h)
mutual
def aCu (p1:List (List Int)) (p2:Int) (x9:Int) (x10:Int) (yX:Int) (yK:Int) (yF:Int) (zA:Int) (oD:(List UInt8)×Int×Int×(List Int)×Int×Int):Option (aJ×aA) :=
  aFl p1 p2 x9 yX (QA .i64 (x10+1)) yK yF zA (oD.1,oD.2.1,oD.2.2.1,oD.2.2.2.1,oD.2.2.2.2.1,oD.2.2.2.2.2)
  partial_fixpoint
def aFl (p1:List (List Int)) (p2:Int) (x9:Int) (tF:Int) (x10:Int) (vK:Int) (vJ:Int) (wB:Int) (jW:(List UInt8)×Int×Int×(List Int)×Int×Int):Option (aJ×aA) :=
  (idx p1 x9)>>=fun y12=>if (decide (x10<(y12.length:Int)))=true then ((idx p1 x9)>>=fun y13=>(idx y13 x10)>>=fun y14=>if (decide (y14=p2))=true then ((iC (aA.mk jW.2.2.2.1 jW.2.2.2.2.1 jW.2.2.2.2.2) (QA .i64 (tF+1)))>>=fun y15=>if y15.1=true then (aCu p1 p2 x9 x10 (QA .i64 (tF+1)) 2 0 0 ([],x9,x10,y15.2.b,y15.2.i,y15.2.h)) else (aCu p1 p2 x9 x10 (QA .i64 (tF+1)) vK vJ wB (jW.1,jW.2.1,jW.2.2.1,y15.2.b,y15.2.i,y15.2.h))) else (aCu p1 p2 x9 x10 tF vK vJ wB (jW.1,jW.2.1,jW.2.2.1,jW.2.2.2.1,jW.2.2.2.2.1,jW.2.2.2.2.2))) else (aFq p1 p2 tF (QA .i64 (x9+1)) vK vJ wB (jW.1,jW.2.1,jW.2.2.1,jW.2.2.2.1,jW.2.2.2.2.1,jW.2.2.2.2.2))
  partial_fixpoint
def aFq (p1:List (List Int)) (p2:Int) (x7:Int) (x9:Int) (wI:Int) (vM:Int) (wC:Int) (jX:(List UInt8)×Int×Int×(List Int)×Int×Int):Option (aJ×aA) :=
  if (decide (x9<(p1.length:Int)))=true then (aFl p1 p2 x9 x7 0 wI vM wC (jX.1,jX.2.1,jX.2.2.1,jX.2.2.2.1,jX.2.2.2.2.1,jX.2.2.2.2.2)) else (some ((aJ.mk wI 0 false (bP.mk vM wC jX.1) jX.2.1 jX.2.2.1 ([]:List aJ) ([]:List bA)),(aA.mk jX.2.2.2.1 jX.2.2.2.2.1 jX.2.2.2.2.2)))
  partial_fixpoint
end
def aL2 (y1:bP×aA) (aA5:Int) (aV:List Int) (aZ:Int) (bD:Int):Option (bP×aA) :=
  some ((bP.mk y1.1.kind aA5 y1.1.text),(aA.mk aV aZ bD))
def aJg (p0:Bool):Option bP :=
  if p0=true then (some (bP.mk 3 1 [])) else (some (bP.mk 3 0 []))
def aK8 (p0:Int):Option bP :=
  some (bP.mk 1 p0 [])
def aJ1 (p0:aA):Option (Int×aA) :=
  (iV p0 3)>>=fun y1=>if (decide (y1.1=0))=true then ((I4 y1.2 ([0,1,(-1),63,64,(-64),(-65),127,128,16383,16384,9223372036854775807,(-9223372036854775808),4611686018427387904]:List Int))>>=fun y2=>some (y2.1,y2.2)) else (if (decide (y1.1=1))=true then ((iV y1.2 1000000)>>=fun y3=>some ((QA .i64 (y3.1 - 500000)),y3.2)) else ((iV y1.2 20)>>=fun y4=>some (y4.1,y4.2)))
def aP9 (p0:List UInt8):Option bP :=
  some (bP.mk 2 0 p0)
def aL3 (p0:aA) (p1:Int):Option (bP×aA) :=
  (iC p0 6)>>=fun y1=>if y1.1=true then (some ((bP.mk 0 0 []),y1.2)) else (if (decide (p1=2))=true then ((pG y1.2 ([[],[97],[98],[97,98]]:List (List UInt8)))>>=fun y2=>(aP9 y2.1)>>=fun y3=>some (y3,y2.2)) else (if (decide (p1=3))=true then ((iC y1.2 2)>>=fun y4=>(aJg y4.1)>>=fun y5=>some (y5,y4.2)) else ((aJ1 y1.2)>>=fun y6=>(aK8 y6.1)>>=fun y7=>some (y7,y6.2))))
def aDi (p0:aA) (p1:Int):Option (bP×aA) :=
  (aL3 p0 p1)>>=fun y1=>if (decide (y1.1.kind=1))=true then ((I4 y1.2 ([0,1,2,3,5,1,2,9223372036854775807]:List Int))>>=fun y2=>aL2 y1 y2.1 y2.2.b y2.2.i y2.2.h) else (aL2 y1 y1.1.num y1.2.b y1.2.i y1.2.h)
def aIq (p0:aA) (p1:List (List Int)) (p2:Int):Option (aJ×aA) :=
  (aDi p0 p2)>>=fun y1=>aFq p1 p2 0 0 1 y1.1.kind y1.1.num (y1.1.text,0,0,y1.2.b,y1.2.i,y1.2.h)
mutual
def I6 (p2:List (List Int)) (p3:Int) (p4:Int) (p5:Int) (p1:aP) (x14:Int) (lZ:(List Int)×Int×Int×(List aJ)):Option ((List aJ)×aA) :=
  if (decide (x14<p5))=true then ((xM (aA.mk lZ.1 lZ.2.1 lZ.2.2.1) p1 p2 p3 (QA .i64 (p4 - 1)))>>=fun y1=>(appG 120 lZ.2.2.2 ([y1.1]:List aJ))>>=fun y2=>I6 p2 p3 p4 p5 p1 (QA .i64 (x14+1)) (y1.2.b,y1.2.i,y1.2.h,y2)) else (some (lZ.2.2.2,(aA.mk lZ.1 lZ.2.1 lZ.2.2.1)))
  partial_fixpoint
def rY (p0:aA) (p1:aP) (p2:List (List Int)) (p3:Int) (p4:Int) (p5:Int):Option ((List aJ)×aA) :=
  I6 p2 p3 p4 p5 p1 0 (p0.b,p0.i,p0.h,([]:List aJ))
  partial_fixpoint
def aFh (p2:List (List Int)) (p3:Int) (y1:Int×aA) (p1:aP) (y3:Int×aA):Option (aJ×aA) :=
  (iV y3.2 6)>>=fun y14=>(rY y14.2 p1 p2 (QA .i64 (1+y1.1)) p3 2)>>=fun y15=>some ((aJ.mk 4 (QA .i64 (3+y14.1)) false (bP.mk 0 0 []) 0 0 y15.1 ([]:List bA)),y15.2)
  partial_fixpoint
def aIr (p2:List (List Int)) (p3:Int) (y1:Int×aA) (y2:Bool×aA) (y3:Int×aA) (p1:aP) (x18:Bool):Option (aJ×aA) :=
  if x18=true then ((iV y3.2 2)>>=fun y4=>(rY y4.2 p1 p2 3 p3 2)>>=fun y5=>some ((aJ.mk 4 (QA .i64 (1+y4.1)) false (bP.mk 0 0 []) 0 0 y5.1 ([]:List bA)),y5.2)) else (if (decide (y3.1=2))=true then ((rY y3.2 p1 p2 3 p3 1)>>=fun y6=>some ((aJ.mk 3 15 false (bP.mk 0 0 []) 0 0 y6.1 ([]:List bA)),y6.2)) else (if (decide (y3.1=3))=true then ((rY y3.2 p1 p2 (QA .i64 (1+y1.1)) p3 1)>>=fun y7=>some ((aJ.mk 5 0 y2.1 (bP.mk 0 0 []) 0 0 y7.1 ([]:List bA)),y7.2)) else (if (decide (y3.1=4))=true then ((rY y3.2 p1 p2 (QA .i64 (1+y1.1)) p3 3)>>=fun y8=>some ((aJ.mk 6 0 y2.1 (bP.mk 0 0 []) 0 0 y8.1 ([]:List bA)),y8.2)) else (if (decide (y3.1=5))=true then ((iV y3.2 3)>>=fun y9=>(rY y9.2 p1 p2 (QA .i64 (1+y1.1)) p3 (QA .i64 (2+y9.1)))>>=fun y10=>some ((aJ.mk 7 0 y2.1 (bP.mk 0 0 []) 0 0 y10.1 ([]:List bA)),y10.2)) else (if (decide (y3.1=6))=true then (if (decide (1<p3))=true then ((rY y3.2 p1 p2 (QA .i64 (1+y1.1)) p3 1)>>=fun y11=>(aAk y11.2 p1 p2 ([(QA .i64 (1+y1.1))]:List Int) (QA .i64 (p3 - 2)))>>=fun y12=>some ((aJ.mk 8 0 y2.1 (bP.mk 0 0 []) 0 0 y11.1 ([y12.1]:List bA)),y12.2)) else (aFh p2 p3 y1 p1 y3)) else (if (decide (y3.1=7))=true then (if (decide (1<p3))=true then ((aAk y3.2 p1 p2 ([(QA .i64 (1+y1.1))]:List Int) (QA .i64 (p3 - 2)))>>=fun y13=>some ((aJ.mk 9 0 false (bP.mk 0 0 []) 0 0 ([]:List aJ) ([y13.1]:List bA)),y13.2)) else (aFh p2 p3 y1 p1 y3)) else (aFh p2 p3 y1 p1 y3)))))))
  partial_fixpoint
def aTl (p0:aA) (p1:aP) (p2:List (List Int)) (p3:Int):Option (aJ×aA) :=
  (iV p0 3)>>=fun y1=>(iC y1.2 3)>>=fun y2=>(iV y2.2 10)>>=fun y3=>if (decide (y3.1=0))=true then (aIr p2 p3 y1 y2 y3 p1 (decide (y3.1=0))) else (aIr p2 p3 y1 y2 y3 p1 (decide (y3.1=1)))
  partial_fixpoint
def xM (p0:aA) (p1:aP) (p2:List (List Int)) (p3:Int) (p4:Int):Option (aJ×aA) :=
  (if (true&&((decide (p4≤0))==false))=true then iC p0 4 else some ((default:Bool),p0))>>=fun y1=>(some (if (decide (p4≤0))=true then true else y1.1))>>=fun y2=>if y2=true then ((iC y1.2 3)>>=fun y3=>if y3.1=true then ((aDi y3.2 p3)>>=fun y4=>some ((aJ.mk 1 0 false y4.1 0 0 ([]:List aJ) ([]:List bA)),y4.2)) else ((aIq y3.2 p2 p3)>>=fun y5=>some (y5.1,y5.2))) else (if (decide (p3=1))=true then ((iC y1.2 5)>>=fun y6=>if y6.1=true then ((rY y6.2 p1 p2 p3 p4 1)>>=fun y7=>some ((aJ.mk 3 16 false (bP.mk 0 0 []) 0 0 y7.1 ([]:List bA)),y7.2)) else ((iV y6.2 5)>>=fun y8=>(rY y8.2 p1 p2 p3 p4 2)>>=fun y9=>some ((aJ.mk 4 (QA .i64 (10+y8.1)) false (bP.mk 0 0 []) 0 0 y9.1 ([]:List bA)),y9.2))) else (if (decide (p3=2))=true then ((rY y1.2 p1 p2 p3 p4 2)>>=fun y10=>some ((aJ.mk 4 9 false (bP.mk 0 0 []) 0 0 y10.1 ([]:List bA)),y10.2)) else ((aTl y1.2 p1 p2 p4)>>=fun y11=>some (y11.1,y11.2))))
  partial_fixpoint
def aIv (p4:Int) (y15:List (List Int)) (p1:aP) (y1:Bool×aA) (jS:List (List UInt8)) (jU:List aJ) (mJ:(List (List aJ))×(List Int)×(List Int)×Int×Int×(List aJ)):Option (bA×aA) :=
  (iC (aA.mk mJ.2.2.1 mJ.2.2.2.1 mJ.2.2.2.2.1) 3)>>=fun y30=>if y30.1=true then ((iV y30.2 3)>>=fun y31=>(xM y31.2 p1 y15 (QA .i64 (1+y31.1)) p4)>>=fun y32=>(iC y32.2 2)>>=fun y33=>(appG 128 ([]:List dL) ([(dL.mk y32.1 y33.1)]:List dL))>>=fun y34=>aHn y1 mJ.2.2.2.2.2 jS jU mJ.1 mJ.2.1 y33.2.b y33.2.i y33.2.h y34) else (aHn y1 mJ.2.2.2.2.2 jS jU mJ.1 mJ.2.1 y30.2.b y30.2.i y30.2.h ([]:List dL))
  partial_fixpoint
def aFe (p3:List Int) (p4:Int) (y15:List (List Int)) (p1:aP) (y1:Bool×aA) (jM:List (List aJ)) (jO:List Int) (kx20:Int×(List Int)×Int×Int×(((List (List UInt8))×(List aJ)))):Option (bA×aA) :=
  if (decide (kx20.1<(p3.length:Int)))=true then ((idx p3 kx20.1)>>=fun y20=>(xM (aA.mk kx20.2.1 kx20.2.2.1 kx20.2.2.2.1) p1 y15 y20 p4)>>=fun y21=>(appG 120 kx20.2.2.2.2.2 ([y21.1]:List aJ))>>=fun y22=>(pG y21.2 ([[97],[98],[99],[120],[121,32,122],[99,49]]:List (List UInt8)))>>=fun y23=>(appG 16 kx20.2.2.2.2.1 ([y23.1]:List (List UInt8)))>>=fun y24=>aFe p3 p4 y15 p1 y1 jM jO ((QA .i64 (kx20.1+1)),y23.2.b,y23.2.i,y23.2.h,y24,y22)) else ((iC (aA.mk kx20.2.1 kx20.2.2.1 kx20.2.2.2.1) 2)>>=fun y25=>if y25.1=true then ((xM y25.2 p1 y15 3 p4)>>=fun y26=>aIv p4 y15 p1 y1 kx20.2.2.2.2.1 kx20.2.2.2.2.2 (jM,jO,y26.2.b,y26.2.i,y26.2.h,([y26.1]:List aJ))) else (aIv p4 y15 p1 y1 kx20.2.2.2.2.1 kx20.2.2.2.2.2 (jM,jO,y25.2.b,y25.2.i,y25.2.h,([]:List aJ))))
  partial_fixpoint
def aHs (p2:List (List Int)) (p3:List Int) (p4:Int) (y2:Int×aA) (x13:Int) (p1:aP) (y1:Bool×aA) (ky4:(List Int)×(((List (List aJ))×(List Int)×Int×Int×(List aJ)))):Option (bA×aA) :=
  (appG 24 ky4.2.1 ([ky4.2.2.2.2.2]:List (List aJ)))>>=fun y19=>aA9 p2 p3 p4 y2 p1 y1 ((QA .i64 (x13+1)),ky4.2.2.1,ky4.2.2.2.1,ky4.2.2.2.2.1,y19,ky4.1)
  partial_fixpoint
def aA9 (p2:List (List Int)) (p3:List Int) (p4:Int) (y2:Int×aA) (p1:aP) (y1:Bool×aA) (kx13:Int×(List Int)×Int×Int×(((List (List aJ))×(List Int)))):Option (bA×aA) :=
  if (decide (kx13.1<(QA .i64 (1+y2.1))))=true then ((iV (aA.mk kx13.2.1 kx13.2.2.1 kx13.2.2.2.1) (p1.tables.length:Int))>>=fun y3=>(appG 8 kx13.2.2.2.2.2 ([y3.1]:List Int))>>=fun y4=>(Y5 p1 y4)>>=fun y5=>(if (true&&((decide (0<kx13.1))==true))=true then iC y3.2 2 else some ((default:Bool),y3.2))>>=fun y6=>(some (if (decide (0<kx13.1))=true then y6.1 else false))>>=fun y7=>if y7=true then ((aAs y5.1 p2)>>=fun y8=>(xM y6.2 p1 y8 3 p4)>>=fun y9=>(appG 120 ([]:List aJ) ([y9.1]:List aJ))>>=fun y10=>aHs p2 p3 p4 y2 kx13.1 p1 y1 (y4,kx13.2.2.2.2.1,y9.2.b,y9.2.i,y9.2.h,y10)) else (aHs p2 p3 p4 y2 kx13.1 p1 y1 (y4,kx13.2.2.2.2.1,y6.2.b,y6.2.i,y6.2.h,([]:List aJ)))) else ((Y5 p1 kx13.2.2.2.2.2)>>=fun y14=>(aAs y14.1 p2)>>=fun y15=>aFe p3 p4 y15 p1 y1 kx13.2.2.2.2.1 kx13.2.2.2.2.2 (0,kx13.2.1,kx13.2.2.1,kx13.2.2.2.1,([]:List (List UInt8)),([]:List aJ)))
  partial_fixpoint
def aAk (p0:aA) (p1:aP) (p2:List (List Int)) (p3:List Int) (p4:Int):Option (bA×aA) :=
  (iC p0 4)>>=fun y1=>(iV y1.2 2)>>=fun y2=>aA9 p2 p3 p4 y2 p1 y1 (0,y2.2.b,y2.2.i,y2.2.h,([]:List (List aJ)),([]:List Int))
  partial_fixpoint
end
def aHx (p1:Int) (y1:aP×aA) (x7:List Int) (aV:List Int) (aZ:Int) (bD:Int):Option (aP×bA×aA) :=
  (aAk (aA.mk aV aZ bD) y1.1 ([]:List (List Int)) x7 p1)>>=fun y6=>some (y1.1,y6.1,y6.2)
def aM4 (p0:aA) (p1:Int):Option (aP×bA×aA) :=
  (aL1 p0)>>=fun y1=>(iV y1.2 3)>>=fun y2=>(iC y2.2 2)>>=fun y3=>if y3.1=true then ((iV y3.2 3)>>=fun y4=>(appG 8 ([(QA .i64 (1+y2.1))]:List Int) ([(QA .i64 (1+y4.1))]:List Int))>>=fun y5=>aHx p1 y1 y5 y4.2.b y4.2.i y4.2.h) else (aHx p1 y1 ([(QA .i64 (1+y2.1))]:List Int) y3.2.b y3.2.i y3.2.h)
mutual
def aAa (p1:aB) (iM:List UInt8) (x5:Int) (vV:List Int) (vG:Int) (vN:Int) (mX:List aB):Option (aB×aA) :=
  if (decide (x5<(mX.length:Int)))=true then ((idx mX x5)>>=fun y7=>(aDt (aA.mk vV vG vN) y7)>>=fun y8=>aAa p1 iM (QA .i64 (x5+1)) y8.2.b y8.2.i y8.2.h (mX.set (x5).toNat y8.1)) else (some ((aB.mk p1.kind p1.op p1.not_ p1.value iM p1.name mX p1.sub),(aA.mk vV vG vN)))
  partial_fixpoint
def aHz (p1:aB) (iM:List UInt8) (aV:List Int) (aZ:Int) (bD:Int):Option (aB×aA) :=
  aAa p1 iM 0 aV aZ bD p1.kids
  partial_fixpoint
def aDt (p0:aA) (p1:aB):Option (aB×aA) :=
  (if (true&&((decide (p1.kind=2))==true))=true then iC p0 3 else some ((default:Bool),p0))>>=fun y1=>(some (if (decide (p1.kind=2))=true then y1.1 else false))>>=fun y2=>if y2=true then ((pG y1.2 ([[],[],[116],[113,48,95,48]]:List (List UInt8)))>>=fun y3=>aHz p1 y3.1 y3.2.b y3.2.i y3.2.h) else (aHz p1 p1.qual y1.2.b y1.2.i y1.2.h)
  partial_fixpoint
end
def aB9 (p1:aL) (iX:List bI) (iW:List aB) (x8:Int) (vO:List Int) (wQ:Int) (vW:Int) (mV:List bG):Option (aL×aA) :=
  if (decide (x8<(mV.length:Int)))=true then ((idx mV x8)>>=fun y34=>(aDt (aA.mk vO wQ vW) y34.expr)>>=fun y35=>aB9 p1 iX iW (QA .i64 (x8+1)) y35.2.b y35.2.i y35.2.h (mV.set (x8).toNat (bG.mk y34.star y34.qual y35.1 y34.as_))) else (some ((aL.mk p1.distinct mV iX iW p1.order p1.limit),(aA.mk vO wQ vW)))
  partial_fixpoint
def aD6 (p1:aL) (eB:List bG) (iX:List bI) (x7:Int) (xJ:List Int) (xA:Int) (xK:Int) (iW:List aB):Option (aL×aA) :=
  if (decide (x7<(iW.length:Int)))=true then ((idx iW x7)>>=fun y28=>(aDt (aA.mk xJ xA xK) y28)>>=fun y29=>aD6 p1 eB iX (QA .i64 (x7+1)) y29.2.b y29.2.i y29.2.h (iW.set (x7).toNat y29.1)) else (aB9 p1 iX iW 0 xJ xA xK eB)
  partial_fixpoint
def aFv (p1:aL) (eB:List bG) (oI:List Int) (aD0:Int) (aCs:Int) (iX:List bI):Option (aL×aA) :=
  aD6 p1 eB iX 0 oI aD0 aCs p1.where_
mutual
def aEf (x6:Int) (p1:aL) (y22:Bool×aA) (eB:List bG) (vU:List bI):Option (aL×aA) :=
  aCr p1 eB (QA .i64 (x6+1)) y22.2.b y22.2.i y22.2.h vU
  partial_fixpoint
def aCr (p1:aL) (eB:List bG) (x6:Int) (wX:List Int) (xR:Int) (wV:Int) (nQ:List bI):Option (aL×aA) :=
  if (decide (x6<(nQ.length:Int)))=true then ((iC (aA.mk wX xR wV) 2)>>=fun y22=>if y22.1=true then ((idx nQ x6)>>=fun y23=>aEf x6 p1 y22 eB (nQ.set (x6).toNat (bI.mk y23.table [] y23.on_))) else (aEf x6 p1 y22 eB nQ)) else (aFv p1 eB wX xR wV nQ)
  partial_fixpoint
end
mutual
def aEc (x5:Int) (p1:aL) (uZ:List Int) (vZ:Int) (vC:Int) (wT:List bG):Option (aL×aA) :=
  aEr p1 (QA .i64 (x5+1)) uZ vZ vC wT
  partial_fixpoint
def aIx (x5:Int) (p1:aL) (y1:Bool×aA) (oV:List bG):Option (aL×aA) :=
  (iC y1.2 6)>>=fun y15=>if y15.1=true then ((pG y15.2 ([[],[113,48,95,48],[113,49,95,48],[116]]:List (List UInt8)))>>=fun y16=>(idx oV x5)>>=fun y17=>aEc x5 p1 y16.2.b y16.2.i y16.2.h (oV.set (x5).toNat (bG.mk true y16.1 (aB.mk 0 0 false (bP.mk 0 0 []) [] [] ([]:List aB) ([]:List aL)) []))) else (aEc x5 p1 y15.2.b y15.2.i y15.2.h oV)
  partial_fixpoint
def aEr (p1:aL) (x5:Int) (aV:List Int) (aZ:Int) (bD:Int) (eB:List bG):Option (aL×aA) :=
  if (decide (x5<(eB.length:Int)))=true then ((iC (aA.mk aV aZ bD) 3)>>=fun y1=>(if (true&&(y1.1==true))=true then idx eB x5 else some default)>>=fun y2=>(if (true&&(y1.1==true))=true then idx eB x5 else some default)>>=fun y3=>(some (if y1.1=true then (decide (y3.expr.kind=2)) else false))>>=fun y4=>if y4=true then ((idx eB x5)>>=fun y5=>aIx x5 p1 y1 (eB.set (x5).toNat (bG.mk y5.star y5.qual y5.expr []))) else (aIx x5 p1 y1 eB)) else ((iC (aA.mk aV aZ bD) 3)>>=fun y7=>if y7.1=true then (aCr p1 eB 0 y7.2.b y7.2.i y7.2.h p1.from_) else (aFv p1 eB y7.2.b y7.2.i y7.2.h p1.from_))
  partial_fixpoint
end
def aLk (p0:aA) (p1:aL):Option (aL×aA) :=
  aEr p1 0 p0.b p0.i p0.h p1.items
def aLi (p0:aA) (p1:Int):Option (aP×aL×aA) :=
  (aM4 p0 p1)>>=fun y1=>(aM9 y1.1 y1.2.1)>>=fun y2=>(aLk y1.2.2 y2.1)>>=fun y3=>some (y1.1,y3.1,y3.2)
mutual
def aA0 (yA:List aB):Option aB :=
  aHj yA
  partial_fixpoint
def aGg (jF:List aB) (x6:List aB) (x7:Int):Option aB :=
  if (decide ((QA .i64 (x7+1))<(jF.length:Int)))=true then ((idx jF x7)>>=fun y4=>(idx jF (QA .i64 (x7+1)))>>=fun y5=>(appG 136 x6 ([(aB.mk 4 2 false (bP.mk 0 0 []) [] [] ([y4,y5]:List aB) ([]:List aL))]:List aB))>>=fun y6=>aGg jF y6 (QA .i64 (x7+2))) else (if (decide ((QC (jF.length:Int) 2)=1))=true then ((idx jF (QA .i64 ((jF.length:Int) - 1)))>>=fun y7=>(appG 136 x6 ([y7]:List aB))>>=fun y8=>aA0 y8) else (aA0 x6))
  partial_fixpoint
def aHj (jF:List aB):Option aB :=
  if (decide (1<(jF.length:Int)))=true then (aGg jF ([]:List aB) 0) else ((idx jF 0)>>=fun y3=>some y3)
  partial_fixpoint
end
def T9 (p0:Int) (x3:List aB) (x4:Int):Option aB :=
  if (decide (x4<p0))=true then ((appG 136 x3 ([(aB.mk 9 0 false (bP.mk 0 0 []) [] [] ([]:List aB) ([(aL.mk false ([(bG.mk true [] (aB.mk 0 0 false (bP.mk 0 0 []) [] [] ([]:List aB) ([]:List aL)) []),(bG.mk true [] (aB.mk 0 0 false (bP.mk 0 0 []) [] [] ([]:List aB) ([]:List aL)) []),(bG.mk true [] (aB.mk 0 0 false (bP.mk 0 0 []) [] [] ([]:List aB) ([]:List aL)) [])]:List bG) ([(bI.mk [116] [] ([]:List aB))]:List bI) ([]:List aB) ([]:List eX) (-1))]:List aL))]:List aB))>>=fun y1=>T9 p0 y1 (QA .i64 (x4+1))) else (aHj x3)
  partial_fixpoint
def aLb (p0:Int):Option aB :=
  T9 p0 ([]:List aB) 0
def aMg (iM:List UInt8) (rD:List UInt8) (lM:List Int) (U9:Int) (Z5:Int):Option (aB×aA) :=
  some ((aB.mk 2 0 false (bP.mk 0 0 []) iM rD ([]:List aB) ([]:List aL)),(aA.mk lM U9 Z5))
def aI0 (y1:(List UInt8)×aA) (iM:List UInt8) (aV:List Int) (aZ:Int) (bD:Int):Option (aB×aA) :=
  (iC (aA.mk aV aZ bD) 12)>>=fun y4=>if y4.1=true then ((H8 y4.2)>>=fun y5=>aMg iM y5.1 y5.2.b y5.2.i y5.2.h) else (aMg iM y1.1 y4.2.b y4.2.i y4.2.h)
def aL0 (p0:aA):Option (aB×aA) :=
  (pG p0 ([[97],[98],[99],[105,100],[110,97,109,101]]:List (List UInt8)))>>=fun y1=>(iC y1.2 3)>>=fun y2=>if y2.1=true then ((pG y2.2 ([[116],[117],[118]]:List (List UInt8)))>>=fun y3=>aI0 y1 y3.1 y3.2.b y3.2.i y3.2.h) else (aI0 y1 [] y2.2.b y2.2.i y2.2.h)
def aMs (y1:Bool×aA) (qW:List eX) (qV:List aB) (qR:List bI) (fE:List bG) (U2:Int) (R8:List Int) (U1:Int) (R9:Int):Option (aL×aA) :=
  some ((aL.mk y1.1 fE qR qV qW U2),(aA.mk R8 U1 R9))
def aIc (y1:Bool×aA) (qR:List bI) (fE:List bG) (aBi:List Int) (aD3:Int) (aBq:Int) (qW:List eX) (qV:List aB):Option (aL×aA) :=
  (iC (aA.mk aBi aD3 aBq) 4)>>=fun y46=>if y46.1=true then ((I4 y46.2 ([0,1,2,9223372036854775807]:List Int))>>=fun y47=>aMs y1 qW qV qR fE y47.1 y47.2.b y47.2.i y47.2.h) else (aMs y1 qW qV qR fE (-1) y46.2.b y46.2.i y46.2.h)
def aL8 (p0:aA):Option (bP×aA) :=
  (iV p0 6)>>=fun y1=>if (decide (y1.1=0))=true then (some ((bP.mk 0 0 []),y1.2)) else (if (decide (y1.1=1))=true then ((pG y1.2 ([[],[97],[98],[105,116,39,115],[97,98],[255]]:List (List UInt8)))>>=fun y2=>(aP9 y2.1)>>=fun y3=>some (y3,y2.2)) else (if (decide (y1.1=2))=true then ((iC y1.2 2)>>=fun y4=>(aJg y4.1)>>=fun y5=>some (y5,y4.2)) else (if (decide (y1.1=3))=true then ((aJ1 y1.2)>>=fun y6=>(aK8 y6.1)>>=fun y7=>some (y7,y6.2)) else ((iV y1.2 7)>>=fun y8=>(aK8 (QA .i64 (y8.1 - 2)))>>=fun y9=>some (y9,y8.2)))))
def aKq (y1:bP×aA) (aB2:Int):Option (bP×aA) :=
  some ((bP.mk y1.1.kind aB2 y1.1.text),y1.2)
def aNl (p0:aA):Option (bP×aA) :=
  (aL8 p0)>>=fun y1=>(some (if (decide (y1.1.kind=1))=true then (decide (y1.1.num<0)) else false))>>=fun y2=>if y2=true then (aKq y1 9223372036854775807) else (aKq y1 y1.1.num)
mutual
def aE9 (p1:Int) (y1:Bool×aA) (fE:List bG) (yZ:List Int) (yU:Int) (yV:Int) (sG:(List aB)×(List bI)):Option (aL×aA) :=
  (iC (aA.mk yZ yU yV) 3)>>=fun y38=>if y38.1=true then ((uE y38.2 p1)>>=fun y39=>(iC y39.2 2)>>=fun y40=>(appG 144 ([]:List eX) ([(eX.mk y39.1 y40.1)]:List eX))>>=fun y41=>aIc y1 sG.2 fE y40.2.b y40.2.i y40.2.h y41 sG.1) else (aIc y1 sG.2 fE y38.2.b y38.2.i y38.2.h ([]:List eX) sG.1)
  partial_fixpoint
def aGv (p1:Int) (y16:Int×aA) (x9:Int) (y1:Bool×aA) (y21:(List UInt8)×aA) (vL:List UInt8) (nA:(List bG)×(List Int)×Int×Int×(List aB)×(List bI)):Option (aL×aA) :=
  (appG 56 nA.2.2.2.2.2 ([(bI.mk y21.1 vL nA.2.2.2.2.1)]:List bI))>>=fun y45=>aAq p1 y16 y1 nA.1 (QA .i64 (x9+1)) nA.2.1 (nA.2.2.1,nA.2.2.2.1,y45)
  partial_fixpoint
def aGt (p1:Int) (y16:Int×aA) (x9:Int) (y1:Bool×aA) (y21:(List UInt8)×aA) (xN:List bI) (lJ:(List bG)×(List UInt8)×(List Int)×Int×Int):Option (aL×aA) :=
  (if (true&&((decide (0<x9))==true))=true then iC (aA.mk lJ.2.2.1 lJ.2.2.2.1 lJ.2.2.2.2) 2 else some ((default:Bool),(aA.mk lJ.2.2.1 lJ.2.2.2.1 lJ.2.2.2.2)))>>=fun y32=>(some (if (decide (0<x9))=true then y32.1 else false))>>=fun y33=>if y33=true then ((uE y32.2 p1)>>=fun y34=>aGv p1 y16 x9 y1 y21 lJ.2.1 (lJ.1,y34.2.b,y34.2.i,y34.2.h,([y34.1]:List aB),xN)) else (aGv p1 y16 x9 y1 y21 lJ.2.1 (lJ.1,y32.2.b,y32.2.i,y32.2.h,([]:List aB),xN))
  partial_fixpoint
def aAq (p1:Int) (y16:Int×aA) (y1:Bool×aA) (fE:List bG) (x9:Int) (wU:List Int) (oL:Int×Int×(List bI)):Option (aL×aA) :=
  if (decide (x9<(QA .i64 (1+y16.1))))=true then ((pG (aA.mk wU oL.1 oL.2.1) ([[116],[117],[118]]:List (List UInt8)))>>=fun y21=>(iC y21.2 3)>>=fun y22=>if y22.1=true then ((H8 y22.2)>>=fun y23=>aGt p1 y16 x9 y1 y21 oL.2.2 (fE,y23.1,y23.2.b,y23.2.i,y23.2.h)) else (aGt p1 y16 x9 y1 y21 oL.2.2 (fE,[],y22.2.b,y22.2.i,y22.2.h))) else ((iC (aA.mk wU oL.1 oL.2.1) 2)>>=fun y27=>if y27.1=true then ((uE y27.2 p1)>>=fun y28=>aE9 p1 y1 fE y28.2.b y28.2.i y28.2.h (([y28.1]:List aB),oL.2.2)) else (aE9 p1 y1 fE y27.2.b y27.2.i y27.2.h (([]:List aB),oL.2.2)))
  partial_fixpoint
def aGr (p1:Int) (y2:Int×aA) (x7:Int) (y1:Bool×aA) (y10:aB×aA) (fE:List bG) (oU:(List UInt8)×(List Int)×Int×Int):Option (aL×aA) :=
  (appG 176 fE ([(bG.mk false [] y10.1 oU.1)]:List bG))>>=fun y20=>aEh p1 y2 x7 y1 oU.2.1 oU.2.2.1 (oU.2.2.2,y20)
  partial_fixpoint
def aEh (p1:Int) (y2:Int×aA) (x7:Int) (y1:Bool×aA) (yI:List Int) (yJ:Int) (wM:Int×(List bG)):Option (aL×aA) :=
  aB3 p1 y2 y1 (QA .i64 (x7+1)) yI yJ (wM.1,wM.2)
  partial_fixpoint
def aB3 (p1:Int) (y2:Int×aA) (y1:Bool×aA) (x7:Int) (aV:List Int) (aZ:Int) (oM:Int×(List bG)):Option (aL×aA) :=
  if (decide (x7<(QA .i64 (1+y2.1))))=true then ((iV (aA.mk aV aZ oM.1) 5)>>=fun y3=>if (decide (y3.1=0))=true then ((appG 176 oM.2 ([(bG.mk true [] (aB.mk 0 0 false (bP.mk 0 0 []) [] [] ([]:List aB) ([]:List aL)) [])]:List bG))>>=fun y4=>aEh p1 y2 x7 y1 y3.2.b y3.2.i (y3.2.h,y4)) else (if (decide (y3.1=1))=true then ((pG y3.2 ([[116],[117]]:List (List UInt8)))>>=fun y8=>(appG 176 oM.2 ([(bG.mk true y8.1 (aB.mk 0 0 false (bP.mk 0 0 []) [] [] ([]:List aB) ([]:List aL)) [])]:List bG))>>=fun y9=>aEh p1 y2 x7 y1 y8.2.b y8.2.i (y8.2.h,y9)) else ((uE y3.2 p1)>>=fun y10=>(iC y10.2 2)>>=fun y11=>if y11.1=true then ((H8 y11.2)>>=fun y12=>aGr p1 y2 x7 y1 y10 oM.2 (y12.1,y12.2.b,y12.2.i,y12.2.h)) else (aGr p1 y2 x7 y1 y10 oM.2 ([],y11.2.b,y11.2.i,y11.2.h))))) else ((iV (aA.mk aV aZ oM.1) 2)>>=fun y16=>aAq p1 y16 y1 oM.2 0 y16.2.b (y16.2.i,y16.2.h,([]:List bI)))
  partial_fixpoint
def aB8 (p0:aA) (p1:Int):Option (aL×aA) :=
  (iC p0 4)>>=fun y1=>(iV y1.2 2)>>=fun y2=>aB3 p1 y2 y1 0 y2.2.b y2.2.i (y2.2.h,([]:List bG))
  partial_fixpoint
def aF1 (p1:Int) (p2:Int) (x8:Int) (aV:List Int) (aZ:Int) (bD:Int) (uI:List aB):Option ((List aB)×aA) :=
  if (decide (x8<p2))=true then ((uE (aA.mk aV aZ bD) (QA .i64 (p1 - 1)))>>=fun y1=>(appG 136 uI ([y1.1]:List aB))>>=fun y2=>aF1 p1 p2 (QA .i64 (x8+1)) y1.2.b y1.2.i y1.2.h y2) else (some (uI,(aA.mk aV aZ bD)))
  partial_fixpoint
def zI (p0:aA) (p1:Int) (p2:Int):Option ((List aB)×aA) :=
  aF1 p1 p2 0 p0.b p0.i p0.h ([]:List aB)
  partial_fixpoint
def aGj (p1:Int) (y6:Int×aA):Option (aB×aA) :=
  (iV y6.2 14)>>=fun y20=>(zI y20.2 p1 2)>>=fun y21=>some ((aB.mk 4 (QA .i64 (1+y20.1)) false (bP.mk 0 0 []) [] [] y21.1 ([]:List aL)),y21.2)
  partial_fixpoint
def uE (p0:aA) (p1:Int):Option (aB×aA) :=
  (if (true&&((decide (p1≤0))==false))=true then iC p0 5 else some ((default:Bool),p0))>>=fun y1=>(some (if (decide (p1≤0))=true then true else y1.1))>>=fun y2=>if y2=true then ((iC y1.2 2)>>=fun y3=>if y3.1=true then ((aL0 y3.2)>>=fun y4=>some (y4.1,y4.2)) else ((aNl y3.2)>>=fun y5=>some ((aB.mk 1 0 false y5.1 [] [] ([]:List aB) ([]:List aL)),y5.2))) else ((iV y1.2 12)>>=fun y6=>if (decide (y6.1=0))=true then ((zI y6.2 p1 1)>>=fun y7=>some ((aB.mk 3 15 false (bP.mk 0 0 []) [] [] y7.1 ([]:List aL)),y7.2)) else (if (decide (y6.1=1))=true then ((zI y6.2 p1 1)>>=fun y8=>some ((aB.mk 3 16 false (bP.mk 0 0 []) [] [] y8.1 ([]:List aL)),y8.2)) else (if (decide (y6.1=2))=true then ((iC y6.2 2)>>=fun y9=>(zI y9.2 p1 1)>>=fun y10=>some ((aB.mk 5 0 y9.1 (bP.mk 0 0 []) [] [] y10.1 ([]:List aL)),y10.2)) else (if (decide (y6.1=3))=true then ((iC y6.2 2)>>=fun y11=>(zI y11.2 p1 3)>>=fun y12=>some ((aB.mk 6 0 y11.1 (bP.mk 0 0 []) [] [] y12.1 ([]:List aL)),y12.2)) else (if (decide (y6.1=4))=true then ((iC y6.2 2)>>=fun y13=>(iV y13.2 2)>>=fun y14=>(zI y14.2 p1 (QA .i64 (2+y14.1)))>>=fun y15=>some ((aB.mk 7 0 y13.1 (bP.mk 0 0 []) [] [] y15.1 ([]:List aL)),y15.2)) else (if (decide (y6.1=5))=true then (if (decide (1<p1))=true then ((iC y6.2 2)>>=fun y16=>(zI y16.2 p1 1)>>=fun y17=>(aB8 y17.2 (QA .i64 (p1 - 2)))>>=fun y18=>some ((aB.mk 8 0 y16.1 (bP.mk 0 0 []) [] [] y17.1 ([y18.1]:List aL)),y18.2)) else (aGj p1 y6)) else (if (decide (y6.1=6))=true then (if (decide (1<p1))=true then ((aB8 y6.2 (QA .i64 (p1 - 2)))>>=fun y19=>some ((aB.mk 9 0 false (bP.mk 0 0 []) [] [] ([]:List aB) ([y19.1]:List aL)),y19.2)) else (aGj p1 y6)) else (aGj p1 y6))))))))
  partial_fixpoint
end
def aLm (p0:List Int):Option (aA×aP×aL) :=
  (aMj p0)>>=fun y1=>(aLx p0 4)>>=fun y2=>(iV y1 y2)>>=fun y3=>(aLi y3.2 y3.1)>>=fun y4=>(iV y4.2.2 14)>>=fun y5=>if (decide (y5.1=0))=true then ((aKu y5.2)>>=fun y6=>xU y6.1.tables y4.2.1.distinct y4.2.1.where_ y4.2.1.limit y6.2.b y6.2.i y6.2.h y4.2.1.items y4.2.1.from_ y4.2.1.order) else (if (decide (y5.1=1))=true then ((aB8 y5.2 2)>>=fun y7=>xU y4.1.tables y7.1.distinct y7.1.where_ y7.1.limit y7.2.b y7.2.i y7.2.h y7.1.items y7.1.from_ y7.1.order) else (if (decide (y5.1=2))=true then ((uE y5.2 2)>>=fun y8=>xU y4.1.tables y4.2.1.distinct ([y8.1]:List aB) y4.2.1.limit y8.2.b y8.2.i y8.2.h y4.2.1.items y4.2.1.from_ y4.2.1.order) else (if (decide (y5.1=3))=true then ((pG y5.2 ([[116],[117],[119]]:List (List UInt8)))>>=fun y9=>(appG 56 y4.2.1.from_ ([(bI.mk y9.1 [] ([]:List aB))]:List bI))>>=fun y10=>xU y4.1.tables y4.2.1.distinct y4.2.1.where_ y4.2.1.limit y9.2.b y9.2.i y9.2.h y4.2.1.items y10 y4.2.1.order) else (if (decide (y5.1=4))=true then (aCm y4 y5 y4.2.1.items) else (if (decide (y5.1=5))=true then (xU y4.1.tables y4.2.1.distinct y4.2.1.where_ (-2) y5.2.b y5.2.i y5.2.h y4.2.1.items y4.2.1.from_ y4.2.1.order) else (if (decide (y5.1=6))=true then ((iC y5.2 3)>>=fun y11=>if y11.1=true then ((iV y11.2 14)>>=fun y12=>(aLb (QA .i64 (20+y12.1)))>>=fun y13=>xU y4.1.tables y4.2.1.distinct ([y13]:List aB) y4.2.1.limit y12.2.b y12.2.i y12.2.h y4.2.1.items y4.2.1.from_ y4.2.1.order) else (xU y4.1.tables y4.2.1.distinct y4.2.1.where_ y4.2.1.limit y11.2.b y11.2.i y11.2.h y4.2.1.items y4.2.1.from_ y4.2.1.order)) else (xU y4.1.tables y4.2.1.distinct y4.2.1.where_ y4.2.1.limit y5.2.b y5.2.i y5.2.h y4.2.1.items y4.2.1.from_ y4.2.1.order)))))))
def aSe (p0:List Int):Option (aP×aL) :=
  (aLm p0)>>=fun y1=>some (y1.2.1,y1.2.2)
def aQb (p0:List Int):Option Bool :=
  some (decide (1048576<(p0.length:Int)))
def aNo (p0:List Int):Option Bool :=
  (aQb p0)>>=fun y1=>if y1=true then (some true) else ((aSe p0)>>=fun y2=>(aLw y2.1 y2.2)>>=fun y3=>(aKn y2.1 y2.2)>>=fun y4=>if (!(y3==y4))=true then (some false) else ((aKp y2.1 y2.2)>>=fun y5=>(some (if (decide (y5.2.code=3))=true then true else (decide (y5.2.code=4))))>>=fun y6=>(some (if y6=true then true else (decide (y5.2.code=1))))>>=fun y7=>(some (if y7=true then true else (decide (y5.2.code=2))))>>=fun y8=>(some (if y8=true then true else (decide (y5.2.code=9))))>>=fun y9=>(some (if y3=true then (!y9) else false))>>=fun y10=>(if (true&&(y10==false))=true then some (if (!y3)=true then (!decide (y5.2.code=0)) else false) else some default)>>=fun y11=>(some (if y10=true then true else y11))>>=fun y12=>some y12))
end Go.Ab
