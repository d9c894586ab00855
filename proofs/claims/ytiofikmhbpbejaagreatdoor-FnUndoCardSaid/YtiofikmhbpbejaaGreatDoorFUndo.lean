/- The functions of the program,as Lean functions (printed by a program). -/
import Derived.Test.YtiofikmhbpbejaaGreatDoorAbF1
namespace Go.Ab
open Go
open Go.IntKind renaming wrap→XZ
structure dL where
  name:(List UInt8)
  type:Int
instance:Inhabited dL:=⟨(dL.mk [] 0)⟩
structure bI where
  name:(List UInt8)
  cols:(List dL)
instance:Inhabited bI:=⟨(bI.mk [] [])⟩
structure aP where
  tables:(List bI)
instance:Inhabited aP:=⟨(aP.mk [])⟩
structure bH where
  kind:Int
  num:Int
  text:(List UInt8)
instance:Inhabited bH:=⟨(bH.mk 0 0 [])⟩
mutual
structure aA where
  kind:Int
  op:Int
  not_:Bool
  value:bH
  up:Int
  at_:Int
  kids:(List aA)
  sub:(List aQ)
structure bN where
  expr:aA
  desc:Bool
structure aQ where
  tables:(List Int)
  on_:(List (List aA))
  where_:(List aA)
  order:(List bN)
  items:(List aA)
  names:(List (List UInt8))
  distinct:Bool
  limit:Int
end
instance:Inhabited aA:=⟨(aA.mk 0 0 false (bH.mk 0 0 []) 0 0 [] [])⟩
instance:Inhabited bN:=⟨(bN.mk (aA.mk 0 0 false (bH.mk 0 0 []) 0 0 [] []) false)⟩
instance:Inhabited aQ:=⟨(aQ.mk [] [] [] [] [] [] false 0)⟩
mutual
structure aL where
  kind:Int
  op:Int
  not_:Bool
  value:bH
  qual:(List UInt8)
  name:(List UInt8)
  kids:(List aL)
  sub:(List aV)
structure dU where
  star:Bool
  qual:(List UInt8)
  expr:aL
  as_:(List UInt8)
structure aV where
  distinct:Bool
  items:(List dU)
  from_:(List bZ)
  where_:(List aL)
  order:(List eH)
  limit:Int
structure eH where
  expr:aL
  desc:Bool
structure bZ where
  table:(List UInt8)
  as_:(List UInt8)
  on_:(List aL)
end
instance:Inhabited aL:=⟨(aL.mk 0 0 false (bH.mk 0 0 []) [] [] [] [])⟩
instance:Inhabited dU:=⟨(dU.mk false [] (aL.mk 0 0 false (bH.mk 0 0 []) [] [] [] []) [])⟩
instance:Inhabited aV:=⟨(aV.mk false [] [] [] [] 0)⟩
instance:Inhabited eH:=⟨(eH.mk (aL.mk 0 0 false (bH.mk 0 0 []) [] [] [] []) false)⟩
instance:Inhabited bZ:=⟨(bZ.mk [] [] [])⟩
structure eG where
  code:Int
  name:(List UInt8)
instance:Inhabited eG:=⟨(eG.mk 0 [])⟩
structure kR where
  c:aP
instance:Inhabited kR:=⟨(kR.mk (aP.mk []))⟩
structure mJ where
  op:Bool
  not_:Bool
  value:Bool
  name:Bool
  least:Int
  most:Int
  subs:Int
instance:Inhabited mJ:=⟨(mJ.mk false false false false 0 0 0)⟩
structure bJ where
  qual:(List UInt8)
  name:(List UInt8)
  type:Int
instance:Inhabited bJ:=⟨(bJ.mk [] [] 0)⟩
structure aB where
  b:(List Int)
  i:Int
  h:Int
instance:Inhabited aB:=⟨(aB.mk [] 0 0)⟩
structure bF where
  names:(List bJ)
instance:Inhabited bF:=⟨(bF.mk [])⟩
structure bA where
  c:aP
  fault:eG
instance:Inhabited bA:=⟨(bA.mk (aP.mk []) (eG.mk 0 []))⟩
structure wF where
  up:Int
  at_:Int
  type:Int
instance:Inhabited wF:=⟨(wF.mk 0 0 0)⟩
def okGCol (x:dL):Prop:=okS x.name∧okI x.type
def okGTable (x:bI):Prop:=okS x.name∧(okL okGCol) x.cols
def okGCatalog (x:aP):Prop:=(okL okGTable) x.tables
def okGValue (x:bH):Prop:=okI x.kind∧okI x.num∧okS x.text
mutual
def okGPExpr:aA→Prop
  | ⟨a0,a1,a2,a3,a4,a5,a6,a7⟩=>okI a0∧okI a1∧okB a2∧okGValue a3∧okI a4∧okI a5∧(a6.length≤9223372036854775807∧okLGPExpr a6)∧(a7.length≤9223372036854775807∧okLGPlan a7)
def okGPSort:bN→Prop
  | ⟨a0,a1⟩=>okGPExpr a0∧okB a1
def okGPlan:aQ→Prop
  | ⟨a0,a1,a2,a3,a4,a5,a6,a7⟩=>(okL okI) a0∧(a1.length≤9223372036854775807∧okLLGPExpr a1)∧(a2.length≤9223372036854775807∧okLGPExpr a2)∧(a3.length≤9223372036854775807∧okLGPSort a3)∧(a4.length≤9223372036854775807∧okLGPExpr a4)∧(okL okS) a5∧okB a6∧okI a7
def okLGPExpr:List aA→Prop
  | []=>True
  | x::l=>okGPExpr x∧okLGPExpr l
def okLGPSort:List bN→Prop
  | []=>True
  | x::l=>okGPSort x∧okLGPSort l
def okLGPlan:List aQ→Prop
  | []=>True
  | x::l=>okGPlan x∧okLGPlan l
def okLLGPExpr:List (List aA)→Prop
  | []=>True
  | x::l=>(x.length≤9223372036854775807∧okLGPExpr x)∧okLLGPExpr l
end
mutual
def okGExpr:aL→Prop
  | ⟨a0,a1,a2,a3,a4,a5,a6,a7⟩=>okI a0∧okI a1∧okB a2∧okGValue a3∧okS a4∧okS a5∧(a6.length≤9223372036854775807∧okLGExpr a6)∧(a7.length≤9223372036854775807∧okLGQuery a7)
def okGItem:dU→Prop
  | ⟨a0,a1,a2,a3⟩=>okB a0∧okS a1∧okGExpr a2∧okS a3
def okGQuery:aV→Prop
  | ⟨a0,a1,a2,a3,a4,a5⟩=>okB a0∧(a1.length≤9223372036854775807∧okLGItem a1)∧(a2.length≤9223372036854775807∧okLGSource a2)∧(a3.length≤9223372036854775807∧okLGExpr a3)∧(a4.length≤9223372036854775807∧okLGSortKey a4)∧okI a5
def okGSortKey:eH→Prop
  | ⟨a0,a1⟩=>okGExpr a0∧okB a1
def okGSource:bZ→Prop
  | ⟨a0,a1,a2⟩=>okS a0∧okS a1∧(a2.length≤9223372036854775807∧okLGExpr a2)
def okLGExpr:List aL→Prop
  | []=>True
  | x::l=>okGExpr x∧okLGExpr l
def okLGItem:List dU→Prop
  | []=>True
  | x::l=>okGItem x∧okLGItem l
def okLGQuery:List aV→Prop
  | []=>True
  | x::l=>okGQuery x∧okLGQuery l
def okLGSortKey:List eH→Prop
  | []=>True
  | x::l=>okGSortKey x∧okLGSortKey l
def okLGSource:List bZ→Prop
  | []=>True
  | x::l=>okGSource x∧okLGSource l
end
def okGRFault (x:eG):Prop:=okI x.code∧okS x.name
def okGUndoer (x:kR):Prop:=okGCatalog x.c
def okGForm (x:mJ):Prop:=okB x.op∧okB x.not_∧okB x.value∧okB x.name∧okI x.least∧okI x.most∧okI x.subs
def okGNamed (x:bJ):Prop:=okS x.qual∧okS x.name∧okI x.type
def okGL1Cur (x:aB):Prop:=(okL okU8) x.b∧okI x.i∧okI x.h
def okGScope (x:bF):Prop:=(okL okGNamed) x.names
def okGResolver (x:bA):Prop:=okGCatalog x.c∧okGRFault x.fault
def okGBind (x:wF):Prop:=okI x.up∧okI x.at_∧okI x.type
def aKg (p0:List (List bJ)):Option (List (List bJ)) :=
  if (decide ((p0.length:Int)=0))=true then (some ([]:List (List bJ))) else ((appG 24 ([]:List (List bJ)) p0)>>=fun y1=>some y1)
def aId (p0:Int):Option (List UInt8) :=
  some (Lib.itoa p0)
def aD4 (p0:Int):Option (List UInt8) :=
  (aId p0)>>=fun y1=>some y1
def aDn (p0:Int) (p1:Int):Option (List UInt8) :=
  (aD4 p0)>>=fun y1=>(lM [113] y1)>>=fun y2=>(lM y2 [95])>>=fun y3=>(aD4 p1)>>=fun y4=>(lM y3 y4)>>=fun y5=>some y5
mutual
def aB7 (p1:Int) (x15:Int) (p2:List Int) (y2:bI) (p0:kR) (jW:List bJ) (x28:Int):Option (List bJ) :=
  if (decide (x28<(y2.cols.length:Int)))=true then ((idx y2.cols x28)>>=fun y4=>(aDn p1 x15)>>=fun y5=>(appG 40 jW ([(bJ.mk y5 y4.name 0)]:List bJ))>>=fun y6=>aB7 p1 x15 p2 y2 p0 y6 (XZ .i64 (x28+1))) else (aD0 p1 p2 p0 jW (XZ .i64 (x15+1)))
  partial_fixpoint
def aD0 (p1:Int) (p2:List Int) (p0:kR) (x7:List bJ) (x15:Int):Option (List bJ) :=
  if (decide (x15<(p2.length:Int)))=true then ((idx p2 x15)>>=fun y1=>(idx p0.c.tables y1)>>=fun y2=>aB7 p1 x15 p2 y2 p0 x7 0) else (some x7)
  partial_fixpoint
end
def aIt (p0:kR) (p1:Int) (p2:List Int):Option (List bJ) :=
  aD0 p1 p2 p0 ([]:List bJ) 0
mutual
def yO (p2:Int) (y3:List (List bJ)) (p3:aQ) (p0:kR) (qU:List eH) (bR:List bZ) (y4:List aL) (kx96:Int×(List dU)):Option aV :=
  if (decide (kx96.1<(p3.items.length:Int)))=true then ((idx p3.items kx96.1)>>=fun y14=>(xZ p0 y3 p2 y14)>>=fun y15=>(idx p3.names kx96.1)>>=fun y16=>(appG 176 kx96.2 ([(dU.mk false [] y15 y16)]:List dU))>>=fun y17=>yO p2 y3 p3 p0 qU bR y4 ((XZ .i64 (kx96.1+1)),y17)) else (some (aV.mk p3.distinct kx96.2 bR y4 qU p3.limit))
  partial_fixpoint
def C8 (p2:Int) (y3:List (List bJ)) (p3:aQ) (p0:kR) (bR:List bZ) (y4:List aL) (kx74:Int×(List eH)):Option aV :=
  if (decide (kx74.1<(p3.order.length:Int)))=true then ((idx p3.order kx74.1)>>=fun y11=>(xZ p0 y3 p2 y11.expr)>>=fun y12=>(appG 144 kx74.2 ([(eH.mk y12 y11.desc)]:List eH))>>=fun y13=>C8 p2 y3 p3 p0 bR y4 ((XZ .i64 (kx74.1+1)),y13)) else (yO p2 y3 p3 p0 kx74.2 bR y4 (0,([]:List dU)))
  partial_fixpoint
def aA6 (p2:Int) (y3:List (List bJ)) (p3:aQ) (p0:kR) (y4:List aL) (x40:Int) (bR:List bZ):Option aV :=
  if (decide (x40<(p3.tables.length:Int)))=true then ((idx p3.tables x40)>>=fun y5=>(idx p0.c.tables y5)>>=fun y6=>(aDn p2 x40)>>=fun y7=>(idx p3.on_ x40)>>=fun y8=>(aB4 p0 y3 p2 y8)>>=fun y9=>(appG 56 bR ([(bZ.mk y6.name y7 y9)]:List bZ))>>=fun y10=>aA6 p2 y3 p3 p0 y4 (XZ .i64 (x40+1)) y10) else (C8 p2 y3 p3 p0 bR y4 (0,([]:List eH)))
  partial_fixpoint
def aCd (p1:List (List bJ)) (p2:Int) (p3:aA) (p0:kR) (y3:List aL) (x55:Int) (pG:List aV):Option aL :=
  if (decide (x55<(p3.sub.length:Int)))=true then ((idx p3.sub x55)>>=fun y4=>(aCs p0 p1 (XZ .i64 (p2+1)) y4)>>=fun y5=>(appG 112 pG ([y5]:List aV))>>=fun y6=>aCd p1 p2 p3 p0 y3 (XZ .i64 (x55+1)) y6) else (some (aL.mk p3.kind p3.op p3.not_ p3.value [] [] y3 pG))
  partial_fixpoint
def xZ (p0:kR) (p1:List (List bJ)) (p2:Int) (p3:aA):Option aL :=
  if (decide (p3.kind=2))=true then ((idx p1 (XZ .i64 ((XZ .i64 ((p1.length:Int) - 1)) - p3.up)))>>=fun y1=>(idx y1 p3.at_)>>=fun y2=>some (aL.mk p3.kind p3.op p3.not_ p3.value y2.qual y2.name ([]:List aL) ([]:List aV))) else ((aB4 p0 p1 p2 p3.kids)>>=fun y3=>aCd p1 p2 p3 p0 y3 0 ([]:List aV))
  partial_fixpoint
def aC8 (p1:List (List bJ)) (p2:Int) (p3:List aA) (p0:kR) (x15:Int) (qB:List aL):Option (List aL) :=
  if (decide (x15<(p3.length:Int)))=true then ((idx p3 x15)>>=fun y1=>(xZ p0 p1 p2 y1)>>=fun y2=>(appG 136 qB ([y2]:List aL))>>=fun y3=>aC8 p1 p2 p3 p0 (XZ .i64 (x15+1)) y3) else (some qB)
  partial_fixpoint
def aB4 (p0:kR) (p1:List (List bJ)) (p2:Int) (p3:List aA):Option (List aL) :=
  aC8 p1 p2 p3 p0 0 ([]:List aL)
  partial_fixpoint
def aCs (p0:kR) (p1:List (List bJ)) (p2:Int) (p3:aQ):Option aV :=
  (aKg p1)>>=fun y1=>(aIt p0 p2 p3.tables)>>=fun y2=>(appG 24 y1 ([y2]:List (List bJ)))>>=fun y3=>(aB4 p0 y3 p2 p3.where_)>>=fun y4=>aA6 p2 y3 p3 p0 y4 0 ([]:List bZ)
  partial_fixpoint
end
def aNh (p0:dL) (kj:List UInt8):Option Bool :=
  some (decide (p0.name=kj))
def aBu (p0:List dL) (kj:List UInt8) (x8:Int):Option Int :=
  if (decide (x8<(p0.length:Int)))=true then ((idx p0 x8)>>=fun y1=>(aNh y1 kj)>>=fun y2=>if y2=true then (some x8) else (aBu p0 kj (XZ .i64 (x8+1)))) else (some (-1))
  partial_fixpoint
def aQ7 (p0:List dL) (kj:List UInt8):Option Int :=
  aBu p0 kj 0
def aJu (p0:bI) (p1:List UInt8):Option Int :=
  (aQ7 p0.cols p1)>>=fun y1=>some y1
def rA (p0:List UInt8):Option Bool :=
  (some (if (decide (1≤(p0.length:Int)))=true then (decide ((p0.length:Int)≤20)) else false))>>=fun y1=>some y1
def Z7 (p0:bI) (x8:Int):Option Bool :=
  if (decide (x8<(p0.cols.length:Int)))=true then ((idx p0.cols x8)>>=fun y1=>(rA y1.name)>>=fun y2=>(some (if (!y2)=true then true else (decide (y1.type<1))))>>=fun y3=>(some (if y3=true then true else (decide (3<y1.type))))>>=fun y4=>(if (true&&(y4==false))=true then aJu p0 y1.name else some default)>>=fun y5=>(some (if y4=true then true else (!decide (y5=x8))))>>=fun y6=>if y6=true then (some false) else (Z7 p0 (XZ .i64 (x8+1)))) else ((rA p0.name)>>=fun y7=>(some (if y7=true then (decide (1≤(p0.cols.length:Int))) else false))>>=fun y8=>(some (if y8=true then (decide ((p0.cols.length:Int)≤4)) else false))>>=fun y9=>some y9)
  partial_fixpoint
def aJs (p0:bI):Option Bool :=
  Z7 p0 0
def aQr (p0:bI) (kj:List UInt8):Option Bool :=
  some (decide (p0.name=kj))
def aAe (p0:List bI) (kj:List UInt8) (x8:Int):Option Int :=
  if (decide (x8<(p0.length:Int)))=true then ((idx p0 x8)>>=fun y1=>(aQr y1 kj)>>=fun y2=>if y2=true then (some x8) else (aAe p0 kj (XZ .i64 (x8+1)))) else (some (-1))
  partial_fixpoint
def aPv (p0:List bI) (kj:List UInt8):Option Int :=
  aAe p0 kj 0
def M8 (p0:aP) (p1:List UInt8):Option Int :=
  (aPv p0.tables p1)>>=fun y1=>some y1
def aBx (p0:aP) (x8:Int):Option Bool :=
  if (decide (x8<(p0.tables.length:Int)))=true then ((idx p0.tables x8)>>=fun y1=>(aJs y1)>>=fun y2=>(if (true&&((!y2)==false))=true then M8 p0 y1.name else some default)>>=fun y3=>(some (if (!y2)=true then true else (!decide (y3=x8))))>>=fun y4=>if y4=true then (some false) else (aBx p0 (XZ .i64 (x8+1)))) else (some (decide ((p0.tables.length:Int)≤4)))
  partial_fixpoint
def aE4 (p0:aP):Option Bool :=
  aBx p0 0
def J9 (p0:Int) (p1:Int):Option Bool :=
  (some (if (decide (p0≤24))=true then (decide (p1≤200)) else false))>>=fun y1=>some y1
def P5 (p0:aQ) (cK:List aA) (x27:Int):Option (List aA) :=
  if (decide (x27<(p0.order.length:Int)))=true then ((idx p0.order x27)>>=fun y5=>(appG 120 cK ([y5.expr]:List aA))>>=fun y6=>P5 p0 y6 (XZ .i64 (x27+1))) else ((appG 120 cK p0.items)>>=fun y7=>some y7)
  partial_fixpoint
def aEl (p0:aQ) (x3:List aA) (x12:Int):Option (List aA) :=
  if (decide (x12<(p0.on_.length:Int)))=true then ((idx p0.on_ x12)>>=fun y1=>(appG 120 x3 y1)>>=fun y2=>aEl p0 y2 (XZ .i64 (x12+1))) else ((appG 120 x3 p0.where_)>>=fun y3=>P5 p0 y3 0)
  partial_fixpoint
def aGs (p0:aQ):Option (List aA) :=
  aEl p0 ([]:List aA) 0
mutual
def aEj (p0:aA) (x3:Int) (x12:Int):Option Int :=
  if (decide (x12<(p0.sub.length:Int)))=true then ((idx p0.sub x12)>>=fun y2=>(zT y2)>>=fun y3=>aEj p0 (if y3 > x3 then y3 else x3) (XZ .i64 (x12+1))) else (some (XZ .i64 (1+x3)))
  partial_fixpoint
def aB5 (p0:aA):Option Int :=
  (aHo p0.kids)>>=fun y1=>aEj p0 y1 0
  partial_fixpoint
def aEb (p0:List aA) (x3:Int) (x8:Int):Option Int :=
  if (decide (x8<(p0.length:Int)))=true then ((idx p0 x8)>>=fun y1=>(aB5 y1)>>=fun y2=>aEb p0 (if y2 > x3 then y2 else x3) (XZ .i64 (x8+1))) else (some x3)
  partial_fixpoint
def aHo (p0:List aA):Option Int :=
  aEb p0 0 0
  partial_fixpoint
def zT (p0:aQ):Option Int :=
  (aGs p0)>>=fun y1=>(aHo y1)>>=fun y2=>some y2
  partial_fixpoint
end
mutual
def aEq (p0:aA) (x3:Int) (x13:Int):Option Int :=
  if (decide (x13<(p0.sub.length:Int)))=true then ((idx p0.sub x13)>>=fun y2=>(F3 y2)>>=fun y3=>aEq p0 (XZ .i64 (x3+y3)) (XZ .i64 (x13+1))) else (some x3)
  partial_fixpoint
def N9 (p0:aA):Option Int :=
  (aHf p0.kids)>>=fun y1=>aEq p0 (XZ .i64 (1+y1)) 0
  partial_fixpoint
def aHl (p0:List aA) (x3:Int) (x8:Int):Option Int :=
  if (decide (x8<(p0.length:Int)))=true then ((idx p0 x8)>>=fun y1=>(N9 y1)>>=fun y2=>aHl p0 (XZ .i64 (x3+y2)) (XZ .i64 (x8+1))) else (some x3)
  partial_fixpoint
def aHf (p0:List aA):Option Int :=
  aHl p0 0 0
  partial_fixpoint
def F3 (p0:aQ):Option Int :=
  (aGs p0)>>=fun y1=>(aHf y1)>>=fun y2=>some y2
  partial_fixpoint
end
def aIa (p0:List aA):Option Bool :=
  some (decide (1<(p0.length:Int)))
def aAm (p0:List (List aA)) (x8:Int):Option Int :=
  if (decide (x8<(p0.length:Int)))=true then ((idx p0 x8)>>=fun y1=>(aIa y1)>>=fun y2=>if y2=true then (some x8) else (aAm p0 (XZ .i64 (x8+1)))) else (some (-1))
  partial_fixpoint
def aLo (p0:List (List aA)):Option Int :=
  aAm p0 0
def aIo (p0:List (List aA)):Option Bool :=
  (aLo p0)>>=fun y1=>some (decide (0≤y1))
def aKk (p0:List UInt8):Option Bool :=
  (rA p0)>>=fun y1=>some (!y1)
def aBt (p0:List (List UInt8)) (x8:Int):Option Int :=
  if (decide (x8<(p0.length:Int)))=true then ((idx p0 x8)>>=fun y1=>(aKk y1)>>=fun y2=>if y2=true then (some x8) else (aBt p0 (XZ .i64 (x8+1)))) else (some (-1))
  partial_fixpoint
def aRe (p0:List (List UInt8)):Option Int :=
  aBt p0 0
def aK6 (p0:List (List UInt8)):Option Bool :=
  (aRe p0)>>=fun y1=>some (decide (0≤y1))
def aIb (p0:aQ):Option Bool :=
  (some (if (decide ((p0.tables.length:Int)<1))=true then true else (decide (3<(p0.tables.length:Int)))))>>=fun y1=>(some (if y1=true then true else (!decide ((p0.on_.length:Int)=(p0.tables.length:Int)))))>>=fun y2=>(if (true&&(y2==false))=true then idx p0.on_ 0 else some default)>>=fun y3=>(some (if y2=true then true else (decide (0<(y3.length:Int)))))>>=fun y4=>(some (if y4=true then true else (decide (1<(p0.where_.length:Int)))))>>=fun y5=>(some (if y5=true then true else (decide (12<(p0.order.length:Int)))))>>=fun y6=>if y6=true then (some false) else ((some (if (decide (1≤(p0.items.length:Int)))=true then (decide ((p0.items.length:Int)≤12)) else false))>>=fun y7=>(some (if y7=true then (decide ((p0.names.length:Int)=(p0.items.length:Int))) else false))>>=fun y8=>(some (if y8=true then (decide ((-1)≤p0.limit)) else false))>>=fun y9=>(if (true&&(y9==true))=true then aIo p0.on_ else some default)>>=fun y10=>(some (if y9=true then (!y10) else false))>>=fun y11=>(if (true&&(y11==true))=true then aK6 p0.names else some default)>>=fun y12=>(some (if y11=true then (!y12) else false))>>=fun y13=>some y13)
def qQ (p0:Int):Option Bool :=
  (some (if (decide (p0=0))=true then true else (decide (p0=3))))>>=fun y1=>some y1
def aI3 (p0:bH):Option Bool :=
  if (decide (p0.kind=0))=true then ((some (if (decide (p0.num=0))=true then (decide (p0.text=[])) else false))>>=fun y1=>some y1) else (if (decide (p0.kind=1))=true then (some (decide (p0.text=[]))) else (if (decide (p0.kind=2))=true then ((some (if (decide (p0.num=0))=true then (decide ((p0.text.length:Int)≤200)) else false))>>=fun y2=>some y2) else (if (decide (p0.kind=3))=true then ((some (if (decide (p0.num=0))=true then true else (decide (p0.num=1))))>>=fun y3=>(some (if y3=true then (decide (p0.text=[])) else false))>>=fun y4=>some y4) else (some false))))
def aH5 (p0:bH):Option Bool :=
  (aI3 p0)>>=fun y1=>(if (true&&(y1==true))=true then some (if (!decide (p0.kind=1))=true then true else (decide (0≤p0.num))) else some default)>>=fun y2=>(some (if y1=true then y2 else false))>>=fun y3=>(some (if y3=true then (decide ((p0.text.length:Int)≤40)) else false))>>=fun y4=>some y4
def D5 (p0:aL):Option (mJ×Bool) :=
  if (decide (p0.kind=1))=true then ((aH5 p0.value)>>=fun y1=>some ((mJ.mk false false true false 0 0 0),y1)) else (if (decide (p0.kind=2))=true then ((rA p0.name)>>=fun y2=>(if ((true&&(y2==true))&&((decide (p0.qual=[]))==false))=true then rA p0.qual else some default)>>=fun y3=>(if (true&&(y2==true))=true then some (if (decide (p0.qual=[]))=true then true else y3) else some default)>>=fun y4=>(some (if y2=true then y4 else false))>>=fun y5=>some ((mJ.mk false false false true 0 0 0),y5)) else (if (decide (p0.kind=3))=true then ((some (if (decide (p0.op=15))=true then true else (decide (p0.op=16))))>>=fun y6=>some ((mJ.mk true false false false 1 1 0),y6)) else (if (decide (p0.kind=4))=true then ((some (if (decide (1≤p0.op))=true then (decide (p0.op≤14)) else false))>>=fun y7=>some ((mJ.mk true false false false 2 2 0),y7)) else (if (decide (p0.kind=5))=true then (some ((mJ.mk false true false false 1 1 0),true)) else (if (decide (p0.kind=6))=true then (some ((mJ.mk false true false false 3 3 0),true)) else (if (decide (p0.kind=7))=true then (some ((mJ.mk false true false false 2 9 0),true)) else (if (decide (p0.kind=8))=true then (some ((mJ.mk false true false false 1 1 1),true)) else (if (decide (p0.kind=9))=true then (some ((mJ.mk false false false false 0 0 1),true)) else (some ((mJ.mk false false false false 0 0 0),false))))))))))
def aGl (p0:aA):Option Bool :=
  (D5 (aL.mk p0.kind p0.op false p0.value [] [120] ([]:List aL) ([]:List aV)))>>=fun y1=>(if (true&&(y1.2==true))=true then some (if y1.1.op=true then true else (decide (p0.op=0))) else some default)>>=fun y2=>(some (if y1.2=true then y2 else false))>>=fun y3=>(if (true&&(y3==true))=true then some (if y1.1.not_=true then true else (!p0.not_)) else some default)>>=fun y4=>(some (if y3=true then y4 else false))>>=fun y5=>(if (true&&(y5==true))=true then some (if y1.1.value=true then true else ((decide (p0.value.kind=0))&&((decide (p0.value.num=0))&&((decide (p0.value.text=[]))&&true)))) else some default)>>=fun y6=>(some (if y5=true then y6 else false))>>=fun y7=>(if ((true&&(y7==true))&&(y1.1.name==false))=true then some (if (decide (p0.up=0))=true then (decide (p0.at_=0)) else false) else some default)>>=fun y8=>(if (true&&(y7==true))=true then some (if y1.1.name=true then true else y8) else some default)>>=fun y9=>(some (if y7=true then y9 else false))>>=fun y10=>(some (if y10=true then (decide (y1.1.least≤(p0.kids.length:Int))) else false))>>=fun y11=>(some (if y11=true then (decide ((p0.kids.length:Int)≤y1.1.most)) else false))>>=fun y12=>(some (if y12=true then (decide ((p0.sub.length:Int)=y1.1.subs)) else false))>>=fun y13=>some y13
def aDb (p0:Int) (p1:Int) (p2:Int):Option Bool :=
  (some (if (decide (p1=p0))=true then true else (decide (p1=0))))>>=fun y1=>(if (true&&(y1==true))=true then some (if (decide (p2=p0))=true then true else (decide (p2=0))) else some default)>>=fun y2=>(some (if y1=true then y2 else false))>>=fun y3=>some y3
def aAr (x8:Int) (x9:Bool):Option (Int×Bool) :=
  if (!x9)=true then (some (0,false)) else (some (x8,true))
def aKu (p0:Int):Option Bool :=
  (some (if (decide (0≤p0))=true then (decide (p0≤3)) else false))>>=fun y1=>some y1
def aF6 (p0:Int) (p1:Int):Option (Int×Bool) :=
  (aKu p0)>>=fun y1=>(if (true&&((!y1)==false))=true then aKu p1 else some default)>>=fun y2=>(some (if (!y1)=true then true else (!y2)))>>=fun y3=>if y3=true then (some (0,false)) else (if (decide (p0=0))=true then (some (p1,true)) else ((some (if (decide (p1=0))=true then true else (decide (p0=p1))))>>=fun y4=>if y4=true then (some (p0,true)) else (some (0,false))))
def aIq (p0:Int) (p1:Int) (p2:Int):Option (Int×Bool) :=
  (some (if (decide (p0<1))=true then true else (decide (14<p0))))>>=fun y1=>if y1=true then (aAr 0 false) else (if (decide (p0≤2))=true then ((qQ p1)>>=fun y2=>(if (true&&(y2==true))=true then qQ p2 else some default)>>=fun y3=>(some (if y2=true then y3 else false))>>=fun y4=>aAr 3 y4) else (if (decide (p0≤8))=true then ((aF6 p1 p2)>>=fun y5=>aAr 3 y5.2) else (if (decide (p0=9))=true then ((aDb 2 p1 p2)>>=fun y6=>aAr 2 y6) else ((aDb 1 p1 p2)>>=fun y7=>aAr 1 y7))))
def aKz (p0:List Int):Option (List Int) :=
  if (decide ((p0.length:Int)=0))=true then (some ([]:List Int)) else ((appG 8 ([]:List Int) p0)>>=fun y1=>some y1)
def aBf (p0:List Int) (x4:Int) (x11:Int):Option (Int×Bool) :=
  if (decide (x11<(p0.length:Int)))=true then ((idx p0 x11)>>=fun y1=>(aF6 x4 y1)>>=fun y2=>if (!y2.2)=true then (some (0,false)) else (aBf p0 y2.1 (XZ .i64 (x11+1)))) else (some (x4,true))
  partial_fixpoint
def aK9 (p0:List Int):Option (Int×Bool) :=
  aBf p0 0 0
def X5 (p1:List Int) (p2:List Int) (x40:Bool):Option (Int×Bool) :=
  if x40=true then (some (3,true)) else ((aKz p1)>>=fun y6=>(appG 8 y6 p2)>>=fun y7=>(aK9 y7)>>=fun y8=>if (!y8.2)=true then (some (0,false)) else (some (3,true)))
def aHx (p0:Int) (p1:Int):Option (Int×Bool) :=
  (if (true&&((decide (p0=15))==true))=true then qQ p1 else some default)>>=fun y1=>(some (if (decide (p0=15))=true then y1 else false))>>=fun y2=>if y2=true then (some (3,true)) else ((if (true&&((decide (p0=16))==true))=true then aDb 1 p1 p1 else some default)>>=fun y3=>(some (if (decide (p0=16))=true then y3 else false))>>=fun y4=>if y4=true then (some (1,true)) else (some (0,false)))
def qM (p0:aA) (p1:List Int) (p2:List Int):Option (Int×Bool) :=
  if (decide (p0.kind=1))=true then (some (p0.value.kind,true)) else (if (decide (p0.kind=3))=true then ((idx p1 0)>>=fun y1=>(aHx p0.op y1)>>=fun y2=>some (y2.1,y2.2)) else (if (decide (p0.kind=4))=true then ((idx p1 0)>>=fun y3=>(idx p1 1)>>=fun y4=>(aIq p0.op y3 y4)>>=fun y5=>some (y5.1,y5.2)) else (if (decide (p0.kind=5))=true then (X5 p1 p2 (decide (p0.kind=5))) else (X5 p1 p2 (decide (p0.kind=9))))))
def aHd (p0:List Int) (p1:List (List Int)):Option (List (List Int)) :=
  (appG 24 ([p0]:List (List Int)) p1)>>=fun y1=>some y1
def X3 (p0:bI) (x3:List Int) (x10:Int):Option (List Int) :=
  if (decide (x10<(p0.cols.length:Int)))=true then ((idx p0.cols x10)>>=fun y1=>(appG 8 x3 ([y1.type]:List Int))>>=fun y2=>X3 p0 y2 (XZ .i64 (x10+1))) else (some x3)
  partial_fixpoint
def aL2 (p0:bI):Option (List Int) :=
  X3 p0 ([]:List Int) 0
def Y7 (p1:List Int) (p0:aP) (x6:List Int) (x12:Int):Option ((List Int)×Bool) :=
  if (decide (x12<(p1.length:Int)))=true then ((idx p1 x12)>>=fun y1=>(some (if (decide (y1<0))=true then true else (decide ((p0.tables.length:Int)≤y1))))>>=fun y2=>if y2=true then (some (([]:List Int),false)) else ((idx p0.tables y1)>>=fun y3=>(aL2 y3)>>=fun y4=>(appG 8 x6 y4)>>=fun y5=>Y7 p1 p0 y5 (XZ .i64 (x12+1)))) else (some (x6,true))
  partial_fixpoint
def aGj (p0:aP) (p1:List Int):Option ((List Int)×Bool) :=
  Y7 p1 p0 ([]:List Int) 0
mutual
def wW (y9:List (List Int)) (p2:aQ) (p0:aP) (x19:List Int) (x95:Int):Option ((List Int)×Bool) :=
  if (decide (x95<(p2.items.length:Int)))=true then ((idx p2.items x95)>>=fun y13=>(rO p0 y9 y13)>>=fun y14=>if (!y14.2)=true then (some (([]:List Int),false)) else ((appG 8 x19 ([y14.1]:List Int))>>=fun y15=>wW y9 p2 p0 y15 (XZ .i64 (x95+1)))) else (some (x19,true))
  partial_fixpoint
def xQ (y9:List (List Int)) (p2:aQ) (p0:aP) (x76:Int):Option ((List Int)×Bool) :=
  if (decide (x76<(p2.order.length:Int)))=true then ((idx p2.order x76)>>=fun y11=>(rO p0 y9 y11.expr)>>=fun y12=>if (!y12.2)=true then (some (([]:List Int),false)) else (xQ y9 p2 p0 (XZ .i64 (x76+1)))) else (wW y9 p2 p0 ([]:List Int) 0)
  partial_fixpoint
def rP (p1:List (List Int)) (x8:List Int) (p2:aA) (p0:aP) (x9:List Int) (x85:Int):Option (Int×Bool) :=
  if (decide (x85<(p2.sub.length:Int)))=true then ((idx p2.sub x85)>>=fun y11=>(E8 p0 p1 y11)>>=fun y12=>(if (true&&((!y12.2)==false))=true then some (if (decide (p2.kind=8))=true then (!decide ((y12.1.length:Int)=1)) else false) else some default)>>=fun y13=>(some (if (!y12.2)=true then true else y13))>>=fun y14=>if y14=true then (some (0,false)) else (rP p1 x8 p2 p0 y12.1 (XZ .i64 (x85+1)))) else ((qM p2 x8 x9)>>=fun y15=>some (y15.1,y15.2))
  partial_fixpoint
def uG (p1:List (List Int)) (p2:aA) (p0:aP) (x8:List Int) (x64:Int):Option (Int×Bool) :=
  if (decide (x64<(p2.kids.length:Int)))=true then ((idx p2.kids x64)>>=fun y8=>(rO p0 p1 y8)>>=fun y9=>if (!y9.2)=true then (some (0,false)) else ((appG 8 x8 ([y9.1]:List Int))>>=fun y10=>uG p1 p2 p0 y10 (XZ .i64 (x64+1)))) else (rP p1 x8 p2 p0 ([]:List Int) 0)
  partial_fixpoint
def rO (p0:aP) (p1:List (List Int)) (p2:aA):Option (Int×Bool) :=
  (aGl p2)>>=fun y1=>if (!y1)=true then (some (0,false)) else (if (decide (p2.kind=2))=true then ((some (if (decide (p2.up<0))=true then true else (decide ((p1.length:Int)≤p2.up))))>>=fun y2=>(some (if y2=true then true else (decide (p2.at_<0))))>>=fun y3=>(if (true&&(y3==false))=true then idx p1 p2.up else some default)>>=fun y4=>(some (if y3=true then true else (decide ((y4.length:Int)≤p2.at_))))>>=fun y5=>if y5=true then (some (0,false)) else ((idx p1 p2.up)>>=fun y6=>(idx y6 p2.at_)>>=fun y7=>some (y7,true))) else (uG p1 p2 p0 ([]:List Int) 0))
  partial_fixpoint
def aK2 (p0:aA) (p1:aP) (ka:List (List Int)):Option Bool :=
  (rO p1 ka p0)>>=fun y1=>(if (true&&((!y1.2)==false))=true then qQ y1.1 else some default)>>=fun y2=>(some (if (!y1.2)=true then true else (!y2)))>>=fun y3=>some y3
  partial_fixpoint
def zJ (p0:List aA) (c0:aP) (ka:List (List Int)) (x8:Int):Option Int :=
  if (decide (x8<(p0.length:Int)))=true then ((idx p0 x8)>>=fun y1=>(aK2 y1 c0 ka)>>=fun y2=>if y2=true then (some x8) else (zJ p0 c0 ka (XZ .i64 (x8+1)))) else (some (-1))
  partial_fixpoint
def aJo (p0:List aA) (c0:aP) (ka:List (List Int)):Option Int :=
  zJ p0 c0 ka 0
  partial_fixpoint
def aJy (p0:List aA) (c0:aP) (ka:List (List Int)):Option Bool :=
  (aJo p0 c0 ka)>>=fun y1=>some (decide (0≤y1))
  partial_fixpoint
def A8 (p0:aP) (p1:List (List Int)) (p2:List aA):Option Bool :=
  (aJy p2 p0 p1)>>=fun y1=>some (!y1)
  partial_fixpoint
def D7 (p1:List (List Int)) (y1:(List Int)×Bool) (p2:aQ) (p0:aP) (x41:Int):Option ((List Int)×Bool) :=
  if (decide (x41<(p2.on_.length:Int)))=true then ((idx p2.on_ x41)>>=fun y4=>(rF p2.tables 0 (XZ .i64 (x41+1)))>>=fun y5=>(aGj p0 y5)>>=fun y6=>(aHd y6.1 p1)>>=fun y7=>(A8 p0 y7 y4)>>=fun y8=>if (!y8)=true then (some (([]:List Int),false)) else (D7 p1 y1 p2 p0 (XZ .i64 (x41+1)))) else ((aHd y1.1 p1)>>=fun y9=>(A8 p0 y9 p2.where_)>>=fun y10=>if (!y10)=true then (some (([]:List Int),false)) else (xQ y9 p2 p0 0))
  partial_fixpoint
def E8 (p0:aP) (p1:List (List Int)) (p2:aQ):Option ((List Int)×Bool) :=
  (aGj p0 p2.tables)>>=fun y1=>(if (true&&((!y1.2)==false))=true then aIb p2 else some default)>>=fun y2=>(some (if (!y1.2)=true then true else (!y2)))>>=fun y3=>if y3=true then (some (([]:List Int),false)) else (D7 p1 y1 p2 p0 0)
  partial_fixpoint
end
def aCr (p0:aP) (p1:aQ):Option Bool :=
  (aE4 p0)>>=fun y1=>(if (true&&((!y1)==false))=true then zT p1 else some default)>>=fun y2=>(if (true&&((!y1)==false))=true then F3 p1 else some default)>>=fun y3=>(if (true&&((!y1)==false))=true then J9 y2 y3 else some default)>>=fun y4=>(some (if (!y1)=true then true else (!y4)))>>=fun y5=>if y5=true then (some false) else ((E8 p0 ([]:List (List Int)) p1)>>=fun y6=>some y6.2)
def aR0 (p0:aP) (p1:aQ):Option (aV×Bool) :=
  (aCr p0 p1)>>=fun y1=>if (!y1)=true then (some ((aV.mk false ([]:List dU) ([]:List bZ) ([]:List aL) ([]:List eH) 0),false)) else ((aCs (kR.mk p0) ([]:List (List bJ)) 0 p1)>>=fun y2=>some (y2,true))
def Z5 (p0:List UInt8):Option Bool :=
  (if (true&&((decide (p0=[]))==false))=true then rA p0 else some default)>>=fun y1=>(some (if (decide (p0=[]))=true then true else y1))>>=fun y2=>some y2
def X9 (p0:aV) (qZ:List aL) (x46:Int):Option (List aL) :=
  if (decide (x46<(p0.order.length:Int)))=true then ((idx p0.order x46)>>=fun y9=>(appG 136 qZ ([y9.expr]:List aL))>>=fun y10=>X9 p0 y10 (XZ .i64 (x46+1))) else (some qZ)
  partial_fixpoint
def aAk (p0:aV) (cK:List aL) (x30:Int):Option (List aL) :=
  if (decide (x30<(p0.from_.length:Int)))=true then ((idx p0.from_ x30)>>=fun y5=>(appG 136 cK y5.on_)>>=fun y6=>aAk p0 y6 (XZ .i64 (x30+1))) else ((appG 136 cK p0.where_)>>=fun y7=>X9 p0 y7 0)
  partial_fixpoint
mutual
def aGk (p0:aV) (x14:Int) (fH:List aL):Option (List aL) :=
  aHh p0 fH (XZ .i64 (x14+1))
  partial_fixpoint
def aHh (p0:aV) (x3:List aL) (x14:Int):Option (List aL) :=
  if (decide (x14<(p0.items.length:Int)))=true then ((idx p0.items x14)>>=fun y1=>if (!y1.star)=true then ((appG 136 x3 ([y1.expr]:List aL))>>=fun y2=>aGk p0 x14 y2) else (aGk p0 x14 x3)) else (aAk p0 x3 0)
  partial_fixpoint
end
def aCe (p0:aV):Option (List aL) :=
  aHh p0 ([]:List aL) 0
mutual
def aFj (p1:List aL) (p0:List aL) (x17:Int):Option Bool :=
  if (decide (x17<(p0.length:Int)))=true then ((idx p0 x17)>>=fun y1=>(idx p1 x17)>>=fun y2=>(aDi y1 y2)>>=fun y3=>if (!y3)=true then (some false) else (aFj p1 p0 (XZ .i64 (x17+1)))) else (some true)
  partial_fixpoint
def aNf (p0:List aL) (p1:List aL):Option Bool :=
  if (!decide ((p0.length:Int)=(p1.length:Int)))=true then (some false) else (aFj p1 p0 0)
  partial_fixpoint
def aDc (p0:List aL) (p1:List aL):Option Bool :=
  (aNf p0 p1)>>=fun y1=>some y1
  partial_fixpoint
def aZ2 (p0:bZ) (p1:bZ):Option Bool :=
  (some (if (decide (p0.table=p1.table))=true then (decide (p0.as_=p1.as_)) else false))>>=fun y1=>(if (true&&(y1==true))=true then aDc p0.on_ p1.on_ else some default)>>=fun y2=>(some (if y1=true then y2 else false))>>=fun y3=>some y3
  partial_fixpoint
def aNi (p1:List bZ) (p0:List bZ) (x17:Int):Option Bool :=
  if (decide (x17<(p0.length:Int)))=true then ((idx p0 x17)>>=fun y1=>(idx p1 x17)>>=fun y2=>(aZ2 y1 y2)>>=fun y3=>if (!y3)=true then (some false) else (aNi p1 p0 (XZ .i64 (x17+1)))) else (some true)
  partial_fixpoint
def aRz (p0:List bZ) (p1:List bZ):Option Bool :=
  if (!decide ((p0.length:Int)=(p1.length:Int)))=true then (some false) else (aNi p1 p0 0)
  partial_fixpoint
def aXv (p0:eH) (p1:eH):Option Bool :=
  (if (true&&((p0.desc==p1.desc)==true))=true then aDi p0.expr p1.expr else some default)>>=fun y1=>(some (if (p0.desc==p1.desc)=true then y1 else false))>>=fun y2=>some y2
  partial_fixpoint
def aN4 (p1:List eH) (p0:List eH) (x17:Int):Option Bool :=
  if (decide (x17<(p0.length:Int)))=true then ((idx p0 x17)>>=fun y1=>(idx p1 x17)>>=fun y2=>(aXv y1 y2)>>=fun y3=>if (!y3)=true then (some false) else (aN4 p1 p0 (XZ .i64 (x17+1)))) else (some true)
  partial_fixpoint
def aWf (p0:List eH) (p1:List eH):Option Bool :=
  if (!decide ((p0.length:Int)=(p1.length:Int)))=true then (some false) else (aN4 p1 p0 0)
  partial_fixpoint
def aVm (p0:dU) (p1:dU):Option Bool :=
  (some (if (p0.star==p1.star)=true then (decide (p0.qual=p1.qual)) else false))>>=fun y1=>(some (if y1=true then (decide (p0.as_=p1.as_)) else false))>>=fun y2=>(if (true&&(y2==true))=true then aDi p0.expr p1.expr else some default)>>=fun y3=>(some (if y2=true then y3 else false))>>=fun y4=>some y4
  partial_fixpoint
def aRa (p1:List dU) (p0:List dU) (x17:Int):Option Bool :=
  if (decide (x17<(p0.length:Int)))=true then ((idx p0 x17)>>=fun y1=>(idx p1 x17)>>=fun y2=>(aVm y1 y2)>>=fun y3=>if (!y3)=true then (some false) else (aRa p1 p0 (XZ .i64 (x17+1)))) else (some true)
  partial_fixpoint
def aW8 (p0:List dU) (p1:List dU):Option Bool :=
  if (!decide ((p0.length:Int)=(p1.length:Int)))=true then (some false) else (aRa p1 p0 0)
  partial_fixpoint
def aTa (p0:aV) (p1:aV):Option Bool :=
  (some (if (p0.distinct==p1.distinct)=true then (decide (p0.limit=p1.limit)) else false))>>=fun y1=>(if (true&&(y1==true))=true then aW8 p0.items p1.items else some default)>>=fun y2=>(some (if y1=true then y2 else false))>>=fun y3=>(if (true&&(y3==true))=true then aRz p0.from_ p1.from_ else some default)>>=fun y4=>(some (if y3=true then y4 else false))>>=fun y5=>(if (true&&(y5==true))=true then aDc p0.where_ p1.where_ else some default)>>=fun y6=>(some (if y5=true then y6 else false))>>=fun y7=>(if (true&&(y7==true))=true then aWf p0.order p1.order else some default)>>=fun y8=>(some (if y7=true then y8 else false))>>=fun y9=>some y9
  partial_fixpoint
def aHy (p1:List aV) (p0:List aV) (x17:Int):Option Bool :=
  if (decide (x17<(p0.length:Int)))=true then ((idx p0 x17)>>=fun y1=>(idx p1 x17)>>=fun y2=>(aTa y1 y2)>>=fun y3=>if (!y3)=true then (some false) else (aHy p1 p0 (XZ .i64 (x17+1)))) else (some true)
  partial_fixpoint
def aL6 (p0:List aV) (p1:List aV):Option Bool :=
  if (!decide ((p0.length:Int)=(p1.length:Int)))=true then (some false) else (aHy p1 p0 0)
  partial_fixpoint
def aDi (p0:aL) (p1:aL):Option Bool :=
  (some (if (decide (p0.kind=p1.kind))=true then (decide (p0.op=p1.op)) else false))>>=fun y1=>(some (if y1=true then (p0.not_==p1.not_) else false))>>=fun y2=>(some (if y2=true then ((decide (p0.value.kind=p1.value.kind))&&((decide (p0.value.num=p1.value.num))&&((decide (p0.value.text=p1.value.text))&&true))) else false))>>=fun y3=>(some (if y3=true then (decide (p0.qual=p1.qual)) else false))>>=fun y4=>(some (if y4=true then (decide (p0.name=p1.name)) else false))>>=fun y5=>(if (true&&(y5==true))=true then aDc p0.kids p1.kids else some default)>>=fun y6=>(some (if y5=true then y6 else false))>>=fun y7=>(if (true&&(y7==true))=true then aL6 p0.sub p1.sub else some default)>>=fun y8=>(some (if y7=true then y8 else false))>>=fun y9=>some y9
  partial_fixpoint
end
def aFz (p0:aL):Option Bool :=
  (aDi p0 (aL.mk 0 0 false (bH.mk 0 0 []) [] [] ([]:List aL) ([]:List aV)))>>=fun y1=>some y1
mutual
def aL8 (p0:aV):Option Bool :=
  (aCz p0)>>=fun y1=>some (!y1)
  partial_fixpoint
def aD1 (p0:List aV) (x8:Int):Option Int :=
  if (decide (x8<(p0.length:Int)))=true then ((idx p0 x8)>>=fun y1=>(aL8 y1)>>=fun y2=>if y2=true then (some x8) else (aD1 p0 (XZ .i64 (x8+1)))) else (some (-1))
  partial_fixpoint
def aIg (p0:List aV):Option Int :=
  aD1 p0 0
  partial_fixpoint
def aCb (p0:List aV):Option Bool :=
  (aIg p0)>>=fun y1=>some (decide (0≤y1))
  partial_fixpoint
def wY (p0:aL):Option Bool :=
  (D5 p0)>>=fun y1=>(if (true&&((!y1.2)==false))=true then some (if (!y1.1.op)=true then (!decide (p0.op=0)) else false) else some default)>>=fun y2=>(some (if (!y1.2)=true then true else y2))>>=fun y3=>(if (true&&(y3==false))=true then some (if (!y1.1.not_)=true then p0.not_ else false) else some default)>>=fun y4=>(some (if y3=true then true else y4))>>=fun y5=>(if (true&&(y5==false))=true then some (if (!y1.1.value)=true then (!((decide (p0.value.kind=0))&&((decide (p0.value.num=0))&&((decide (p0.value.text=[]))&&true)))) else false) else some default)>>=fun y6=>(some (if y5=true then true else y6))>>=fun y7=>(if ((true&&(y7==false))&&((!y1.1.name)==true))=true then some (if (!decide (p0.qual=[]))=true then true else (!decide (p0.name=[]))) else some default)>>=fun y8=>(if (true&&(y7==false))=true then some (if (!y1.1.name)=true then y8 else false) else some default)>>=fun y9=>(some (if y7=true then true else y9))>>=fun y10=>if y10=true then (some false) else ((some (if (decide ((p0.kids.length:Int)<y1.1.least))=true then true else (decide (y1.1.most<(p0.kids.length:Int)))))>>=fun y11=>(some (if y11=true then true else (!decide ((p0.sub.length:Int)=y1.1.subs))))>>=fun y12=>if y12=true then (some false) else ((Y4 p0.kids)>>=fun y13=>(if (true&&(y13==true))=true then aCb p0.sub else some default)>>=fun y14=>(some (if y13=true then (!y14) else false))>>=fun y15=>some y15))
  partial_fixpoint
def aNo (p0:aL):Option Bool :=
  (wY p0)>>=fun y1=>some (!y1)
  partial_fixpoint
def aE5 (p0:List aL) (x8:Int):Option Int :=
  if (decide (x8<(p0.length:Int)))=true then ((idx p0 x8)>>=fun y1=>(aNo y1)>>=fun y2=>if y2=true then (some x8) else (aE5 p0 (XZ .i64 (x8+1)))) else (some (-1))
  partial_fixpoint
def aPn (p0:List aL):Option Int :=
  aE5 p0 0
  partial_fixpoint
def aRq (p0:List aL):Option Bool :=
  (aPn p0)>>=fun y1=>some (decide (0≤y1))
  partial_fixpoint
def Y4 (p0:List aL):Option Bool :=
  (aRq p0)>>=fun y1=>some (!y1)
  partial_fixpoint
def aDh (p0:aV) (x92:Int):Option Bool :=
  if (decide (x92<(p0.from_.length:Int)))=true then ((idx p0.from_ x92)>>=fun y17=>(rA y17.table)>>=fun y18=>(if (true&&((!y18)==false))=true then Z5 y17.as_ else some default)>>=fun y19=>(some (if (!y18)=true then true else (!y19)))>>=fun y20=>(some (if y20=true then true else (decide (1<(y17.on_.length:Int)))))>>=fun y21=>(if (true&&(y21==false))=true then some (if (decide (x92=0))=true then (decide (0<(y17.on_.length:Int))) else false) else some default)>>=fun y22=>(some (if y21=true then true else y22))>>=fun y23=>if y23=true then (some false) else (aDh p0 (XZ .i64 (x92+1)))) else ((aCe p0)>>=fun y24=>(Y4 y24)>>=fun y25=>some y25)
  partial_fixpoint
def aE3 (p0:aV) (x49:Int):Option Bool :=
  if (decide (x49<(p0.items.length:Int)))=true then ((idx p0.items x49)>>=fun y7=>(if (true&&(y7.star==true))=true then Z5 y7.qual else some default)>>=fun y8=>(if (true&&(y7.star==true))=true then some (if (!y8)=true then true else (!decide (y7.as_=[]))) else some default)>>=fun y9=>(if ((true&&(y7.star==true))&&(y9==false))=true then aFz y7.expr else some default)>>=fun y10=>(if (true&&(y7.star==true))=true then some (if y9=true then true else (!y10)) else some default)>>=fun y11=>(some (if y7.star=true then y11 else false))>>=fun y12=>(if (((true&&(y12==false))&&((!y7.star)==true))&&((!decide (y7.qual=[]))==false))=true then Z5 y7.as_ else some default)>>=fun y13=>(if ((true&&(y12==false))&&((!y7.star)==true))=true then some (if (!decide (y7.qual=[]))=true then true else (!y13)) else some default)>>=fun y14=>(if (true&&(y12==false))=true then some (if (!y7.star)=true then y14 else false) else some default)>>=fun y15=>(some (if y12=true then true else y15))>>=fun y16=>if y16=true then (some false) else (aE3 p0 (XZ .i64 (x49+1)))) else (aDh p0 0)
  partial_fixpoint
def aCz (p0:aV):Option Bool :=
  (some (if (decide ((p0.items.length:Int)<1))=true then true else (decide (12<(p0.items.length:Int)))))>>=fun y1=>(some (if y1=true then true else (decide ((p0.from_.length:Int)<1))))>>=fun y2=>(some (if y2=true then true else (decide (3<(p0.from_.length:Int)))))>>=fun y3=>(some (if y3=true then true else (decide (1<(p0.where_.length:Int)))))>>=fun y4=>(some (if y4=true then true else (decide (12<(p0.order.length:Int)))))>>=fun y5=>(some (if y5=true then true else (decide (p0.limit<(-1)))))>>=fun y6=>if y6=true then (some false) else (aE3 p0 0)
  partial_fixpoint
end
mutual
def aAy (p0:aL) (fH:Int) (x23:Int):Option Int :=
  if (decide (x23<(p0.sub.length:Int)))=true then ((idx p0.sub x23)>>=fun y4=>(aA0 y4)>>=fun y5=>aAy p0 (if y5 > fH then y5 else fH) (XZ .i64 (x23+1))) else (some (XZ .i64 (1+fH)))
  partial_fixpoint
def aFt (p0:aL) (x3:Int) (x11:Int):Option Int :=
  if (decide (x11<(p0.kids.length:Int)))=true then ((idx p0.kids x11)>>=fun y1=>(wZ y1)>>=fun y2=>aFt p0 (if y2 > x3 then y2 else x3) (XZ .i64 (x11+1))) else (aAy p0 x3 0)
  partial_fixpoint
def wZ (p0:aL):Option Int :=
  aFt p0 0 0
  partial_fixpoint
def aGb (p0:List aL) (x3:Int) (x8:Int):Option Int :=
  if (decide (x8<(p0.length:Int)))=true then ((idx p0 x8)>>=fun y1=>(wZ y1)>>=fun y2=>aGb p0 (if y2 > x3 then y2 else x3) (XZ .i64 (x8+1))) else (some x3)
  partial_fixpoint
def aO4 (p0:List aL):Option Int :=
  aGb p0 0 0
  partial_fixpoint
def aA0 (p0:aV):Option Int :=
  (aCe p0)>>=fun y1=>(aO4 y1)>>=fun y2=>some y2
  partial_fixpoint
end
mutual
def aE9 (p0:aL) (x3:Int) (x13:Int):Option Int :=
  if (decide (x13<(p0.sub.length:Int)))=true then ((idx p0.sub x13)>>=fun y2=>(Y8 y2)>>=fun y3=>aE9 p0 (XZ .i64 (x3+y3)) (XZ .i64 (x13+1))) else (some x3)
  partial_fixpoint
def xN (p0:aL):Option Int :=
  (aEt p0.kids)>>=fun y1=>aE9 p0 (XZ .i64 (1+y1)) 0
  partial_fixpoint
def aFx (p0:List aL) (x3:Int) (x8:Int):Option Int :=
  if (decide (x8<(p0.length:Int)))=true then ((idx p0 x8)>>=fun y1=>(xN y1)>>=fun y2=>aFx p0 (XZ .i64 (x3+y2)) (XZ .i64 (x8+1))) else (some x3)
  partial_fixpoint
def aEt (p0:List aL):Option Int :=
  aFx p0 0 0
  partial_fixpoint
def Y8 (p0:aV):Option Int :=
  (aCe p0)>>=fun y1=>(aEt y1)>>=fun y2=>some y2
  partial_fixpoint
end
def aCc (p0:aV):Option Bool :=
  (aA0 p0)>>=fun y1=>(Y8 p0)>>=fun y2=>(J9 y1 y2)>>=fun y3=>(if (true&&(y3==true))=true then aCz p0 else some default)>>=fun y4=>(some (if y3=true then y4 else false))>>=fun y5=>some y5
def qE (p0:bA):Option Bool :=
  some (!decide (p0.fault.code=0))
def aL9 (y4:aQ×(List Int)×bA) (X0:List bI) (yX:Int) (F5:List UInt8):Option (aQ×eG) :=
  (qE (bA.mk (aP.mk X0) (eG.mk yX F5)))>>=fun y11=>if y11=true then (some ((aQ.mk ([]:List Int) ([]:List (List aA)) ([]:List aA) ([]:List bN) ([]:List aA) ([]:List (List UInt8)) false 0),(eG.mk yX F5))) else (some (y4.1,(eG.mk 0 [])))
def xV (p0:bA) (p1:Int) (p2:List UInt8):Option bA :=
  if (decide (p0.fault.code=0))=true then (some (bA.mk p0.c (eG.mk p1 p2))) else (some p0)
def aGm (p0:bF) (p1:List bF):Option (List bF) :=
  (appG 24 ([p0]:List bF) p1)>>=fun y1=>some y1
def aU3 (p0:List UInt8) (p1:List UInt8):Option (List UInt8) :=
  if (decide (p0=[]))=true then (some p1) else ((lM p0 [46])>>=fun y1=>(lM y1 p1)>>=fun y2=>some y2)
mutual
def aCq (p1:List UInt8) (p2:List UInt8) (p0:bF) (x14:Int) (uD:List Int):Option (List Int) :=
  aD3 p1 p2 p0 uD (XZ .i64 (x14+1))
  partial_fixpoint
def aD3 (p1:List UInt8) (p2:List UInt8) (p0:bF) (x7:List Int) (x14:Int):Option (List Int) :=
  if (decide (x14<(p0.names.length:Int)))=true then ((idx p0.names x14)>>=fun y1=>(if (true&&((decide (y1.name=p2))==true))=true then some (if (decide (p1=[]))=true then true else (decide (y1.qual=p1))) else some default)>>=fun y2=>(some (if (decide (y1.name=p2))=true then y2 else false))>>=fun y3=>if y3=true then ((appG 8 x7 ([x14]:List Int))>>=fun y4=>aCq p1 p2 p0 x14 y4) else (aCq p1 p2 p0 x14 x7)) else (some x7)
  partial_fixpoint
end
def aDw (p0:bF) (p1:List UInt8) (p2:List UInt8):Option (List Int) :=
  aD3 p1 p2 p0 ([]:List Int) 0
def Y5 (p1:List UInt8) (p2:List UInt8) (p0:List bF) (x13:Int):Option (wF×Int) :=
  if (decide (x13<(p0.length:Int)))=true then ((idx p0 x13)>>=fun y1=>(aDw y1 p1 p2)>>=fun y2=>if (decide ((y2.length:Int)=0))=true then (Y5 p1 p2 p0 (XZ .i64 (x13+1))) else (if (decide ((y2.length:Int)=1))=true then ((idx y2 0)>>=fun y3=>(idx y2 0)>>=fun y4=>(idx y1.names y4)>>=fun y5=>some ((wF.mk x13 y3 y5.type),0)) else (some ((wF.mk 0 0 0),4)))) else (some ((wF.mk 0 0 0),3))
  partial_fixpoint
def aI0 (p0:List bF) (p1:List UInt8) (p2:List UInt8):Option (wF×Int) :=
  Y5 p1 p2 p0 0
def aH0 (p0:bZ):Option (List UInt8) :=
  if (decide (p0.as_=[]))=true then (some p0.table) else (some p0.as_)
mutual
def zK (p1:List bZ) (y3:List UInt8) (x19:Int) (y7:bI) (p0:aP) (x57:Int) (qI:List bJ):Option (bF×Int×(List UInt8)) :=
  if (decide (x57<(y7.cols.length:Int)))=true then ((idx y7.cols x57)>>=fun y9=>(appG 40 qI ([(bJ.mk y3 y9.name y9.type)]:List bJ))>>=fun y10=>zK p1 y3 x19 y7 p0 (XZ .i64 (x57+1)) y10) else (aAh p1 p0 (XZ .i64 (x19+1)) qI)
  partial_fixpoint
def Z9 (p1:List bZ) (y2:Int) (y3:List UInt8) (x19:Int) (y4:List bZ) (p0:aP) (jD:List bJ) (x39:Int):Option (bF×Int×(List UInt8)) :=
  if (decide (x39<(y4.length:Int)))=true then ((idx y4 x39)>>=fun y5=>(aH0 y5)>>=fun y6=>if (decide (y6=y3))=true then (some ((bF.mk ([]:List bJ)),2,y3)) else (Z9 p1 y2 y3 x19 y4 p0 jD (XZ .i64 (x39+1)))) else ((idx p0.tables y2)>>=fun y7=>zK p1 y3 x19 y7 p0 0 jD)
  partial_fixpoint
def aAh (p1:List bZ) (p0:aP) (x19:Int) (jD:List bJ):Option (bF×Int×(List UInt8)) :=
  if (decide (x19<(p1.length:Int)))=true then ((idx p1 x19)>>=fun y1=>(M8 p0 y1.table)>>=fun y2=>if (decide (y2<0))=true then (some ((bF.mk ([]:List bJ)),1,y1.table)) else ((aH0 y1)>>=fun y3=>(rF p1 0 x19)>>=fun y4=>Z9 p1 y2 y3 x19 y4 p0 jD 0)) else (some ((bF.mk jD),0,[]))
  partial_fixpoint
end
def aFi (p0:aP) (p1:List bZ):Option (bF×Int×(List UInt8)) :=
  aAh p1 p0 0 ([]:List bJ)
def aLe (p0:dU) (p1:Int):Option (List UInt8) :=
  if (!decide (p0.as_=[]))=true then (some p0.as_) else (if (decide (p0.expr.kind=2))=true then (some p0.expr.name) else ((aD4 (XZ .i64 (p1+1)))>>=fun y1=>(lM [99] y1)>>=fun y2=>some y2))
def aIc (p0:bA) (ka:List Int) (kf:List (List aA)) (ke:List aA) (kp:List bN) (ko:List aA) (ku:List (List UInt8)) (kq:Bool) (kt:Int) (p2:aA) (p3:List UInt8):Option (bA×Bool×Int×(List aA)×(List (List UInt8))) :=
  (appG 120 ko ([(aA.mk 0 0 false (bH.mk 0 0 []) 0 0 [] [])]:List aA))>>=fun y1=>(idx y1 (ko.length:Int))>>=fun y2=>(appG 16 ku ([p3]:List (List UInt8)))>>=fun y3=>if (decide (12<(y1.length:Int)))=true then ((xV p0 8 [])>>=fun y4=>some (y4,kq,kt,(y1.set ((ko.length:Int)).toNat p2),y3)) else (some (p0,kq,kt,(y1.set ((ko.length:Int)).toNat p2),y3))
def aVv (p0:bA) (ka:List Int) (kf:List (List aA)) (ke:List aA) (kp:List bN) (ko:List aA) (ku:List (List UInt8)) (kq:Bool) (kt:Int) (p2:aA) (p3:List UInt8):Option (bA×Bool×Int×(List aA)×(List (List UInt8))) :=
  (appG 120 ko ([(aA.mk 0 0 false (bH.mk 0 0 []) 0 0 [] [])]:List aA))>>=fun y1=>(idx y1 (ko.length:Int))>>=fun y2=>(appG 16 ku ([p3]:List (List UInt8)))>>=fun y3=>if (decide (12<(y1.length:Int)))=true then ((xV p0 8 [])>>=fun y4=>some (y4,kq,kt,(y1.set ((ko.length:Int)).toNat (aA.mk p2.kind p2.op p2.not_ p2.value p2.up p2.at_ ([]:List aA) ([]:List aQ))),y3)) else (some (p0,kq,kt,(y1.set ((ko.length:Int)).toNat (aA.mk p2.kind p2.op p2.not_ p2.value p2.up p2.at_ ([]:List aA) ([]:List aQ))),y3))
mutual
def aI7 (p1:List UInt8) (p0:bF) (x12:Int) (tH:List Int):Option (List Int) :=
  aR4 p1 p0 tH (XZ .i64 (x12+1))
  partial_fixpoint
def aR4 (p1:List UInt8) (p0:bF) (x5:List Int) (x12:Int):Option (List Int) :=
  if (decide (x12<(p0.names.length:Int)))=true then ((idx p0.names x12)>>=fun y1=>(some (if (decide (p1=[]))=true then true else (decide (y1.qual=p1))))>>=fun y2=>if y2=true then ((appG 8 x5 ([x12]:List Int))>>=fun y3=>aI7 p1 p0 x12 y3) else (aI7 p1 p0 x12 x5)) else (some x5)
  partial_fixpoint
end
def aZj (p0:bF) (p1:List UInt8):Option (List Int) :=
  aR4 p1 p0 ([]:List Int) 0
mutual
def aIp (p1:List bF) (p2:List dU) (x20:Int) (y14:List Int) (x70:Int) (ka:List Int) (kn:(List (List aA))×(List aA)×(List bN)×(List bI)×Int×(List UInt8)×Bool×Int×(List Int)×(List aA)×(List (List UInt8))):Option ((List Int)×bA×Bool×Int×(List aA)×(List (List UInt8))) :=
  aQz p1 p2 x20 y14 ka kn.1 (kn.2.1,kn.2.2.1,(XZ .i64 (x70+1)),kn.2.2.2.1,kn.2.2.2.2.1,kn.2.2.2.2.2.1,kn.2.2.2.2.2.2.1,kn.2.2.2.2.2.2.2.1,kn.2.2.2.2.2.2.2.2.1,kn.2.2.2.2.2.2.2.2.2.1,kn.2.2.2.2.2.2.2.2.2.2)
  partial_fixpoint
def aQz (p1:List bF) (p2:List dU) (x20:Int) (y14:List Int) (ka:List Int) (kf:List (List aA)) (kb:(List aA)×(List bN)×Int×(List bI)×Int×(List UInt8)×Bool×Int×(List Int)×(List aA)×(List (List UInt8))):Option ((List Int)×bA×Bool×Int×(List aA)×(List (List UInt8))) :=
  if (decide (kb.2.2.1<(y14.length:Int)))=true then ((idx y14 kb.2.2.1)>>=fun y24=>(qE (bA.mk (aP.mk kb.2.2.2.1) (eG.mk kb.2.2.2.2.1 kb.2.2.2.2.2.1)))>>=fun y25=>if (!y25)=true then ((idx p1 0)>>=fun y26=>(idx y26.names y24)>>=fun y27=>(aVv (bA.mk (aP.mk kb.2.2.2.1) (eG.mk kb.2.2.2.2.1 kb.2.2.2.2.2.1)) ka kf kb.1 kb.2.1 kb.2.2.2.2.2.2.2.2.2.1 kb.2.2.2.2.2.2.2.2.2.2 kb.2.2.2.2.2.2.1 kb.2.2.2.2.2.2.2.1 (aA.mk 2 0 false (bH.mk 0 0 []) 0 y24 ([]:List aA) ([]:List aQ)) y27.name)>>=fun y28=>(idx p1 0)>>=fun y29=>(idx y29.names y24)>>=fun y30=>(appG 8 kb.2.2.2.2.2.2.2.2.1 ([y30.type]:List Int))>>=fun y31=>aIp p1 p2 x20 y14 kb.2.2.1 ka (kf,kb.1,kb.2.1,y28.1.c.tables,y28.1.fault.code,y28.1.fault.name,y28.2.1,y28.2.2.1,y31,y28.2.2.2.1,y28.2.2.2.2)) else (aIp p1 p2 x20 y14 kb.2.2.1 ka (kf,kb.1,kb.2.1,kb.2.2.2.1,kb.2.2.2.2.1,kb.2.2.2.2.2.1,kb.2.2.2.2.2.2.1,kb.2.2.2.2.2.2.2.1,kb.2.2.2.2.2.2.2.2.1,kb.2.2.2.2.2.2.2.2.2.1,kb.2.2.2.2.2.2.2.2.2.2))) else (aGd p1 p2 x20 ka kf kb.1 (kb.2.1,kb.2.2.2.1,kb.2.2.2.2.1,kb.2.2.2.2.2.1,kb.2.2.2.2.2.2.1,kb.2.2.2.2.2.2.2.1,kb.2.2.2.2.2.2.2.2.2.1,kb.2.2.2.2.2.2.2.2.2.2,kb.2.2.2.2.2.2.2.2.1))
  partial_fixpoint
def aMg (p1:List bF) (y14:List Int) (p2:List dU) (x20:Int) (tC:Bool) (tJ:Int) (iY:(List Int)×(List Int)×(((List (List aA))×(List aA)×(List bN)×(List aA)×(((List (List UInt8))×(List bI)×Int×(List UInt8)))))):Option ((List Int)×bA×Bool×Int×(List aA)×(List (List UInt8))) :=
  aQz p1 p2 x20 y14 iY.2.1 iY.2.2.1 (iY.2.2.2.1,iY.2.2.2.2.1,0,iY.2.2.2.2.2.2.2.1,iY.2.2.2.2.2.2.2.2.1,iY.2.2.2.2.2.2.2.2.2,tC,tJ,iY.1,iY.2.2.2.2.2.1,iY.2.2.2.2.2.2.1)
  partial_fixpoint
def aGd (p1:List bF) (p2:List dU) (x20:Int) (ka:List Int) (kf:List (List aA)) (ke:List aA) (ki:(List bN)×(List bI)×Int×(List UInt8)×Bool×Int×(List aA)×(((List (List UInt8))×(List Int)))):Option ((List Int)×bA×Bool×Int×(List aA)×(List (List UInt8))) :=
  aDl p1 p2 ka kf ke ki.1 ((XZ .i64 (x20+1)),ki.2.1,ki.2.2.1,ki.2.2.2.1,ki.2.2.2.2.1,ki.2.2.2.2.2.1,ki.2.2.2.2.2.2.2.2,ki.2.2.2.2.2.2.1,ki.2.2.2.2.2.2.2.1)
  partial_fixpoint
def aDl (p1:List bF) (p2:List dU) (ka:List Int) (kf:List (List aA)) (ke:List aA) (kp:List bN) (kx20:Int×(List bI)×Int×(List UInt8)×Bool×Int×(List Int)×(List aA)×(List (List UInt8))):Option ((List Int)×bA×Bool×Int×(List aA)×(List (List UInt8))) :=
  if (decide (kx20.1<(p2.length:Int)))=true then ((idx p2 kx20.1)>>=fun y1=>(qE (bA.mk (aP.mk kx20.2.1) (eG.mk kx20.2.2.1 kx20.2.2.2.1)))>>=fun y2=>if y2=true then (some (([]:List Int),(bA.mk (aP.mk kx20.2.1) (eG.mk kx20.2.2.1 kx20.2.2.2.1)),kx20.2.2.2.2.1,kx20.2.2.2.2.2.1,kx20.2.2.2.2.2.2.2.1,kx20.2.2.2.2.2.2.2.2)) else (if (!y1.star)=true then ((vM (bA.mk (aP.mk kx20.2.1) (eG.mk kx20.2.2.1 kx20.2.2.2.1)) p1 y1.expr)>>=fun y3=>(appG 8 kx20.2.2.2.2.2.2.1 ([y3.2.1]:List Int))>>=fun y4=>(qE y3.2.2)>>=fun y5=>if (!y5)=true then ((aLe y1 (kx20.2.2.2.2.2.2.2.1.length:Int))>>=fun y6=>(aIc y3.2.2 ka kf ke kp kx20.2.2.2.2.2.2.2.1 kx20.2.2.2.2.2.2.2.2 kx20.2.2.2.2.1 kx20.2.2.2.2.2.1 y3.1 y6)>>=fun y7=>aGd p1 p2 kx20.1 ka kf ke (kp,y7.1.c.tables,y7.1.fault.code,y7.1.fault.name,y7.2.1,y7.2.2.1,y7.2.2.2.1,y7.2.2.2.2,y4)) else (aGd p1 p2 kx20.1 ka kf ke (kp,y3.2.2.c.tables,y3.2.2.fault.code,y3.2.2.fault.name,kx20.2.2.2.2.1,kx20.2.2.2.2.2.1,kx20.2.2.2.2.2.2.2.1,kx20.2.2.2.2.2.2.2.2,y4))) else ((idx p1 0)>>=fun y13=>(aZj y13 y1.qual)>>=fun y14=>if (decide ((y14.length:Int)=0))=true then ((xV (bA.mk (aP.mk kx20.2.1) (eG.mk kx20.2.2.1 kx20.2.2.2.1)) 7 y1.qual)>>=fun y15=>aMg p1 y14 p2 kx20.1 kx20.2.2.2.2.1 kx20.2.2.2.2.2.1 (kx20.2.2.2.2.2.2.1,ka,kf,ke,kp,kx20.2.2.2.2.2.2.2.1,kx20.2.2.2.2.2.2.2.2,y15.c.tables,y15.fault.code,y15.fault.name)) else (aMg p1 y14 p2 kx20.1 kx20.2.2.2.2.1 kx20.2.2.2.2.2.1 (kx20.2.2.2.2.2.2.1,ka,kf,ke,kp,kx20.2.2.2.2.2.2.2.1,kx20.2.2.2.2.2.2.2.2,kx20.2.1,kx20.2.2.1,kx20.2.2.2.1))))) else (some (kx20.2.2.2.2.2.2.1,(bA.mk (aP.mk kx20.2.1) (eG.mk kx20.2.2.1 kx20.2.2.2.1)),kx20.2.2.2.2.1,kx20.2.2.2.2.2.1,kx20.2.2.2.2.2.2.2.1,kx20.2.2.2.2.2.2.2.2))
  partial_fixpoint
def aEw (p0:bA) (p1:List bF) (p2:List dU) (ka:List Int) (kf:List (List aA)) (ke:List aA) (kg:(List bN)×(List aA)×(((List (List UInt8))×Bool×Int))):Option ((List Int)×bA×Bool×Int×(List aA)×(List (List UInt8))) :=
  aDl p1 p2 ka kf ke kg.1 (0,p0.c.tables,p0.fault.code,p0.fault.name,kg.2.2.2.1,kg.2.2.2.2,([]:List Int),kg.2.1,kg.2.2.1)
  partial_fixpoint
def aCm (y2:List bF) (p2:aV) (y1:bF×bA×Bool×Int×(List Int)×(List (List aA))) (y4:(List aA)×bA) (x39:Int) (aY:List bI) (iR:Int×(List UInt8)×(List bN)):Option (aQ×(List Int)×bA) :=
  if (decide (x39<(p2.order.length:Int)))=true then ((idx p2.order x39)>>=fun y5=>(qE (bA.mk (aP.mk aY) (eG.mk iR.1 iR.2.1)))>>=fun y6=>if y6=true then (some ((aQ.mk ([]:List Int) ([]:List (List aA)) ([]:List aA) ([]:List bN) ([]:List aA) ([]:List (List UInt8)) false 0),([]:List Int),(bA.mk (aP.mk aY) (eG.mk iR.1 iR.2.1)))) else ((vM (bA.mk (aP.mk aY) (eG.mk iR.1 iR.2.1)) y2 y5.expr)>>=fun y7=>(appG 128 iR.2.2 ([(bN.mk y7.1 y5.desc)]:List bN))>>=fun y8=>aCm y2 p2 y1 y4 (XZ .i64 (x39+1)) y7.2.2.c.tables (y7.2.2.fault.code,y7.2.2.fault.name,y8))) else ((qE (bA.mk (aP.mk aY) (eG.mk iR.1 iR.2.1)))>>=fun y9=>if y9=true then (some ((aQ.mk ([]:List Int) ([]:List (List aA)) ([]:List aA) ([]:List bN) ([]:List aA) ([]:List (List UInt8)) false 0),([]:List Int),(bA.mk (aP.mk aY) (eG.mk iR.1 iR.2.1)))) else ((aEw (bA.mk (aP.mk aY) (eG.mk iR.1 iR.2.1)) y2 p2.items y1.2.2.2.2.1 y1.2.2.2.2.2 y4.1 (iR.2.2,([]:List aA),([]:List (List UInt8)),y1.2.2.1,y1.2.2.2.1))>>=fun y10=>(qE y10.2.1)>>=fun y11=>if y11=true then (some ((aQ.mk ([]:List Int) ([]:List (List aA)) ([]:List aA) ([]:List bN) ([]:List aA) ([]:List (List UInt8)) false 0),([]:List Int),y10.2.1)) else (some ((aQ.mk y1.2.2.2.2.1 y1.2.2.2.2.2 y4.1 iR.2.2 y10.2.2.2.2.1 y10.2.2.2.2.2 y10.2.2.1 y10.2.2.2.1),y10.1,y10.2.1))))
  partial_fixpoint
def aKn (p1:List bF) (p2:List bZ) (x18:Int) (mM:List bJ) (y1:bZ) (y3:bF×Int×(List UInt8)) (kd:Bool×Int×(List Int)×(((List (List aA))×(List aA)×(List bN)×(List aA)×(((List (List UInt8))×(List bI)×Int×(List UInt8)))))):Option (bF×bA×Bool×Int×(List Int)×(List (List aA))) :=
  (qE (bA.mk (aP.mk kd.2.2.2.2.2.2.2.2.1) (eG.mk kd.2.2.2.2.2.2.2.2.2.1 kd.2.2.2.2.2.2.2.2.2.2)))>>=fun y8=>if y8=true then (some ((bF.mk ([]:List bJ)),(bA.mk (aP.mk kd.2.2.2.2.2.2.2.2.1) (eG.mk kd.2.2.2.2.2.2.2.2.2.1 kd.2.2.2.2.2.2.2.2.2.2)),kd.1,kd.2.1,kd.2.2.1,kd.2.2.2.1)) else ((M8 (aP.mk kd.2.2.2.2.2.2.2.2.1) y1.table)>>=fun y9=>(appG 8 kd.2.2.1 ([y9]:List Int))>>=fun y10=>(aGm y3.1 p1)>>=fun y11=>(aAc (bA.mk (aP.mk kd.2.2.2.2.2.2.2.2.1) (eG.mk kd.2.2.2.2.2.2.2.2.2.1 kd.2.2.2.2.2.2.2.2.2.2)) y11 y1.on_)>>=fun y12=>(appG 24 kd.2.2.2.1 ([y12.1]:List (List aA)))>>=fun y13=>aE0 p1 p2 kd.1 kd.2.1 kd.2.2.2.2.1 kd.2.2.2.2.2.1 (kd.2.2.2.2.2.2.1,kd.2.2.2.2.2.2.2.1,(XZ .i64 (x18+1)),y3.1.names,y12.2.c.tables,y12.2.fault.code,y12.2.fault.name,y10,y13))
  partial_fixpoint
def aE0 (p1:List bF) (p2:List bZ) (kq:Bool) (kt:Int) (ke:List aA) (kp:List bN) (kc:(List aA)×(((List (List UInt8))×Int×(List bJ)×(List bI)×Int×(List UInt8)×(List Int)×(List (List aA))))):Option (bF×bA×Bool×Int×(List Int)×(List (List aA))) :=
  if (decide (kc.2.2.1<(p2.length:Int)))=true then ((idx p2 kc.2.2.1)>>=fun y1=>(rF p2 0 (XZ .i64 (kc.2.2.1+1)))>>=fun y2=>(aFi (aP.mk kc.2.2.2.2.1) y2)>>=fun y3=>if (!decide (y3.2.1=0))=true then ((xV (bA.mk (aP.mk kc.2.2.2.2.1) (eG.mk kc.2.2.2.2.2.1 kc.2.2.2.2.2.2.1)) y3.2.1 y3.2.2)>>=fun y4=>aKn p1 p2 kc.2.2.1 kc.2.2.2.1 y1 y3 (kq,kt,kc.2.2.2.2.2.2.2.1,kc.2.2.2.2.2.2.2.2,ke,kp,kc.1,kc.2.1,y4.c.tables,y4.fault.code,y4.fault.name)) else (aKn p1 p2 kc.2.2.1 kc.2.2.2.1 y1 y3 (kq,kt,kc.2.2.2.2.2.2.2.1,kc.2.2.2.2.2.2.2.2,ke,kp,kc.1,kc.2.1,kc.2.2.2.2.1,kc.2.2.2.2.2.1,kc.2.2.2.2.2.2.1))) else (some ((bF.mk kc.2.2.2.1),(bA.mk (aP.mk kc.2.2.2.2.1) (eG.mk kc.2.2.2.2.2.1 kc.2.2.2.2.2.2.1)),kq,kt,kc.2.2.2.2.2.2.2.1,kc.2.2.2.2.2.2.2.2))
  partial_fixpoint
def aEu (p0:bA) (p1:List bF) (p2:List bZ) (ka:List Int) (kf:List (List aA)) (ke:List aA) (kg:(List bN)×(List aA)×(((List (List UInt8))×Bool×Int))):Option (bF×bA×Bool×Int×(List Int)×(List (List aA))) :=
  aE0 p1 p2 kg.2.2.2.1 kg.2.2.2.2 ke kg.1 (kg.2.1,kg.2.2.1,0,([]:List bJ),p0.c.tables,p0.fault.code,p0.fault.name,ka,kf)
  partial_fixpoint
def aF4 (p1:List bF) (p2:aL) (x65:Int) (y10:aQ×(List Int)×bA) (rU:List aQ) (iU:List aA) (kV:(List Int)×(List bI)×Int×(List UInt8)):Option (aA×Int×bA) :=
  (qE (bA.mk (aP.mk kV.2.1) (eG.mk kV.2.2.1 kV.2.2.2)))>>=fun y23=>if y23=true then (some ((aA.mk 0 0 false (bH.mk 0 0 []) 0 0 ([]:List aA) ([]:List aQ)),0,(bA.mk (aP.mk kV.2.1) (eG.mk kV.2.2.1 kV.2.2.2)))) else ((appG 160 rU ([y10.1]:List aQ))>>=fun y24=>X8 p1 p2 iU kV.1 (XZ .i64 (x65+1)) kV.2.1 (kV.2.2.1,kV.2.2.2,y24,y10.2.1))
  partial_fixpoint
def X8 (p1:List bF) (p2:aL) (iU:List aA) (qP:List Int) (x65:Int) (nM:List bI) (iG:Int×(List UInt8)×(List aQ)×(List Int)):Option (aA×Int×bA) :=
  if (decide (x65<(p2.sub.length:Int)))=true then ((idx p2.sub x65)>>=fun y9=>(aBy (bA.mk (aP.mk nM) (eG.mk iG.1 iG.2.1)) p1 y9)>>=fun y10=>(qE y10.2.2)>>=fun y11=>(some (if (!y11)=true then (decide (p2.kind=8)) else false))>>=fun y12=>(some (if y12=true then (!decide ((y10.2.1.length:Int)=1)) else false))>>=fun y13=>if y13=true then ((xV y10.2.2 6 [])>>=fun y14=>aF4 p1 p2 x65 y10 iG.2.2.1 iU (qP,y14.c.tables,y14.fault.code,y14.fault.name)) else (aF4 p1 p2 x65 y10 iG.2.2.1 iU (qP,y10.2.2.c.tables,y10.2.2.fault.code,y10.2.2.fault.name))) else (if (decide (p2.kind=2))=true then ((aI0 p1 p2.qual p2.name)>>=fun y18=>if (!decide (y18.2=0))=true then ((aU3 p2.qual p2.name)>>=fun y19=>(xV (bA.mk (aP.mk nM) (eG.mk iG.1 iG.2.1)) y18.2 y19)>>=fun y20=>some ((aA.mk 0 0 false (bH.mk 0 0 []) 0 0 ([]:List aA) ([]:List aQ)),0,y20)) else (some ((aA.mk p2.kind p2.op p2.not_ p2.value y18.1.up y18.1.at_ iU iG.2.2.1),y18.1.type,(bA.mk (aP.mk nM) (eG.mk iG.1 iG.2.1))))) else ((qM (aA.mk p2.kind p2.op p2.not_ p2.value 0 0 iU iG.2.2.1) qP iG.2.2.2)>>=fun y21=>if (!y21.2)=true then ((xV (bA.mk (aP.mk nM) (eG.mk iG.1 iG.2.1)) 5 [])>>=fun y22=>some ((aA.mk 0 0 false (bH.mk 0 0 []) 0 0 ([]:List aA) ([]:List aQ)),0,y22)) else (some ((aA.mk p2.kind p2.op p2.not_ p2.value 0 0 iU iG.2.2.1),y21.1,(bA.mk (aP.mk nM) (eG.mk iG.1 iG.2.1))))))
  partial_fixpoint
def aA5 (p1:List bF) (p2:aL) (x37:Int) (aY:List bI) (bD:Int) (bG:List UInt8) (nI:(List aA)×(List Int)):Option (aA×Int×bA) :=
  if (decide (x37<(p2.kids.length:Int)))=true then ((idx p2.kids x37)>>=fun y1=>(vM (bA.mk (aP.mk aY) (eG.mk bD bG)) p1 y1)>>=fun y2=>(qE y2.2.2)>>=fun y3=>if y3=true then (some ((aA.mk 0 0 false (bH.mk 0 0 []) 0 0 ([]:List aA) ([]:List aQ)),0,y2.2.2)) else ((appG 120 nI.1 ([y2.1]:List aA))>>=fun y4=>(appG 8 nI.2 ([y2.2.1]:List Int))>>=fun y5=>aA5 p1 p2 (XZ .i64 (x37+1)) y2.2.2.c.tables y2.2.2.fault.code y2.2.2.fault.name (y4,y5))) else (X8 p1 p2 nI.1 nI.2 0 aY (bD,bG,([]:List aQ),([]:List Int)))
  partial_fixpoint
def vM (p0:bA) (p1:List bF) (p2:aL):Option (aA×Int×bA) :=
  aA5 p1 p2 0 p0.c.tables p0.fault.code p0.fault.name (([]:List aA),([]:List Int))
  partial_fixpoint
def aLi (p1:List bF) (p2:List aL) (x15:Int) (y2:aA×Int×bA) (jH:List aA) (kX:List bI) (qW:Int×(List UInt8)):Option ((List aA)×bA) :=
  (appG 120 jH ([y2.1]:List aA))>>=fun y10=>aCk p1 p2 (XZ .i64 (x15+1)) kX qW.1 qW.2 y10
  partial_fixpoint
def aCk (p1:List bF) (p2:List aL) (x15:Int) (aY:List bI) (bD:Int) (bG:List UInt8) (jH:List aA):Option ((List aA)×bA) :=
  if (decide (x15<(p2.length:Int)))=true then ((idx p2 x15)>>=fun y1=>(vM (bA.mk (aP.mk aY) (eG.mk bD bG)) p1 y1)>>=fun y2=>(qE y2.2.2)>>=fun y3=>(if (true&&((!y3)==true))=true then qQ y2.2.1 else some default)>>=fun y4=>(some (if (!y3)=true then (!y4) else false))>>=fun y5=>if y5=true then ((xV y2.2.2 5 [])>>=fun y6=>aLi p1 p2 x15 y2 jH y6.c.tables (y6.fault.code,y6.fault.name)) else (aLi p1 p2 x15 y2 jH y2.2.2.c.tables (y2.2.2.fault.code,y2.2.2.fault.name))) else (some (jH,(bA.mk (aP.mk aY) (eG.mk bD bG))))
  partial_fixpoint
def aAc (p0:bA) (p1:List bF) (p2:List aL):Option ((List aA)×bA) :=
  aCk p1 p2 0 p0.c.tables p0.fault.code p0.fault.name ([]:List aA)
  partial_fixpoint
def aBy (p0:bA) (p1:List bF) (p2:aV):Option (aQ×(List Int)×bA) :=
  (aEu p0 p1 p2.from_ ([]:List Int) ([]:List (List aA)) ([]:List aA) (([]:List bN),([]:List aA),([]:List (List UInt8)),p2.distinct,p2.limit))>>=fun y1=>(aGm y1.1 p1)>>=fun y2=>(qE y1.2.1)>>=fun y3=>if y3=true then (some ((aQ.mk ([]:List Int) ([]:List (List aA)) ([]:List aA) ([]:List bN) ([]:List aA) ([]:List (List UInt8)) false 0),([]:List Int),y1.2.1)) else ((aAc y1.2.1 y2 p2.where_)>>=fun y4=>aCm y2 p2 y1 y4 0 y4.2.c.tables (y4.2.fault.code,y4.2.fault.name,([]:List bN)))
  partial_fixpoint
end
def aLb (p0:aP) (p1:aV):Option (aQ×eG) :=
  (aE4 p0)>>=fun y1=>(if (true&&((!y1)==false))=true then aCc p1 else some default)>>=fun y2=>(some (if (!y1)=true then true else (!y2)))>>=fun y3=>if y3=true then (some ((aQ.mk ([]:List Int) ([]:List (List aA)) ([]:List aA) ([]:List bN) ([]:List aA) ([]:List (List UInt8)) false 0),(eG.mk 9 []))) else ((aBy (bA.mk p0 (eG.mk 0 [])) ([]:List bF) p1)>>=fun y4=>(qE y4.2.2)>>=fun y5=>(if (true&&((!y5)==true))=true then zT y4.1 else some default)>>=fun y6=>(if (true&&((!y5)==true))=true then F3 y4.1 else some default)>>=fun y7=>(if (true&&((!y5)==true))=true then J9 y6 y7 else some default)>>=fun y8=>(some (if (!y5)=true then (!y8) else false))>>=fun y9=>if y9=true then ((xV y4.2.2 8 [])>>=fun y10=>aL9 y4 y10.c.tables y10.fault.code y10.fault.name) else (aL9 y4 y4.2.2.c.tables y4.2.2.fault.code y4.2.2.fault.name))
def aLa (p0:bF) (p1:List bF):Option (List bF) :=
  (appG 24 ([p0]:List bF) p1)>>=fun y1=>some y1
mutual
def aC4 (x0:Int) (p0:Int) (x4:List UInt8) (x5:Int):Option (List UInt8) :=
  (ofBytes ([(XZ .u8 (XZ .i64 (48+x5)))]:List Int))>>=fun y2=>(lM y2 x4)>>=fun y3=>O0 p0 (XZ .i64 (Int.tdiv x0 10)) y3
  partial_fixpoint
def O0 (p0:Int) (x0:Int) (x4:List UInt8):Option (List UInt8) :=
  if (!decide (x0=0))=true then (if (decide ((Int.tmod x0 10)<0))=true then (aC4 x0 p0 x4 (XZ .i64 (0 - (Int.tmod x0 10)))) else (aC4 x0 p0 x4 (Int.tmod x0 10))) else (if (decide (p0<0))=true then ((lM [45] x4)>>=fun y1=>some y1) else (some x4))
  partial_fixpoint
end
def O5 (p0:Int):Option (List UInt8) :=
  if (decide (p0=0))=true then (some [48]) else (O0 p0 p0 [])
def aH9 (p0:Int) (p1:Int):Option (List UInt8) :=
  (O5 p0)>>=fun y1=>(lM [113] y1)>>=fun y2=>(lM y2 [95])>>=fun y3=>(O5 p1)>>=fun y4=>(lM y3 y4)>>=fun y5=>some y5
mutual
def aAz (p1:List Int) (p2:Int) (x8:Int) (p0:aP) (y2:bI) (jW:List bJ) (x10:Int):Option (List bJ) :=
  if (decide (x10<(y2.cols.length:Int)))=true then ((aH9 p2 x8)>>=fun y4=>(idx y2.cols x10)>>=fun y5=>(idx y2.cols x10)>>=fun y6=>(appG 40 jW ([(bJ.mk y4 y5.name y6.type)]:List bJ))>>=fun y7=>aAz p1 p2 x8 p0 y2 y7 (XZ .i64 (x10+1))) else (aCt p1 p2 p0 jW (XZ .i64 (x8+1)))
  partial_fixpoint
def aCt (p1:List Int) (p2:Int) (p0:aP) (x7:List bJ) (x8:Int):Option (List bJ) :=
  if (decide (x8<(p1.length:Int)))=true then ((idx p1 x8)>>=fun y1=>(idx p0.tables y1)>>=fun y2=>aAz p1 p2 x8 p0 y2 x7 0) else (some x7)
  partial_fixpoint
end
def aJz (p0:aP) (p1:List Int) (p2:Int):Option (List bJ) :=
  aCt p1 p2 p0 ([]:List bJ) 0
mutual
def xB (y2:List bF) (p0:aP) (p2:aQ) (jM:List eH) (bR:List bZ) (y3:List aL) (x12:Int) (pW:List dU):Option aV :=
  if (decide (x12<(p2.items.length:Int)))=true then ((idx p2.items x12)>>=fun y14=>(yH p0 y2 y14)>>=fun y15=>(idx p2.names x12)>>=fun y16=>(appG 176 pW ([(dU.mk false [] y15 y16)]:List dU))>>=fun y17=>xB y2 p0 p2 jM bR y3 (XZ .i64 (x12+1)) y17) else (some (aV.mk p2.distinct pW bR y3 jM p2.limit))
  partial_fixpoint
def A7 (y2:List bF) (p0:aP) (p2:aQ) (bR:List bZ) (y3:List aL) (x11:Int) (jM:List eH):Option aV :=
  if (decide (x11<(p2.order.length:Int)))=true then ((idx p2.order x11)>>=fun y10=>(yH p0 y2 y10.expr)>>=fun y11=>(idx p2.order x11)>>=fun y12=>(appG 144 jM ([(eH.mk y11 y12.desc)]:List eH))>>=fun y13=>A7 y2 p0 p2 bR y3 (XZ .i64 (x11+1)) y13) else (xB y2 p0 p2 jM bR y3 0 ([]:List dU))
  partial_fixpoint
def aC3 (p1:List bF) (y2:List bF) (p0:aP) (p2:aQ) (y3:List aL) (x10:Int) (bR:List bZ):Option aV :=
  if (decide (x10<(p2.tables.length:Int)))=true then ((idx p2.tables x10)>>=fun y4=>(idx p0.tables y4)>>=fun y5=>(aH9 (p1.length:Int) x10)>>=fun y6=>(idx p2.on_ x10)>>=fun y7=>(aC2 p0 y2 y7)>>=fun y8=>(appG 56 bR ([(bZ.mk y5.name y6 y8)]:List bZ))>>=fun y9=>aC3 p1 y2 p0 p2 y3 (XZ .i64 (x10+1)) y9) else (A7 y2 p0 p2 bR y3 0 ([]:List eH))
  partial_fixpoint
def aBr (p1:List bF) (p0:aP) (p2:aA) (iA:List UInt8) (gX:List UInt8) (y1:List aL) (x9:Int) (pY:List aV):Option aL :=
  if (decide (x9<(p2.sub.length:Int)))=true then ((idx p2.sub x9)>>=fun y4=>(aD8 p0 p1 y4)>>=fun y5=>(appG 112 pY ([y5]:List aV))>>=fun y6=>aBr p1 p0 p2 iA gX y1 (XZ .i64 (x9+1)) y6) else (some (aL.mk p2.kind p2.op p2.not_ p2.value iA gX y1 pY))
  partial_fixpoint
def aGy (p1:List bF) (p0:aP) (p2:aA) (y1:List aL) (iA:List UInt8) (gX:List UInt8):Option aL :=
  aBr p1 p0 p2 iA gX y1 0 ([]:List aV)
  partial_fixpoint
def yH (p0:aP) (p1:List bF) (p2:aA):Option aL :=
  (aC2 p0 p1 p2.kids)>>=fun y1=>if (decide (p2.kind=2))=true then ((idx p1 p2.up)>>=fun y2=>(idx y2.names p2.at_)>>=fun y3=>aGy p1 p0 p2 y1 y3.qual y3.name) else (aGy p1 p0 p2 y1 [] [])
  partial_fixpoint
def aD6 (p1:List bF) (p2:List aA) (p0:aP) (x8:Int) (pX:List aL):Option (List aL) :=
  if (decide (x8<(p2.length:Int)))=true then ((idx p2 x8)>>=fun y1=>(yH p0 p1 y1)>>=fun y2=>(appG 136 pX ([y2]:List aL))>>=fun y3=>aD6 p1 p2 p0 (XZ .i64 (x8+1)) y3) else (some pX)
  partial_fixpoint
def aC2 (p0:aP) (p1:List bF) (p2:List aA):Option (List aL) :=
  aD6 p1 p2 p0 0 ([]:List aL)
  partial_fixpoint
def aD8 (p0:aP) (p1:List bF) (p2:aQ):Option aV :=
  (aJz p0 p2.tables (p1.length:Int))>>=fun y1=>(aLa (bF.mk y1) p1)>>=fun y2=>(aC2 p0 y2 p2.where_)>>=fun y3=>aC3 p1 y2 p0 p2 y3 0 ([]:List bZ)
  partial_fixpoint
end
def xA (p1:List UInt8) (p0:bI) (x5:Int):Option Int :=
  if (decide (x5<(p0.cols.length:Int)))=true then ((idx p0.cols x5)>>=fun y1=>if (decide (y1.name=p1))=true then (some x5) else (xA p1 p0 (XZ .i64 (x5+1)))) else (some (-1))
  partial_fixpoint
def wC (p0:bI) (p1:List UInt8):Option Int :=
  xA p1 p0 0
def iX (p0:Int) (p1:Int) (p2:Int):Option Bool :=
  (some (if (decide (p1≤p0))=true then (decide (p0≤p2)) else false))>>=fun y1=>some y1
def lX (p0:List UInt8):Option Bool :=
  (iX (p0.length:Int) 1 20)>>=fun y1=>some y1
def xD (p1:List UInt8) (p0:aP) (x5:Int):Option Int :=
  if (decide (x5<(p0.tables.length:Int)))=true then ((idx p0.tables x5)>>=fun y1=>if (decide (y1.name=p1))=true then (some x5) else (xD p1 p0 (XZ .i64 (x5+1)))) else (some (-1))
  partial_fixpoint
def sN (p0:aP) (p1:List UInt8):Option Int :=
  xD p1 p0 0
mutual
def I1 (x3:Int) (p0:aP) (y1:bI) (x5:Int):Option Bool :=
  if (decide (x5<(y1.cols.length:Int)))=true then ((idx y1.cols x5)>>=fun y7=>(lX y7.name)>>=fun y8=>(if (true&&((!y8)==false))=true then idx y1.cols x5 else some default)>>=fun y9=>(if (true&&((!y8)==false))=true then wC y1 y9.name else some default)>>=fun y10=>(some (if (!y8)=true then true else (!decide (y10=x5))))>>=fun y11=>(if (true&&(y11==false))=true then idx y1.cols x5 else some default)>>=fun y12=>(if (true&&(y11==false))=true then iX y12.type 1 3 else some default)>>=fun y13=>(some (if y11=true then true else (!y13)))>>=fun y14=>if y14=true then (some false) else (I1 x3 p0 y1 (XZ .i64 (x5+1)))) else (aBg p0 (XZ .i64 (x3+1)))
  partial_fixpoint
def aBg (p0:aP) (x3:Int):Option Bool :=
  if (decide (x3<(p0.tables.length:Int)))=true then ((idx p0.tables x3)>>=fun y1=>(lX y1.name)>>=fun y2=>(if (true&&((!y2)==false))=true then sN p0 y1.name else some default)>>=fun y3=>(some (if (!y2)=true then true else (!decide (y3=x3))))>>=fun y4=>(if (true&&(y4==false))=true then iX (y1.cols.length:Int) 1 4 else some default)>>=fun y5=>(some (if y4=true then true else (!y5)))>>=fun y6=>if y6=true then (some false) else (I1 x3 p0 y1 0)) else (some true)
  partial_fixpoint
end
def aJj (p0:aP):Option Bool :=
  if (decide (4<(p0.tables.length:Int)))=true then (some false) else (aBg p0 0)
def O9 (p0:aQ) (cK:List aA) (x5:Int):Option (List aA) :=
  if (decide (x5<(p0.order.length:Int)))=true then ((idx p0.order x5)>>=fun y5=>(appG 120 cK ([y5.expr]:List aA))>>=fun y6=>O9 p0 y6 (XZ .i64 (x5+1))) else ((appG 120 cK p0.items)>>=fun y7=>some y7)
  partial_fixpoint
def aDk (p0:aQ) (x3:List aA) (x4:Int):Option (List aA) :=
  if (decide (x4<(p0.on_.length:Int)))=true then ((idx p0.on_ x4)>>=fun y1=>(appG 120 x3 y1)>>=fun y2=>aDk p0 y2 (XZ .i64 (x4+1))) else ((appG 120 x3 p0.where_)>>=fun y3=>O9 p0 y3 0)
  partial_fixpoint
def aH2 (p0:aQ):Option (List aA) :=
  aDk p0 ([]:List aA) 0
def pU (p0:Int) (p1:Int):Option Int :=
  if (decide (p1<p0))=true then (some p0) else (some p1)
mutual
def xR (p0:aA) (cK:Int) (x5:Int):Option Int :=
  if (decide (x5<(p0.sub.length:Int)))=true then ((idx p0.sub x5)>>=fun y5=>(M6 y5)>>=fun y6=>(pU cK y6)>>=fun y7=>xR p0 y7 (XZ .i64 (x5+1))) else (some (XZ .i64 (cK+1)))
  partial_fixpoint
def M9 (p0:aA) (x3:Int) (x4:Int):Option Int :=
  if (decide (x4<(p0.kids.length:Int)))=true then ((idx p0.kids x4)>>=fun y1=>(yL y1)>>=fun y2=>(pU x3 y2)>>=fun y3=>M9 p0 y3 (XZ .i64 (x4+1))) else (xR p0 x3 0)
  partial_fixpoint
def yL (p0:aA):Option Int :=
  M9 p0 0 0
  partial_fixpoint
def aEe (y1:List aA) (x3:Int) (x5:Int):Option Int :=
  if (decide (x5<(y1.length:Int)))=true then ((idx y1 x5)>>=fun y2=>(yL y2)>>=fun y3=>(pU x3 y3)>>=fun y4=>aEe y1 y4 (XZ .i64 (x5+1))) else (some x3)
  partial_fixpoint
def M6 (p0:aQ):Option Int :=
  (aH2 p0)>>=fun y1=>aEe y1 0 0
  partial_fixpoint
end
mutual
def xI (p0:aA) (fH:Int) (x5:Int):Option Int :=
  if (decide (x5<(p0.sub.length:Int)))=true then ((idx p0.sub x5)>>=fun y4=>(Q7 y4)>>=fun y5=>xI p0 (XZ .i64 (fH+y5)) (XZ .i64 (x5+1))) else (some fH)
  partial_fixpoint
def G6 (p0:aA) (x3:Int) (x4:Int):Option Int :=
  if (decide (x4<(p0.kids.length:Int)))=true then ((idx p0.kids x4)>>=fun y1=>(yE y1)>>=fun y2=>G6 p0 (XZ .i64 (x3+y2)) (XZ .i64 (x4+1))) else (xI p0 x3 0)
  partial_fixpoint
def yE (p0:aA):Option Int :=
  G6 p0 1 0
  partial_fixpoint
def aDq (y1:List aA) (x3:Int) (x5:Int):Option Int :=
  if (decide (x5<(y1.length:Int)))=true then ((idx y1 x5)>>=fun y2=>(yE y2)>>=fun y3=>aDq y1 (XZ .i64 (x3+y3)) (XZ .i64 (x5+1))) else (some x3)
  partial_fixpoint
def Q7 (p0:aQ):Option Int :=
  (aH2 p0)>>=fun y1=>aDq y1 0 0
  partial_fixpoint
end
def aBa (p0:bI) (x3:List Int) (x4:Int):Option (List Int) :=
  if (decide (x4<(p0.cols.length:Int)))=true then ((idx p0.cols x4)>>=fun y1=>(appG 8 x3 ([y1.type]:List Int))>>=fun y2=>aBa p0 y2 (XZ .i64 (x4+1))) else (some x3)
  partial_fixpoint
def aKe (p0:bI):Option (List Int) :=
  aBa p0 ([]:List Int) 0
def aA3 (p1:List Int) (p0:aP) (x6:List Int) (x7:Int):Option ((List Int)×Bool) :=
  if (decide (x7<(p1.length:Int)))=true then ((idx p1 x7)>>=fun y1=>(iX y1 0 (XZ .i64 ((p0.tables.length:Int) - 1)))>>=fun y2=>if (!y2)=true then (some (([]:List Int),false)) else ((idx p1 x7)>>=fun y3=>(idx p0.tables y3)>>=fun y4=>(aKe y4)>>=fun y5=>(appG 8 x6 y5)>>=fun y6=>aA3 p1 p0 y6 (XZ .i64 (x7+1)))) else (some (x6,true))
  partial_fixpoint
def N8 (p0:aP) (p1:List Int):Option ((List Int)×Bool) :=
  aA3 p1 p0 ([]:List Int) 0
def U8 (p0:aP) (p1:aQ) (x6:Int):Option Bool :=
  if (decide (x6<(p1.names.length:Int)))=true then ((idx p1.names x6)>>=fun y12=>(lX y12)>>=fun y13=>if (!y13)=true then (some false) else (U8 p0 p1 (XZ .i64 (x6+1)))) else ((N8 p0 p1.tables)>>=fun y14=>some y14.2)
  partial_fixpoint
def I7 (p0:aP) (p1:aQ) (x5:Int):Option Bool :=
  if (decide (x5<(p1.on_.length:Int)))=true then ((idx p1.on_ x5)>>=fun y11=>if (decide (1<(y11.length:Int)))=true then (some false) else (I7 p0 p1 (XZ .i64 (x5+1)))) else (U8 p0 p1 0)
  partial_fixpoint
def aJg (p0:aP) (p1:aQ):Option Bool :=
  (iX (p1.tables.length:Int) 1 3)>>=fun y1=>(some (if (!y1)=true then true else (!decide ((p1.on_.length:Int)=(p1.tables.length:Int)))))>>=fun y2=>(if (true&&(y2==false))=true then idx p1.on_ 0 else some default)>>=fun y3=>(some (if y2=true then true else (decide (0<(y3.length:Int)))))>>=fun y4=>(some (if y4=true then true else (decide (1<(p1.where_.length:Int)))))>>=fun y5=>(some (if y5=true then true else (decide (12<(p1.order.length:Int)))))>>=fun y6=>(if (true&&(y6==false))=true then iX (p1.items.length:Int) 1 12 else some default)>>=fun y7=>(some (if y6=true then true else (!y7)))>>=fun y8=>(some (if y8=true then true else (!decide ((p1.names.length:Int)=(p1.items.length:Int)))))>>=fun y9=>(some (if y9=true then true else (decide (p1.limit<(-1)))))>>=fun y10=>if y10=true then (some false) else (I7 p0 p1 0)
def aBs (p0:List Int) (p1:List (List Int)):Option (List (List Int)) :=
  (appG 24 ([p0]:List (List Int)) p1)>>=fun y1=>some y1
def aB6 (p0:Int):Option Bool :=
  (some (if (decide (p0=0))=true then true else (decide (p0=3))))>>=fun y1=>some y1
def aA7 (p0:bH):Option Bool :=
  if (decide (p0.kind=0))=true then ((some (if (decide (p0.num=0))=true then (decide (p0.text=[])) else false))>>=fun y1=>some y1) else (if (decide (p0.kind=1))=true then (some (decide (p0.text=[]))) else (if (decide (p0.kind=2))=true then ((some (if (decide (p0.num=0))=true then (decide ((p0.text.length:Int)≤200)) else false))>>=fun y2=>some y2) else (if (decide (p0.kind=3))=true then ((iX p0.num 0 1)>>=fun y3=>(some (if y3=true then (decide (p0.text=[])) else false))>>=fun y4=>some y4) else (some false))))
def M3 (p0:bH):Option Bool :=
  (aA7 p0)>>=fun y1=>(if (true&&(y1==true))=true then some (if (!decide (p0.kind=1))=true then true else (decide (0≤p0.num))) else some default)>>=fun y2=>(some (if y1=true then y2 else false))>>=fun y3=>(some (if y3=true then (decide ((p0.text.length:Int)≤40)) else false))>>=fun y4=>some y4
def lZ (p0:List UInt8):Option Bool :=
  (if (true&&((decide (p0=[]))==false))=true then lX p0 else some default)>>=fun y1=>(some (if (decide (p0=[]))=true then true else y1))>>=fun y2=>some y2
def qH (p0:aL):Option Bool :=
  (if (true&&((!decide (p0.kind=2))==true))=true then some (if (!decide (p0.qual=[]))=true then true else (!decide (p0.name=[]))) else some default)>>=fun y1=>(some (if (!decide (p0.kind=2))=true then y1 else false))>>=fun y2=>(if (true&&(y2==false))=true then some (if (!decide (p0.kind=1))=true then (!((decide (p0.value.kind=0))&&((decide (p0.value.num=0))&&((decide (p0.value.text=[]))&&true)))) else false) else some default)>>=fun y3=>(some (if y2=true then true else y3))>>=fun y4=>if y4=true then (some false) else ((some (if (!decide (p0.kind=3))=true then (!decide (p0.kind=4)) else false))>>=fun y5=>(some (if y5=true then (!decide (p0.op=0)) else false))>>=fun y6=>(if ((true&&(y6==false))&&(p0.not_==true))=true then iX p0.kind 5 8 else some default)>>=fun y7=>(if (true&&(y6==false))=true then some (if p0.not_=true then (!y7) else false) else some default)>>=fun y8=>(some (if y6=true then true else y8))>>=fun y9=>if y9=true then (some false) else (if (decide (p0.kind=1))=true then ((M3 p0.value)>>=fun y10=>(some (if y10=true then (decide ((XZ .i64 ((p0.kids.length:Int)+(p0.sub.length:Int)))=0)) else false))>>=fun y11=>some y11) else (if (decide (p0.kind=2))=true then ((lX p0.name)>>=fun y12=>(if (true&&(y12==true))=true then lZ p0.qual else some default)>>=fun y13=>(some (if y12=true then y13 else false))>>=fun y14=>(some (if y14=true then (decide ((XZ .i64 ((p0.kids.length:Int)+(p0.sub.length:Int)))=0)) else false))>>=fun y15=>some y15) else (if (decide (p0.kind=3))=true then ((some (if (decide (p0.op=15))=true then true else (decide (p0.op=16))))>>=fun y16=>(some (if y16=true then (decide ((p0.kids.length:Int)=1)) else false))>>=fun y17=>(some (if y17=true then (decide ((p0.sub.length:Int)=0)) else false))>>=fun y18=>some y18) else (if (decide (p0.kind=4))=true then ((iX p0.op 1 14)>>=fun y19=>(some (if y19=true then (decide ((p0.kids.length:Int)=2)) else false))>>=fun y20=>(some (if y20=true then (decide ((p0.sub.length:Int)=0)) else false))>>=fun y21=>some y21) else (if (decide (p0.kind=5))=true then ((some (if (decide ((p0.kids.length:Int)=1))=true then (decide ((p0.sub.length:Int)=0)) else false))>>=fun y22=>some y22) else (if (decide (p0.kind=6))=true then ((some (if (decide ((p0.kids.length:Int)=3))=true then (decide ((p0.sub.length:Int)=0)) else false))>>=fun y23=>some y23) else (if (decide (p0.kind=7))=true then ((iX (p0.kids.length:Int) 2 9)>>=fun y24=>(some (if y24=true then (decide ((p0.sub.length:Int)=0)) else false))>>=fun y25=>some y25) else (if (decide (p0.kind=8))=true then ((some (if (decide ((p0.kids.length:Int)=1))=true then (decide ((p0.sub.length:Int)=1)) else false))>>=fun y26=>some y26) else (if (decide (p0.kind=9))=true then ((some (if (decide ((p0.kids.length:Int)=0))=true then (decide ((p0.sub.length:Int)=1)) else false))>>=fun y27=>some y27) else (some false)))))))))))
def aFy (p0:aA) (y3:List aL) (y4:List aV) (pE:List UInt8):Option Bool :=
  (qH (aL.mk p0.kind p0.op p0.not_ p0.value [] pE y3 y4))>>=fun y5=>some y5
def xY (p0:aA):Option Bool :=
  (if (true&&((!decide (p0.kind=2))==true))=true then some (if (!decide (p0.up=0))=true then true else (!decide (p0.at_=0))) else some default)>>=fun y1=>(some (if (!decide (p0.kind=2))=true then y1 else false))>>=fun y2=>if y2=true then (some false) else ((mkG 136 (p0.kids.length:Int) ((aL.mk 0 0 false (bH.mk 0 0 []) [] [] ([]:List aL) ([]:List aV)):aL))>>=fun y3=>(mkG 112 (p0.sub.length:Int) ((aV.mk false ([]:List dU) ([]:List bZ) ([]:List aL) ([]:List eH) 0):aV))>>=fun y4=>if (decide (p0.kind=2))=true then (aFy p0 y3 y4 [97]) else (aFy p0 y3 y4 []))
def uV (p0:Int) (p1:Bool):Option (Int×Bool) :=
  if (!p1)=true then (some (0,false)) else (some (p0,true))
def aEp (p0:Int) (p1:Int):Option Bool :=
  (some (if (decide (p0=0))=true then true else (decide (p0=p1))))>>=fun y1=>some y1
def aKs (p1:Int) (p2:Int) (x10:Int):Option (Int×Bool) :=
  (aEp p1 x10)>>=fun y12=>(if (true&&(y12==true))=true then aEp p2 x10 else some default)>>=fun y13=>(some (if y12=true then y13 else false))>>=fun y14=>(uV x10 y14)>>=fun y15=>some (y15.1,y15.2)
def J8 (p0:Int):Option Bool :=
  (iX p0 0 3)>>=fun y1=>some y1
def aA1 (p0:Int) (p1:Int):Option (Int×Bool) :=
  (J8 p0)>>=fun y1=>(if (true&&((!y1)==false))=true then J8 p1 else some default)>>=fun y2=>(some (if (!y1)=true then true else (!y2)))>>=fun y3=>if y3=true then (some (0,false)) else (if (decide (p0=0))=true then (some (p1,true)) else ((some (if (decide (p1=0))=true then true else (decide (p0=p1))))>>=fun y4=>if y4=true then (some (p0,true)) else (some (0,false))))
def aIn (p0:Int) (p1:Int) (p2:Int):Option (Int×Bool) :=
  (iX p0 1 14)>>=fun y1=>(if (true&&((!y1)==false))=true then J8 p1 else some default)>>=fun y2=>(some (if (!y1)=true then true else (!y2)))>>=fun y3=>(if (true&&(y3==false))=true then J8 p2 else some default)>>=fun y4=>(some (if y3=true then true else (!y4)))>>=fun y5=>if y5=true then (some (0,false)) else (if (decide (p0≤2))=true then ((aB6 p1)>>=fun y6=>(if (true&&(y6==true))=true then aB6 p2 else some default)>>=fun y7=>(some (if y6=true then y7 else false))>>=fun y8=>(uV 3 y8)>>=fun y9=>some (y9.1,y9.2)) else (if (decide (p0≤8))=true then ((aA1 p1 p2)>>=fun y10=>(uV 3 y10.2)>>=fun y11=>some (y11.1,y11.2)) else (if (decide (p0=9))=true then (aKs p1 p2 2) else (aKs p1 p2 1))))
def Q4 (p0:List Int) (x3:Int) (x4:Int):Option Bool :=
  if (decide (x4<(p0.length:Int)))=true then ((idx p0 x4)>>=fun y1=>(aA1 x3 y1)>>=fun y2=>if (!y2.2)=true then (some false) else (Q4 p0 y2.1 (XZ .i64 (x4+1)))) else (some true)
  partial_fixpoint
def aB2 (p0:List Int):Option Bool :=
  Q4 p0 0 0
def zC (p2:aA) (aBm:List Int):Option (Int×Bool) :=
  if (decide (p2.kind=5))=true then (some (3,true)) else ((aB2 aBm)>>=fun y23=>(uV 3 y23)>>=fun y24=>some (y24.1,y24.2))
def aKf (p0:Int) (p1:Int):Option (Int×Bool) :=
  if (decide (p0=15))=true then ((aB6 p1)>>=fun y1=>(uV 3 y1)>>=fun y2=>some (y2.1,y2.2)) else (if (decide (p0=16))=true then ((aEp p1 1)>>=fun y3=>(uV 1 y3)>>=fun y4=>some (y4.1,y4.2)) else (some (0,false)))
mutual
def I9 (y8:List (List Int)) (p0:aP) (p2:aQ) (x17:List Int) (x18:Int):Option ((List Int)×Bool) :=
  if (decide (x18<(p2.items.length:Int)))=true then ((idx p2.items x18)>>=fun y12=>(aB1 p0 y8 y12)>>=fun y13=>if (!y13.2)=true then (some (([]:List Int),false)) else ((appG 8 x17 ([y13.1]:List Int))>>=fun y14=>I9 y8 p0 p2 y14 (XZ .i64 (x18+1)))) else (some (x17,true))
  partial_fixpoint
def aB0 (y8:List (List Int)) (p0:aP) (p2:aQ) (x14:Int):Option ((List Int)×Bool) :=
  if (decide (x14<(p2.order.length:Int)))=true then ((idx p2.order x14)>>=fun y10=>(aB1 p0 y8 y10.expr)>>=fun y11=>if (!y11.2)=true then (some (([]:List Int),false)) else (aB0 y8 p0 p2 (XZ .i64 (x14+1)))) else (I9 y8 p0 p2 ([]:List Int) 0)
  partial_fixpoint
def tN (p1:List (List Int)) (p0:aP) (p2:aA) (x8:List Int) (x9:Int):Option (Int×Bool) :=
  if (decide (x9<(p2.kids.length:Int)))=true then ((idx p2.kids x9)>>=fun y2=>(aB1 p0 p1 y2)>>=fun y3=>if (!y3.2)=true then (some (0,false)) else ((appG 8 x8 ([y3.1]:List Int))>>=fun y4=>tN p1 p0 p2 y4 (XZ .i64 (x9+1)))) else (if (decide (p2.kind=1))=true then (some (p2.value.kind,true)) else (if (decide (p2.kind=2))=true then ((iX p2.up 0 (XZ .i64 ((p1.length:Int) - 1)))>>=fun y5=>(if (true&&((!y5)==false))=true then idx p1 p2.up else some default)>>=fun y6=>(if (true&&((!y5)==false))=true then iX p2.at_ 0 (XZ .i64 ((y6.length:Int) - 1)) else some default)>>=fun y7=>(some (if (!y5)=true then true else (!y7)))>>=fun y8=>if y8=true then (some (0,false)) else ((idx p1 p2.up)>>=fun y9=>(idx y9 p2.at_)>>=fun y10=>some (y10,true))) else (if (decide (p2.kind=3))=true then ((idx x8 0)>>=fun y11=>(aKf p2.op y11)>>=fun y12=>some (y12.1,y12.2)) else (if (decide (p2.kind=4))=true then ((idx x8 0)>>=fun y13=>(idx x8 1)>>=fun y14=>(aIn p2.op y13 y14)>>=fun y15=>some (y15.1,y15.2)) else (if (decide (0<(p2.sub.length:Int)))=true then ((idx p2.sub 0)>>=fun y16=>(aHs p0 p1 y16)>>=fun y17=>(if (true&&((!y17.2)==false))=true then some (if (decide (p2.kind=8))=true then (!decide ((y17.1.length:Int)=1)) else false) else some default)>>=fun y18=>(some (if (!y17.2)=true then true else y18))>>=fun y19=>if y19=true then (some (0,false)) else (if (decide (p2.kind=8))=true then ((idx y17.1 0)>>=fun y20=>(appG 8 x8 ([y20]:List Int))>>=fun y21=>zC p2 y21) else (zC p2 x8))) else (zC p2 x8))))))
  partial_fixpoint
def aB1 (p0:aP) (p1:List (List Int)) (p2:aA):Option (Int×Bool) :=
  (xY p2)>>=fun y1=>if (!y1)=true then (some (0,false)) else (tN p1 p0 p2 ([]:List Int) 0)
  partial_fixpoint
def aEk (p1:List (List Int)) (p2:List aA) (p0:aP) (x7:Int):Option Bool :=
  if (decide (x7<(p2.length:Int)))=true then ((idx p2 x7)>>=fun y1=>(aB1 p0 p1 y1)>>=fun y2=>(if (true&&((!y2.2)==false))=true then aB6 y2.1 else some default)>>=fun y3=>(some (if (!y2.2)=true then true else (!y3)))>>=fun y4=>if y4=true then (some false) else (aEk p1 p2 p0 (XZ .i64 (x7+1)))) else (some true)
  partial_fixpoint
def aFe (p0:aP) (p1:List (List Int)) (p2:List aA):Option Bool :=
  aEk p1 p2 p0 0
  partial_fixpoint
def aDa (p1:List (List Int)) (p0:aP) (p2:aQ) (x8:Int):Option ((List Int)×Bool) :=
  if (decide (x8<(p2.on_.length:Int)))=true then ((rF p2.tables 0 (XZ .i64 (x8+1)))>>=fun y2=>(N8 p0 y2)>>=fun y3=>(aBs y3.1 p1)>>=fun y4=>(idx p2.on_ x8)>>=fun y5=>(aFe p0 y4 y5)>>=fun y6=>if (!y6)=true then (some (([]:List Int),false)) else (aDa p1 p0 p2 (XZ .i64 (x8+1)))) else ((N8 p0 p2.tables)>>=fun y7=>(aBs y7.1 p1)>>=fun y8=>(aFe p0 y8 p2.where_)>>=fun y9=>if (!y9)=true then (some (([]:List Int),false)) else (aB0 y8 p0 p2 0))
  partial_fixpoint
def aHs (p0:aP) (p1:List (List Int)) (p2:aQ):Option ((List Int)×Bool) :=
  (aJg p0 p2)>>=fun y1=>if (!y1)=true then (some (([]:List Int),false)) else (aDa p1 p0 p2 0)
  partial_fixpoint
end
def aIh (p0:aP) (p1:aQ):Option Bool :=
  (aJj p0)>>=fun y1=>(if (true&&((!y1)==false))=true then M6 p1 else some default)>>=fun y2=>(some (if (!y1)=true then true else (decide (24<y2))))>>=fun y3=>(if (true&&(y3==false))=true then Q7 p1 else some default)>>=fun y4=>(some (if y3=true then true else (decide (200<y4))))>>=fun y5=>if y5=true then (some false) else ((aHs p0 ([]:List (List Int)) p1)>>=fun y6=>some y6.2)
def aO2 (p0:aP) (p1:aQ):Option (aV×Bool) :=
  (aIh p0 p1)>>=fun y1=>if (!y1)=true then (some ((aV.mk false ([]:List dU) ([]:List bZ) ([]:List aL) ([]:List eH) 0),false)) else ((aD8 p0 ([]:List bF) p1)>>=fun y2=>some (y2,true))
def D9 (cO:List bI) (aY:List Int) (bD:Int) (bG:Int):Option (aP×aB) :=
  some ((aP.mk cO),(aB.mk aY bD bG))
def aL4 (p0:aB) (x3:Int) (bD:Int):Option (Int×aB) :=
  some (x3,(aB.mk p0.b bD (XZ .i64 ((XZ .i64 (p0.h * 6364136223846793005))+1442695040888963407))))
def yT (p0:aB):Option (Int×aB) :=
  if (decide (p0.i<(p0.b.length:Int)))=true then ((idx p0.b p0.i)>>=fun y1=>aL4 p0 (XZ .i64 ((BitVec.ofInt (IntKind.bits .i64) (XZ .i64 ((XZ .i64 ((BitVec.ofInt (IntKind.bits .i64) (XZ .i64 ((BitVec.ofInt (IntKind.bits .i64) (Int.fdiv (XZ .i64 ((XZ .i64 (p0.h * 6364136223846793005))+1442695040888963407)) (2 ^ 33)) ^^^ BitVec.ofInt (IntKind.bits .i64) (Int.fdiv (XZ .i64 ((XZ .i64 (p0.h * 6364136223846793005))+1442695040888963407)) (2 ^ 45))).toNat:Int)) &&& BitVec.ofInt (IntKind.bits .i64) 255).toNat:Int))+(XZ .i64 y1))) &&& BitVec.ofInt (IntKind.bits .i64) 255).toNat:Int)) (XZ .i64 (p0.i+1))) else (aL4 p0 (XZ .i64 ((BitVec.ofInt (IntKind.bits .i64) (XZ .i64 ((BitVec.ofInt (IntKind.bits .i64) (Int.fdiv (XZ .i64 ((XZ .i64 (p0.h * 6364136223846793005))+1442695040888963407)) (2 ^ 33)) ^^^ BitVec.ofInt (IntKind.bits .i64) (Int.fdiv (XZ .i64 ((XZ .i64 (p0.h * 6364136223846793005))+1442695040888963407)) (2 ^ 45))).toNat:Int)) &&& BitVec.ofInt (IntKind.bits .i64) 255).toNat:Int)) p0.i)
def fT (p0:aB) (p1:Int):Option (Int×aB) :=
  if (decide (p1≤0))=true then (some (0,p0)) else (if (decide (p1≤256))=true then ((yT p0)>>=fun y1=>(aGh y1.1 p1)>>=fun y2=>some (y2,y1.2)) else ((yT p0)>>=fun y3=>(yT y3.2)>>=fun y4=>(yT y4.2)>>=fun y5=>(yT y5.2)>>=fun y6=>(aGh (XZ .i64 ((XZ .i64 ((XZ .i64 ((XZ .i64 (y3.1 * 16777216))+(XZ .i64 (y4.1 * 65536))))+(XZ .i64 (y5.1 * 256))))+y6.1)) p1)>>=fun y7=>some (y7,y6.2)))
def aAi (vK:List Int) (vO:Int) (vN:Int) (mQ:List bI):Option (aP×aB) :=
  (fT (aB.mk vK vO vN) 2)>>=fun y15=>if (decide ((mQ.length:Int)<(XZ .i64 (4+y15.1))))=true then ((O5 (mQ.length:Int))>>=fun y16=>(lM [120] y16)>>=fun y17=>(appG 40 mQ ([(bI.mk y17 ([(dL.mk [97] 1),(dL.mk [98] 1),(dL.mk [99] 2),(dL.mk [100] 3)]:List dL))]:List bI))>>=fun y18=>aAi y15.2.b y15.2.i y15.2.h y18) else (D9 mQ y15.2.b y15.2.i y15.2.h)
  partial_fixpoint
def gU (p0:aB) (p1:Int):Option (Bool×aB) :=
  (fT p0 p1)>>=fun y1=>some ((decide (y1.1=0)),y1.2)
def tV (p0:aB) (p1:List (List UInt8)):Option ((List UInt8)×aB) :=
  (fT p0 (p1.length:Int))>>=fun y1=>(idx p1 y1.1)>>=fun y2=>some (y2,y1.2)
def I5 (p0:aB) (p1:List Int):Option (Int×aB) :=
  (fT p0 (p1.length:Int))>>=fun y1=>(idx p1 y1.1)>>=fun y2=>some (y2,y1.2)
def V7 (p0:aB):Option ((List UInt8)×aB) :=
  (gU p0 6)>>=fun y1=>if y1.1=true then ((tV y1.2 ([[97,32,98],[102,114,111,109],[83,101,108,101,99,116],[49,120],[113,34,113],[0],[34],[105,116,39,115],[120,46,121],[45]]:List (List UInt8)))>>=fun y2=>some (y2.1,y2.2)) else ((tV y1.2 ([[97],[98],[99],[116],[117],[118],[105,100],[110,97,109,101],[65],[95,120,49]]:List (List UInt8)))>>=fun y3=>some (y3.1,y3.2))
mutual
def aEd (y1:Int×aB) (x6:Int) (y3:Int×aB) (x9:Int) (y2:List UInt8) (vE:List Int) (nL:Int×Int×(List bI)×(((List (List UInt8))×(List dL)))):Option (aP×aB) :=
  aDu y1 x6 y3 y2 nL.2.2.1 nL.2.2.2.1 ((XZ .i64 (x9+1)),vE,nL.1,nL.2.1,nL.2.2.2.2)
  partial_fixpoint
def aGc (y1:Int×aB) (x6:Int) (y3:Int×aB) (x9:Int) (y2:List UInt8) (y8:Int×aB) (rX:List dL) (kJ:(List bI)×(((List (List UInt8))×(List UInt8)×(List Int)×Int×Int))):Option (aP×aB) :=
  (wC (bI.mk y2 rX) kJ.2.2.1)>>=fun y15=>if (decide (y15<0))=true then ((appG 24 rX ([(dL.mk kJ.2.2.1 y8.1)]:List dL))>>=fun y16=>aEd y1 x6 y3 x9 y2 kJ.2.2.2.1 (kJ.2.2.2.2.1,kJ.2.2.2.2.2,kJ.1,kJ.2.1,y16)) else (aEd y1 x6 y3 x9 y2 kJ.2.2.2.1 (kJ.2.2.2.2.1,kJ.2.2.2.2.2,kJ.1,kJ.2.1,rX))
  partial_fixpoint
def aDu (y1:Int×aB) (x6:Int) (y3:Int×aB) (y2:List UInt8) (jY:List bI) (jQ:List (List UInt8)) (kx9:Int×(List Int)×Int×Int×(List dL)):Option (aP×aB) :=
  if (decide (kx9.1<(XZ .i64 (1+y3.1))))=true then ((tV (aB.mk kx9.2.1 kx9.2.2.1 kx9.2.2.2.1) ([[97],[98],[99],[105,100],[110,97,109,101]]:List (List UInt8)))>>=fun y7=>(I5 y7.2 ([1,1,2,3]:List Int))>>=fun y8=>(gU y8.2 20)>>=fun y9=>if y9.1=true then ((V7 y9.2)>>=fun y10=>aGc y1 x6 y3 kx9.1 y2 y8 kx9.2.2.2.2 (jY,jQ,y10.1,y10.2.b,y10.2.i,y10.2.h)) else (aGc y1 x6 y3 kx9.1 y2 y8 kx9.2.2.2.2 (jY,jQ,y7.1,y9.2.b,y9.2.i,y9.2.h))) else ((appG 40 jY ([(bI.mk y2 kx9.2.2.2.2)]:List bI))>>=fun y14=>aA9 y1 (XZ .i64 (x6+1)) kx9.2.1 kx9.2.2.1 kx9.2.2.2.1 y14 (jQ.set (x6).toNat y2))
  partial_fixpoint
def aA9 (y1:Int×aB) (x6:Int) (aY:List Int) (bD:Int) (bG:Int) (jY:List bI) (jQ:List (List UInt8)):Option (aP×aB) :=
  if (decide (x6<(XZ .i64 (1+y1.1))))=true then ((idx jQ x6)>>=fun y2=>(fT (aB.mk aY bD bG) 3)>>=fun y3=>aDu y1 x6 y3 y2 jY jQ (0,y3.2.b,y3.2.i,y3.2.h,([]:List dL))) else (some ((aP.mk jY),(aB.mk aY bD bG)))
  partial_fixpoint
end
def aJt (p0:aB):Option (aP×aB) :=
  (fT p0 3)>>=fun y1=>aA9 y1 0 y1.2.b y1.2.i y1.2.h ([]:List bI) ([[116],[117],[118]]:List (List UInt8))
def xO (p1:Int) (x5:List Int) (x6:Int) (aY:List Int) (bD:Int) (bG:Int):Option ((List Int)×aB) :=
  if (decide (x6<p1))=true then ((yT (aB.mk aY bD bG))>>=fun y1=>(appG 1 x5 ([(XZ .u8 y1.1)]:List Int))>>=fun y2=>xO p1 y2 (XZ .i64 (x6+1)) y1.2.b y1.2.i y1.2.h) else (some (x5,(aB.mk aY bD bG)))
  partial_fixpoint
def aZt (p0:aB) (p1:Int):Option ((List Int)×aB) :=
  xO p1 ([]:List Int) 0 p0.b p0.i p0.h
def bCk:Option (List (List UInt8)) :=
  some ([[],[83,69,76,69,67,84],[68,73,83,84,73,78,67,84],[70,82,79,77],[74,79,73,78],[79,78],[87,72,69,82,69],[79,82,68,69,82],[66,89],[65,83,67],[68,69,83,67],[76,73,77,73,84],[65,83],[65,78,68],[79,82],[78,79,84],[73,83],[73,78],[66,69,84,87,69,69,78],[69,88,73,83,84,83],[78,85,76,76],[84,82,85,69],[70,65,76,83,69],[73,78,83,69,82,84],[73,78,84,79],[86,65,76,85,69,83],[85,80,68,65,84,69],[83,69,84],[68,69,76,69,84,69]]:List (List UInt8))
def E9 (p0:aB):Option ((List UInt8)×aB) :=
  (fT p0 6)>>=fun y1=>if (decide (y1.1=0))=true then ((tV y1.2 ([[],[97,98,99,100,101,102,103,104,105,106,107,108,109,110,111,112,113,114,115,116],[97,98,99,100,101,102,103,104,105,106,107,108,109,110,111,112,113,114,115,116,117],[108,105,109,105,116],[76,73,77,73,84,83],[65,83,99],[57],[97,57],[195,169]]:List (List UInt8)))>>=fun y2=>some (y2.1,y2.2)) else (if (decide (y1.1=1))=true then ((bCk)>>=fun y3=>(fT y1.2 29)>>=fun y4=>(idx y3 y4.1)>>=fun y5=>some (y5,y4.2)) else (if (decide (y1.1=2))=true then ((fT y1.2 5)>>=fun y6=>(aZt y6.2 y6.1)>>=fun y7=>(ofBytes y7.1)>>=fun y8=>some (y8,y7.2)) else ((V7 y1.2)>>=fun y9=>some (y9.1,y9.2))))
def aK0 (p0:aB):Option (aP×aB) :=
  (aJt p0)>>=fun y1=>(fT y1.2 16)>>=fun y2=>if (decide (y2.1=0))=true then ((idx y1.1.tables 0)>>=fun y3=>(appG 40 y1.1.tables ([y3]:List bI))>>=fun y4=>D9 y4 y2.2.b y2.2.i y2.2.h) else (if (decide (y2.1=1))=true then ((idx y1.1.tables 0)>>=fun y5=>(E9 y2.2)>>=fun y6=>(fT y6.2 5)>>=fun y7=>(appG 24 y5.cols ([(dL.mk y6.1 y7.1)]:List dL))>>=fun y8=>D9 (y1.1.tables.set (0:Int).toNat (bI.mk y5.name y8)) y7.2.b y7.2.i y7.2.h) else (if (decide (y2.1=2))=true then ((E9 y2.2)>>=fun y9=>(idx y1.1.tables 0)>>=fun y10=>D9 (y1.1.tables.set (0:Int).toNat (bI.mk y9.1 y10.cols)) y9.2.b y9.2.i y9.2.h) else (if (decide (y2.1=3))=true then ((idx y1.1.tables 0)>>=fun y11=>D9 (y1.1.tables.set (0:Int).toNat (bI.mk y11.name ([]:List dL))) y2.2.b y2.2.i y2.2.h) else (if (decide (y2.1=4))=true then (D9 ([]:List bI) y2.2.b y2.2.i y2.2.h) else (if (decide (y2.1=5))=true then (aAi y2.2.b y2.2.i y2.2.h y1.1.tables) else (D9 y1.1.tables y2.2.b y2.2.i y2.2.h))))))
def vJ (p1:aA) (cO:Int) (lQ:Int) (qA:Bool) (V5:Int) (O4:Int) (O6:List UInt8) (H6:Int) (pE:Int) (aY:List Int) (bD:Int) (bG:Int) (N7:List aQ):Option (aA×aB) :=
  some ((aA.mk cO lQ qA (bH.mk V5 O4 O6) H6 pE p1.kids N7),(aB.mk aY bD bG))
def sI (p0:aB):Option (Int×aB) :=
  (fT p0 3)>>=fun y1=>if (decide (y1.1=0))=true then ((I5 y1.2 ([0,1,(-1),63,64,(-64),(-65),127,128,16383,16384,9223372036854775807,(-9223372036854775808),4611686018427387904]:List Int))>>=fun y2=>some (y2.1,y2.2)) else (if (decide (y1.1=1))=true then ((fT y1.2 1000000)>>=fun y3=>some ((XZ .i64 (y3.1 - 500000)),y3.2)) else ((fT y1.2 20)>>=fun y4=>some (y4.1,y4.2)))
def xL (cO:Int) (lQ:Int) (qA:List UInt8) (aY:List Int) (bD:Int) (bG:Int):Option (bH×aB) :=
  some ((bH.mk cO lQ qA),(aB.mk aY bD bG))
def Y1 (y1:bH×aB) (qG:List UInt8) (kX:List Int) (vD:Int) (vV:Int):Option (bH×aB) :=
  (gU (aB.mk kX vD vV) 2)>>=fun y10=>(some (if y10.1=true then (decide ((qG.length:Int)<400)) else false))>>=fun y11=>if y11=true then ((lM qG qG)>>=fun y12=>(lM y12 [48,49,50,51,52,53,54,55,56,57])>>=fun y13=>Y1 y1 y13 y10.2.b y10.2.i y10.2.h) else (xL y1.1.kind y1.1.num qG y10.2.b y10.2.i y10.2.h)
  partial_fixpoint
def aFo (p0:Bool):Option bH :=
  if p0=true then (some (bH.mk 3 1 [])) else (some (bH.mk 3 0 []))
def aIl (p0:Int):Option bH :=
  some (bH.mk 1 p0 [])
def aPh (p0:List UInt8):Option bH :=
  some (bH.mk 2 0 p0)
def aFv (p0:aB):Option (bH×aB) :=
  (fT p0 6)>>=fun y1=>if (decide (y1.1=0))=true then (some ((bH.mk 0 0 []),y1.2)) else (if (decide (y1.1=1))=true then ((tV y1.2 ([[],[97],[98],[105,116,39,115],[97,98],[255]]:List (List UInt8)))>>=fun y2=>(aPh y2.1)>>=fun y3=>some (y3,y2.2)) else (if (decide (y1.1=2))=true then ((gU y1.2 2)>>=fun y4=>(aFo y4.1)>>=fun y5=>some (y5,y4.2)) else (if (decide (y1.1=3))=true then ((sI y1.2)>>=fun y6=>(aIl y6.1)>>=fun y7=>some (y7,y6.2)) else ((fT y1.2 7)>>=fun y8=>(aIl (XZ .i64 (y8.1 - 2)))>>=fun y9=>some (y9,y8.2)))))
def aJb (p0:aB):Option (bH×aB) :=
  (aFv p0)>>=fun y1=>(fT y1.2 14)>>=fun y2=>if (decide (y2.1=0))=true then ((fT y2.2 6)>>=fun y3=>xL (XZ .i64 (y3.1 - 1)) y1.1.num y1.1.text y3.2.b y3.2.i y3.2.h) else (if (decide (y2.1=1))=true then ((sI y2.2)>>=fun y4=>xL y1.1.kind y4.1 y1.1.text y4.2.b y4.2.i y4.2.h) else (if (decide (y2.1=2))=true then ((tV y2.2 ([[120],[],[108,111,110,103]]:List (List UInt8)))>>=fun y5=>Y1 y1 y5.1 y5.2.b y5.2.i y5.2.h) else (xL y1.1.kind y1.1.num y1.1.text y2.2.b y2.2.i y2.2.h)))
def G5 (p0:aB) (p1:aA):Option (aA×aB) :=
  (if (true&&((decide (0<(p1.kids.length:Int)))==true))=true then gU p0 2 else some ((default:Bool),p0))>>=fun y1=>(some (if (decide (0<(p1.kids.length:Int)))=true then y1.1 else false))>>=fun y2=>if y2=true then ((fT y1.2 (p1.kids.length:Int))>>=fun y3=>(idx p1.kids y3.1)>>=fun y4=>(G5 y3.2 y4)>>=fun y5=>some ((aA.mk p1.kind p1.op p1.not_ p1.value p1.up p1.at_ (p1.kids.set (y3.1).toNat y5.1) p1.sub),y5.2)) else ((fT y1.2 7)>>=fun y6=>if (decide (y6.1=0))=true then ((sI y6.2)>>=fun y7=>vJ p1 y7.1 p1.op p1.not_ p1.value.kind p1.value.num p1.value.text p1.up p1.at_ y7.2.b y7.2.i y7.2.h p1.sub) else (if (decide (y6.1=1))=true then ((sI y6.2)>>=fun y8=>vJ p1 p1.kind y8.1 p1.not_ p1.value.kind p1.value.num p1.value.text p1.up p1.at_ y8.2.b y8.2.i y8.2.h p1.sub) else (if (decide (y6.1=2))=true then ((sI y6.2)>>=fun y9=>vJ p1 p1.kind p1.op p1.not_ p1.value.kind p1.value.num p1.value.text y9.1 p1.at_ y9.2.b y9.2.i y9.2.h p1.sub) else (if (decide (y6.1=3))=true then ((sI y6.2)>>=fun y10=>vJ p1 p1.kind p1.op p1.not_ p1.value.kind p1.value.num p1.value.text p1.up y10.1 y10.2.b y10.2.i y10.2.h p1.sub) else (if (decide (y6.1=4))=true then ((aJb y6.2)>>=fun y11=>vJ p1 p1.kind p1.op p1.not_ y11.1.kind y11.1.num y11.1.text p1.up p1.at_ y11.2.b y11.2.i y11.2.h p1.sub) else (if (decide (y6.1=5))=true then (vJ p1 p1.kind p1.op (!p1.not_) p1.value.kind p1.value.num p1.value.text p1.up p1.at_ y6.2.b y6.2.i y6.2.h p1.sub) else ((appG 160 p1.sub ([(aQ.mk ([]:List Int) ([]:List (List aA)) ([]:List aA) ([]:List bN) ([]:List aA) ([]:List (List UInt8)) false 0)]:List aQ))>>=fun y12=>vJ p1 p1.kind p1.op p1.not_ p1.value.kind p1.value.num p1.value.text p1.up p1.at_ y6.2.b y6.2.i y6.2.h y12)))))))
  partial_fixpoint
def yV (y3:aQ×aB) (aY:List Int) (bD:Int) (bG:Int) (J7:List Int) (U4:List (List aA)) (R4:List aA) (L9:List aA) (L6:List (List UInt8)):Option (aQ×aB) :=
  some ((aQ.mk J7 U4 R4 y3.1.order L9 L6 y3.1.distinct y3.1.limit),(aB.mk aY bD bG))
def aJ2 (y1:bH×aB) (lQ:Int):Option (bH×aB) :=
  some ((bH.mk y1.1.kind lQ y1.1.text),y1.2)
def aFh (p0:aB):Option (bH×aB) :=
  (aFv p0)>>=fun y1=>(some (if (decide (y1.1.kind=1))=true then (decide (y1.1.num<0)) else false))>>=fun y2=>if y2=true then (aJ2 y1 9223372036854775807) else (aJ2 y1 y1.1.num)
def aJc (y1:Bool×aB) (oJ:List bN) (oM:List aA) (jU:List (List UInt8)) (jR:List aA) (fB:List (List aA)) (fV:List Int) (Q3:Int) (pR:List Int) (pM:Int) (pV:Int):Option (aQ×aB) :=
  some ((aQ.mk fV fB oM oJ jR jU y1.1 Q3),(aB.mk pR pM pV))
def aFp (y1:Bool×aB) (oM:List aA) (jU:List (List UInt8)) (jR:List aA) (fB:List (List aA)) (fV:List Int) (aAj:List Int) (Z6:Int) (aBi:Int) (oJ:List bN):Option (aQ×aB) :=
  (gU (aB.mk aAj Z6 aBi) 4)>>=fun y33=>if y33.1=true then ((sI y33.2)>>=fun y34=>aJc y1 oJ oM jU jR fB fV y34.1 y34.2.b y34.2.i y34.2.h) else (aJc y1 oJ oM jU jR fB fV (-1) y33.2.b y33.2.i y33.2.h)
mutual
def aE8 (p1:Int) (y1:Bool×aB) (jU:List (List UInt8)) (jR:List aA) (fB:List (List aA)) (fV:List Int) (nU:(List Int)×Int×Int×(List aA)):Option (aQ×aB) :=
  (gU (aB.mk nU.1 nU.2.1 nU.2.2.1) 3)>>=fun y26=>if y26.1=true then ((rH y26.2 p1)>>=fun y27=>(gU y27.2 2)>>=fun y28=>(appG 128 ([]:List bN) ([(bN.mk y27.1 y28.1)]:List bN))>>=fun y29=>aFp y1 nU.2.2.2 jU jR fB fV y28.2.b y28.2.i y28.2.h y29) else (aFp y1 nU.2.2.2 jU jR fB fV y26.2.b y26.2.i y26.2.h ([]:List bN))
  partial_fixpoint
def Y2 (p1:Int) (y12:Int×aB) (y1:Bool×aB) (fB:List (List aA)) (fV:List Int) (x9:Int) (kS:(List Int)×Int×Int×(((List (List UInt8))×(List aA)))):Option (aQ×aB) :=
  if (decide (x9<(XZ .i64 (1+y12.1))))=true then ((rH (aB.mk kS.1 kS.2.1 kS.2.2.1) p1)>>=fun y17=>(appG 120 kS.2.2.2.2 ([y17.1]:List aA))>>=fun y18=>(V7 y17.2)>>=fun y19=>(appG 16 kS.2.2.2.1 ([y19.1]:List (List UInt8)))>>=fun y20=>Y2 p1 y12 y1 fB fV (XZ .i64 (x9+1)) (y19.2.b,y19.2.i,y19.2.h,y20,y18)) else ((gU (aB.mk kS.1 kS.2.1 kS.2.2.1) 2)>>=fun y21=>if y21.1=true then ((vX y21.2 (XZ .i64 (p1+1)) 1)>>=fun y22=>aE8 p1 y1 kS.2.2.2.1 kS.2.2.2.2 fB fV (y22.2.b,y22.2.i,y22.2.h,y22.1)) else (aE8 p1 y1 kS.2.2.2.1 kS.2.2.2.2 fB fV (y21.2.b,y21.2.i,y21.2.h,([]:List aA))))
  partial_fixpoint
def aHe (p1:Int) (y2:Int×aB) (x7:Int) (y1:Bool×aB) (y4:List Int) (fB:List (List aA)) (nK:(List Int)×Int×Int×(List aA)):Option (aQ×aB) :=
  (appG 24 fB ([nK.2.2.2]:List (List aA)))>>=fun y16=>aA4 p1 y2 y1 (XZ .i64 (x7+1)) nK.1 nK.2.1 (nK.2.2.1,y16,y4)
  partial_fixpoint
def aDr (p1:Int) (p2:Int) (x8:Int) (aY:List Int) (bD:Int) (bG:Int) (rZ:List aA):Option ((List aA)×aB) :=
  if (decide (x8<p2))=true then ((rH (aB.mk aY bD bG) (XZ .i64 (p1 - 1)))>>=fun y1=>(appG 120 rZ ([y1.1]:List aA))>>=fun y2=>aDr p1 p2 (XZ .i64 (x8+1)) y1.2.b y1.2.i y1.2.h y2) else (some (rZ,(aB.mk aY bD bG)))
  partial_fixpoint
def vX (p0:aB) (p1:Int) (p2:Int):Option ((List aA)×aB) :=
  aDr p1 p2 0 p0.b p0.i p0.h ([]:List aA)
  partial_fixpoint
def aDg (p1:Int) (y7:Int×aB):Option (aA×aB) :=
  (fT y7.2 14)>>=fun y20=>(vX y20.2 p1 2)>>=fun y21=>some ((aA.mk 4 (XZ .i64 (1+y20.1)) false (bH.mk 0 0 []) 0 0 y21.1 ([]:List aQ)),y21.2)
  partial_fixpoint
def rH (p0:aB) (p1:Int):Option (aA×aB) :=
  (if (true&&((decide (p1≤0))==false))=true then gU p0 4 else some ((default:Bool),p0))>>=fun y1=>(some (if (decide (p1≤0))=true then true else y1.1))>>=fun y2=>if y2=true then ((gU y1.2 2)>>=fun y3=>if y3.1=true then ((fT y3.2 3)>>=fun y4=>(fT y4.2 4)>>=fun y5=>some ((aA.mk 2 0 false (bH.mk 0 0 []) y4.1 y5.1 ([]:List aA) ([]:List aQ)),y5.2)) else ((aFh y3.2)>>=fun y6=>some ((aA.mk 1 0 false y6.1 0 0 ([]:List aA) ([]:List aQ)),y6.2))) else ((fT y1.2 8)>>=fun y7=>if (decide (y7.1=0))=true then ((fT y7.2 2)>>=fun y8=>(vX y8.2 p1 1)>>=fun y9=>some ((aA.mk 3 (XZ .i64 (15+y8.1)) false (bH.mk 0 0 []) 0 0 y9.1 ([]:List aQ)),y9.2)) else (if (decide (y7.1=1))=true then ((gU y7.2 2)>>=fun y10=>(vX y10.2 p1 1)>>=fun y11=>some ((aA.mk 5 0 y10.1 (bH.mk 0 0 []) 0 0 y11.1 ([]:List aQ)),y11.2)) else (if (decide (y7.1=2))=true then ((gU y7.2 2)>>=fun y12=>(vX y12.2 p1 3)>>=fun y13=>some ((aA.mk 6 0 y12.1 (bH.mk 0 0 []) 0 0 y13.1 ([]:List aQ)),y13.2)) else (if (decide (y7.1=3))=true then ((gU y7.2 2)>>=fun y14=>(vX y14.2 p1 3)>>=fun y15=>some ((aA.mk 7 0 y14.1 (bH.mk 0 0 []) 0 0 y15.1 ([]:List aQ)),y15.2)) else (if (decide (y7.1=4))=true then (if (decide (1<p1))=true then ((gU y7.2 2)>>=fun y16=>(vX y16.2 p1 1)>>=fun y17=>(aBn y17.2 (XZ .i64 (p1 - 2)))>>=fun y18=>some ((aA.mk 8 0 y16.1 (bH.mk 0 0 []) 0 0 y17.1 ([y18.1]:List aQ)),y18.2)) else (aDg p1 y7)) else (if (decide (y7.1=5))=true then (if (decide (1<p1))=true then ((aBn y7.2 (XZ .i64 (p1 - 2)))>>=fun y19=>some ((aA.mk 9 0 false (bH.mk 0 0 []) 0 0 ([]:List aA) ([y19.1]:List aQ)),y19.2)) else (aDg p1 y7)) else (aDg p1 y7)))))))
  partial_fixpoint
def aA4 (p1:Int) (y2:Int×aB) (y1:Bool×aB) (x7:Int) (aY:List Int) (bD:Int) (nD:Int×(((List (List aA))×(List Int)))):Option (aQ×aB) :=
  if (decide (x7<(XZ .i64 (1+y2.1))))=true then ((fT (aB.mk aY bD nD.1) 3)>>=fun y3=>(appG 8 nD.2.2 ([y3.1]:List Int))>>=fun y4=>(if (true&&((decide (0<x7))==true))=true then gU y3.2 2 else some ((default:Bool),y3.2))>>=fun y5=>(some (if (decide (0<x7))=true then y5.1 else false))>>=fun y6=>if y6=true then ((rH y5.2 p1)>>=fun y7=>(appG 120 ([]:List aA) ([y7.1]:List aA))>>=fun y8=>aHe p1 y2 x7 y1 y4 nD.2.1 (y7.2.b,y7.2.i,y7.2.h,y8)) else (aHe p1 y2 x7 y1 y4 nD.2.1 (y5.2.b,y5.2.i,y5.2.h,([]:List aA)))) else ((fT (aB.mk aY bD nD.1) 2)>>=fun y12=>Y2 p1 y12 y1 nD.2.1 nD.2.2 0 (y12.2.b,y12.2.i,y12.2.h,([]:List (List UInt8)),([]:List aA)))
  partial_fixpoint
def aBn (p0:aB) (p1:Int):Option (aQ×aB) :=
  (gU p0 3)>>=fun y1=>(fT y1.2 2)>>=fun y2=>aA4 p1 y2 y1 0 y2.2.b y2.2.i (y2.2.h,([]:List (List aA)),([]:List Int))
  partial_fixpoint
end
def aG5 (p0:List Int) (p1:Int):Option Int :=
  if (decide (p1<(XZ .i64 (2+(XZ .i64 (Int.tdiv (p0.length:Int) 20))))))=true then (some p1) else (some (XZ .i64 (2+(XZ .i64 (Int.tdiv (p0.length:Int) 20)))))
def aKr (p0:aB) (p1:List Int):Option (aQ×aB) :=
  (aG5 p1 4)>>=fun y1=>(fT p0 y1)>>=fun y2=>(aBn y2.2 y2.1)>>=fun y3=>(fT y3.2 14)>>=fun y4=>if (decide (y4.1=0))=true then ((sI y4.2)>>=fun y5=>(appG 8 y3.1.tables ([y5.1]:List Int))>>=fun y6=>yV y3 y5.2.b y5.2.i y5.2.h y6 y3.1.on_ y3.1.where_ y3.1.items y3.1.names) else (if (decide (y4.1=1))=true then ((E9 y4.2)>>=fun y7=>(appG 16 y3.1.names ([y7.1]:List (List UInt8)))>>=fun y8=>yV y3 y7.2.b y7.2.i y7.2.h y3.1.tables y3.1.on_ y3.1.where_ y3.1.items y8) else (if (decide (y4.1=2))=true then ((appG 24 y3.1.on_ ([([(aA.mk 0 0 false (bH.mk 0 0 []) 0 0 ([]:List aA) ([]:List aQ))]:List aA)]:List (List aA)))>>=fun y9=>yV y3 y4.2.b y4.2.i y4.2.h y3.1.tables y9 y3.1.where_ y3.1.items y3.1.names) else (if (decide (y4.1=3))=true then ((idx y3.1.items 0)>>=fun y10=>(G5 y4.2 y10)>>=fun y11=>yV y3 y11.2.b y11.2.i y11.2.h y3.1.tables y3.1.on_ y3.1.where_ (y3.1.items.set (0:Int).toNat y11.1) y3.1.names) else (if (decide (y4.1=4))=true then ((sI y4.2)>>=fun y12=>(appG 120 y3.1.where_ ([(aA.mk y12.1 0 false (bH.mk 0 0 []) 0 0 ([]:List aA) ([]:List aQ))]:List aA))>>=fun y13=>yV y3 y12.2.b y12.2.i y12.2.h y3.1.tables y3.1.on_ y13 y3.1.items y3.1.names) else (yV y3 y4.2.b y4.2.i y4.2.h y3.1.tables y3.1.on_ y3.1.where_ y3.1.items y3.1.names)))))
def X6 (p0:List Int) (x3:Int) (x4:Int):Option aB :=
  (some (if (decide (x4<(p0.length:Int)))=true then (decide (x4<4000)) else false))>>=fun y1=>if y1=true then ((idx p0 x4)>>=fun y2=>X6 p0 (XZ .i64 ((BitVec.ofInt (IntKind.bits .i64) (XZ .i64 ((XZ .i64 ((XZ .i64 (x3 * 131))+(XZ .i64 y2)))+7)) &&& BitVec.ofInt (IntKind.bits .i64) 1073741823).toNat:Int)) (XZ .i64 (x4+1))) else (some (aB.mk p0 0 x3))
  partial_fixpoint
def aJw (p0:List Int):Option aB :=
  X6 p0 (XZ .i64 (28322+(p0.length:Int))) 0
def vG (V9:List bI) (iA:Bool) (gX:Int) (mM:List Int) (U3:Int) (K4:Int) (L8:List Int) (K9:List (List aA)) (R9:List aA) (U7:List bN) (I4:List aA) (R7:List (List UInt8)):Option (aB×aP×aQ) :=
  some ((aB.mk mM U3 K4),(aP.mk V9),(aQ.mk L8 K9 R9 U7 I4 R7 iA gX))
mutual
def aDz (y1:Int×aB) (x6:Int) (y3:Int×aB) (x9:Int) (cO:List bI) (y2:List UInt8) (nW:(List Int)×Int×Int×(List dL)):Option (aP×aB) :=
  aE2 y1 x6 y3 cO y2 (XZ .i64 (x9+1)) (nW.2.2.2,nW.1,nW.2.1,nW.2.2.1)
  partial_fixpoint
def aGn (y1:Int×aB) (x6:Int) (y3:Int×aB) (x9:Int) (cO:List bI) (y2:List UInt8) (rY:List dL) (ky8:(Int×aB)×(List UInt8)×(List Int)×Int×Int):Option (aP×aB) :=
  (wC (bI.mk y2 rY) ky8.2.1)>>=fun y15=>if (decide (y15<0))=true then ((appG 24 rY ([(dL.mk ky8.2.1 ky8.1.1)]:List dL))>>=fun y16=>aDz y1 x6 y3 x9 cO y2 (ky8.2.2.1,ky8.2.2.2.1,ky8.2.2.2.2,y16)) else (aDz y1 x6 y3 x9 cO y2 (ky8.2.2.1,ky8.2.2.2.1,ky8.2.2.2.2,rY))
  partial_fixpoint
def aE2 (y1:Int×aB) (x6:Int) (y3:Int×aB) (cO:List bI) (y2:List UInt8) (x9:Int) (lV:(List dL)×(List Int)×Int×Int):Option (aP×aB) :=
  if (decide (x9<(XZ .i64 (1+y3.1))))=true then ((tV (aB.mk lV.2.1 lV.2.2.1 lV.2.2.2) ([[97],[98],[99],[105,100],[110,97,109,101]]:List (List UInt8)))>>=fun y7=>(I5 y7.2 ([1,1,2,3]:List Int))>>=fun y8=>(gU y8.2 20)>>=fun y9=>if y9.1=true then ((V7 y9.2)>>=fun y10=>aGn y1 x6 y3 x9 cO y2 lV.1 (y8,y10.1,y10.2.b,y10.2.i,y10.2.h)) else (aGn y1 x6 y3 x9 cO y2 lV.1 (y8,y7.1,y9.2.b,y9.2.i,y9.2.h))) else ((appG 40 cO ([(bI.mk y2 lV.1)]:List bI))>>=fun y14=>W9 y1 (XZ .i64 (x6+1)) y14 lV.2.1 lV.2.2.1 lV.2.2.2)
  partial_fixpoint
def W9 (y1:Int×aB) (x6:Int) (cO:List bI) (aY:List Int) (bD:Int) (bG:Int):Option (aP×aB) :=
  if (decide (x6<(XZ .i64 (1+y1.1))))=true then ((idx ([[116],[117],[118]]:List (List UInt8)) x6)>>=fun y2=>(fT (aB.mk aY bD bG) 3)>>=fun y3=>aE2 y1 x6 y3 cO y2 0 (([]:List dL),y3.2.b,y3.2.i,y3.2.h)) else (some ((aP.mk cO),(aB.mk aY bD bG)))
  partial_fixpoint
end
def aJ0 (p0:aB):Option (aP×aB) :=
  (fT p0 3)>>=fun y1=>W9 y1 0 ([]:List bI) y1.2.b y1.2.i y1.2.h
def aGi (y1:Bool×aB) (oU:List bN) (nZ:List aA) (jC:List (List UInt8)) (jB:List aA) (iQ:List (List aA)) (iV:List Int) (P9:Int) (J6:List Int) (P8:Int) (H5:Int):Option (aQ×aB) :=
  some ((aQ.mk iV iQ nZ oU jB jC y1.1 P9),(aB.mk J6 P8 H5))
def aC1 (y1:Bool×aB) (nZ:List aA) (jC:List (List UInt8)) (jB:List aA) (iQ:List (List aA)) (iV:List Int) (pR:List Int) (pM:Int) (pV:Int) (oU:List bN):Option (aQ×aB) :=
  (gU (aB.mk pR pM pV) 4)>>=fun y38=>if y38.1=true then ((fT y38.2 4)>>=fun y39=>aGi y1 oU nZ jC jB iQ iV y39.1 y39.2.b y39.2.i y39.2.h) else (aGi y1 oU nZ jC jB iQ iV (-1) y38.2.b y38.2.i y38.2.h)
mutual
def aAd (p1:List (List Int)) (p2:Int) (x9:Int) (x10:Int) (vL:Int) (vQ:Int) (vR:Int) (vH:Int) (mU:(List UInt8)×Int×Int×(List Int)×Int×Int):Option (aA×aB) :=
  aDe p1 p2 x9 vL (XZ .i64 (x10+1)) vQ vR vH (mU.1,mU.2.1,mU.2.2.1,mU.2.2.2.1,mU.2.2.2.2.1,mU.2.2.2.2.2)
  partial_fixpoint
def aDe (p1:List (List Int)) (p2:Int) (x9:Int) (qY:Int) (x10:Int) (uF:Int) (tY:Int) (tQ:Int) (jL:(List UInt8)×Int×Int×(List Int)×Int×Int):Option (aA×aB) :=
  (idx p1 x9)>>=fun y12=>if (decide (x10<(y12.length:Int)))=true then ((idx p1 x9)>>=fun y13=>(idx y13 x10)>>=fun y14=>if (decide (y14=p2))=true then ((gU (aB.mk jL.2.2.2.1 jL.2.2.2.2.1 jL.2.2.2.2.2) (XZ .i64 (qY+1)))>>=fun y15=>if y15.1=true then (aAd p1 p2 x9 x10 (XZ .i64 (qY+1)) 2 0 0 ([],x9,x10,y15.2.b,y15.2.i,y15.2.h)) else (aAd p1 p2 x9 x10 (XZ .i64 (qY+1)) uF tY tQ (jL.1,jL.2.1,jL.2.2.1,y15.2.b,y15.2.i,y15.2.h))) else (aAd p1 p2 x9 x10 qY uF tY tQ (jL.1,jL.2.1,jL.2.2.1,jL.2.2.2.1,jL.2.2.2.2.1,jL.2.2.2.2.2))) else (aD2 p1 p2 qY (XZ .i64 (x9+1)) uF tY tQ (jL.1,jL.2.1,jL.2.2.1,jL.2.2.2.1,jL.2.2.2.2.1,jL.2.2.2.2.2))
  partial_fixpoint
def aD2 (p1:List (List Int)) (p2:Int) (x7:Int) (x9:Int) (sV:Int) (tK:Int) (tF:Int) (jJ:(List UInt8)×Int×Int×(List Int)×Int×Int):Option (aA×aB) :=
  if (decide (x9<(p1.length:Int)))=true then (aDe p1 p2 x9 x7 0 sV tK tF (jJ.1,jJ.2.1,jJ.2.2.1,jJ.2.2.2.1,jJ.2.2.2.2.1,jJ.2.2.2.2.2)) else (some ((aA.mk sV 0 false (bH.mk tK tF jJ.1) jJ.2.1 jJ.2.2.1 ([]:List aA) ([]:List aQ)),(aB.mk jJ.2.2.2.1 jJ.2.2.2.2.1 jJ.2.2.2.2.2)))
  partial_fixpoint
end
def aI9 (y1:bH×aB) (aAs:Int) (aY:List Int) (bD:Int) (bG:Int):Option (bH×aB) :=
  some ((bH.mk y1.1.kind aAs y1.1.text),(aB.mk aY bD bG))
def aL3 (p0:aB) (p1:Int):Option (bH×aB) :=
  (gU p0 6)>>=fun y1=>if y1.1=true then (some ((bH.mk 0 0 []),y1.2)) else (if (decide (p1=2))=true then ((tV y1.2 ([[],[97],[98],[97,98]]:List (List UInt8)))>>=fun y2=>(aPh y2.1)>>=fun y3=>some (y3,y2.2)) else (if (decide (p1=3))=true then ((gU y1.2 2)>>=fun y4=>(aFo y4.1)>>=fun y5=>some (y5,y4.2)) else ((sI y1.2)>>=fun y6=>(aIl y6.1)>>=fun y7=>some (y7,y6.2))))
def aCa (p0:aB) (p1:Int):Option (bH×aB) :=
  (aL3 p0 p1)>>=fun y1=>if (decide (y1.1.kind=1))=true then ((I5 y1.2 ([0,1,2,3,5,1,2,9223372036854775807]:List Int))>>=fun y2=>aI9 y1 y2.1 y2.2.b y2.2.i y2.2.h) else (aI9 y1 y1.1.num y1.2.b y1.2.i y1.2.h)
def aHn (p0:aB) (p1:List (List Int)) (p2:Int):Option (aA×aB) :=
  (aCa p0 p2)>>=fun y1=>aD2 p1 p2 0 0 1 y1.1.kind y1.1.num (y1.1.text,0,0,y1.2.b,y1.2.i,y1.2.h)
mutual
def D8 (p2:List (List Int)) (p3:Int) (p4:Int) (p5:Int) (p1:aP) (x14:Int) (kN:(List Int)×Int×Int×(List aA)):Option ((List aA)×aB) :=
  if (decide (x14<p5))=true then ((tZ (aB.mk kN.1 kN.2.1 kN.2.2.1) p1 p2 p3 (XZ .i64 (p4 - 1)))>>=fun y1=>(appG 120 kN.2.2.2 ([y1.1]:List aA))>>=fun y2=>D8 p2 p3 p4 p5 p1 (XZ .i64 (x14+1)) (y1.2.b,y1.2.i,y1.2.h,y2)) else (some (kN.2.2.2,(aB.mk kN.1 kN.2.1 kN.2.2.1)))
  partial_fixpoint
def pI (p0:aB) (p1:aP) (p2:List (List Int)) (p3:Int) (p4:Int) (p5:Int):Option ((List aA)×aB) :=
  D8 p2 p3 p4 p5 p1 0 (p0.b,p0.i,p0.h,([]:List aA))
  partial_fixpoint
def aCn (p2:List (List Int)) (p3:Int) (y1:Int×aB) (p1:aP) (y3:Int×aB):Option (aA×aB) :=
  (fT y3.2 6)>>=fun y14=>(pI y14.2 p1 p2 (XZ .i64 (1+y1.1)) p3 2)>>=fun y15=>some ((aA.mk 4 (XZ .i64 (3+y14.1)) false (bH.mk 0 0 []) 0 0 y15.1 ([]:List aQ)),y15.2)
  partial_fixpoint
def aH3 (p2:List (List Int)) (p3:Int) (y1:Int×aB) (y2:Bool×aB) (y3:Int×aB) (p1:aP) (x18:Bool):Option (aA×aB) :=
  if x18=true then ((fT y3.2 2)>>=fun y4=>(pI y4.2 p1 p2 3 p3 2)>>=fun y5=>some ((aA.mk 4 (XZ .i64 (1+y4.1)) false (bH.mk 0 0 []) 0 0 y5.1 ([]:List aQ)),y5.2)) else (if (decide (y3.1=2))=true then ((pI y3.2 p1 p2 3 p3 1)>>=fun y6=>some ((aA.mk 3 15 false (bH.mk 0 0 []) 0 0 y6.1 ([]:List aQ)),y6.2)) else (if (decide (y3.1=3))=true then ((pI y3.2 p1 p2 (XZ .i64 (1+y1.1)) p3 1)>>=fun y7=>some ((aA.mk 5 0 y2.1 (bH.mk 0 0 []) 0 0 y7.1 ([]:List aQ)),y7.2)) else (if (decide (y3.1=4))=true then ((pI y3.2 p1 p2 (XZ .i64 (1+y1.1)) p3 3)>>=fun y8=>some ((aA.mk 6 0 y2.1 (bH.mk 0 0 []) 0 0 y8.1 ([]:List aQ)),y8.2)) else (if (decide (y3.1=5))=true then ((fT y3.2 3)>>=fun y9=>(pI y9.2 p1 p2 (XZ .i64 (1+y1.1)) p3 (XZ .i64 (2+y9.1)))>>=fun y10=>some ((aA.mk 7 0 y2.1 (bH.mk 0 0 []) 0 0 y10.1 ([]:List aQ)),y10.2)) else (if (decide (y3.1=6))=true then (if (decide (1<p3))=true then ((pI y3.2 p1 p2 (XZ .i64 (1+y1.1)) p3 1)>>=fun y11=>(yR y11.2 p1 p2 ([(XZ .i64 (1+y1.1))]:List Int) (XZ .i64 (p3 - 2)))>>=fun y12=>some ((aA.mk 8 0 y2.1 (bH.mk 0 0 []) 0 0 y11.1 ([y12.1]:List aQ)),y12.2)) else (aCn p2 p3 y1 p1 y3)) else (if (decide (y3.1=7))=true then (if (decide (1<p3))=true then ((yR y3.2 p1 p2 ([(XZ .i64 (1+y1.1))]:List Int) (XZ .i64 (p3 - 2)))>>=fun y13=>some ((aA.mk 9 0 false (bH.mk 0 0 []) 0 0 ([]:List aA) ([y13.1]:List aQ)),y13.2)) else (aCn p2 p3 y1 p1 y3)) else (aCn p2 p3 y1 p1 y3)))))))
  partial_fixpoint
def aQ4 (p0:aB) (p1:aP) (p2:List (List Int)) (p3:Int):Option (aA×aB) :=
  (fT p0 3)>>=fun y1=>(gU y1.2 3)>>=fun y2=>(fT y2.2 10)>>=fun y3=>if (decide (y3.1=0))=true then (aH3 p2 p3 y1 y2 y3 p1 (decide (y3.1=0))) else (aH3 p2 p3 y1 y2 y3 p1 (decide (y3.1=1)))
  partial_fixpoint
def tZ (p0:aB) (p1:aP) (p2:List (List Int)) (p3:Int) (p4:Int):Option (aA×aB) :=
  (if (true&&((decide (p4≤0))==false))=true then gU p0 4 else some ((default:Bool),p0))>>=fun y1=>(some (if (decide (p4≤0))=true then true else y1.1))>>=fun y2=>if y2=true then ((gU y1.2 3)>>=fun y3=>if y3.1=true then ((aCa y3.2 p3)>>=fun y4=>some ((aA.mk 1 0 false y4.1 0 0 ([]:List aA) ([]:List aQ)),y4.2)) else ((aHn y3.2 p2 p3)>>=fun y5=>some (y5.1,y5.2))) else (if (decide (p3=1))=true then ((gU y1.2 5)>>=fun y6=>if y6.1=true then ((pI y6.2 p1 p2 p3 p4 1)>>=fun y7=>some ((aA.mk 3 16 false (bH.mk 0 0 []) 0 0 y7.1 ([]:List aQ)),y7.2)) else ((fT y6.2 5)>>=fun y8=>(pI y8.2 p1 p2 p3 p4 2)>>=fun y9=>some ((aA.mk 4 (XZ .i64 (10+y8.1)) false (bH.mk 0 0 []) 0 0 y9.1 ([]:List aQ)),y9.2))) else (if (decide (p3=2))=true then ((pI y1.2 p1 p2 p3 p4 2)>>=fun y10=>some ((aA.mk 4 9 false (bH.mk 0 0 []) 0 0 y10.1 ([]:List aQ)),y10.2)) else ((aQ4 y1.2 p1 p2 p4)>>=fun y11=>some (y11.1,y11.2))))
  partial_fixpoint
def aBw (p4:Int) (y15:List (List Int)) (p1:aP) (y1:Bool×aB) (jC:List (List UInt8)) (jB:List aA) (lH:(List (List aA))×(List Int)×(List Int)×Int×Int×(List aA)):Option (aQ×aB) :=
  (gU (aB.mk lH.2.2.1 lH.2.2.2.1 lH.2.2.2.2.1) 3)>>=fun y30=>if y30.1=true then ((fT y30.2 3)>>=fun y31=>(tZ y31.2 p1 y15 (XZ .i64 (1+y31.1)) p4)>>=fun y32=>(gU y32.2 2)>>=fun y33=>(appG 128 ([]:List bN) ([(bN.mk y32.1 y33.1)]:List bN))>>=fun y34=>aC1 y1 lH.2.2.2.2.2 jC jB lH.1 lH.2.1 y33.2.b y33.2.i y33.2.h y34) else (aC1 y1 lH.2.2.2.2.2 jC jB lH.1 lH.2.1 y30.2.b y30.2.i y30.2.h ([]:List bN))
  partial_fixpoint
def F4 (p3:List Int) (p4:Int) (y15:List (List Int)) (p1:aP) (y1:Bool×aB) (iQ:List (List aA)) (iV:List Int) (kx20:Int×(List Int)×Int×Int×(((List (List UInt8))×(List aA)))):Option (aQ×aB) :=
  if (decide (kx20.1<(p3.length:Int)))=true then ((idx p3 kx20.1)>>=fun y20=>(tZ (aB.mk kx20.2.1 kx20.2.2.1 kx20.2.2.2.1) p1 y15 y20 p4)>>=fun y21=>(appG 120 kx20.2.2.2.2.2 ([y21.1]:List aA))>>=fun y22=>(tV y21.2 ([[97],[98],[99],[120],[121,32,122],[99,49]]:List (List UInt8)))>>=fun y23=>(appG 16 kx20.2.2.2.2.1 ([y23.1]:List (List UInt8)))>>=fun y24=>F4 p3 p4 y15 p1 y1 iQ iV ((XZ .i64 (kx20.1+1)),y23.2.b,y23.2.i,y23.2.h,y24,y22)) else ((gU (aB.mk kx20.2.1 kx20.2.2.1 kx20.2.2.2.1) 2)>>=fun y25=>if y25.1=true then ((tZ y25.2 p1 y15 3 p4)>>=fun y26=>aBw p4 y15 p1 y1 kx20.2.2.2.2.1 kx20.2.2.2.2.2 (iQ,iV,y26.2.b,y26.2.i,y26.2.h,([y26.1]:List aA))) else (aBw p4 y15 p1 y1 kx20.2.2.2.2.1 kx20.2.2.2.2.2 (iQ,iV,y25.2.b,y25.2.i,y25.2.h,([]:List aA))))
  partial_fixpoint
def aAu (p2:List (List Int)) (p3:List Int) (p4:Int) (y2:Int×aB) (x13:Int) (p1:aP) (y1:Bool×aB) (ky4:(List Int)×(((List (List aA))×(List Int)×Int×Int×(List aA)))):Option (aQ×aB) :=
  (appG 24 ky4.2.1 ([ky4.2.2.2.2.2]:List (List aA)))>>=fun y19=>wS p2 p3 p4 y2 p1 y1 ((XZ .i64 (x13+1)),ky4.2.2.1,ky4.2.2.2.1,ky4.2.2.2.2.1,y19,ky4.1)
  partial_fixpoint
def wS (p2:List (List Int)) (p3:List Int) (p4:Int) (y2:Int×aB) (p1:aP) (y1:Bool×aB) (kx13:Int×(List Int)×Int×Int×(((List (List aA))×(List Int)))):Option (aQ×aB) :=
  if (decide (kx13.1<(XZ .i64 (1+y2.1))))=true then ((fT (aB.mk kx13.2.1 kx13.2.2.1 kx13.2.2.2.1) (p1.tables.length:Int))>>=fun y3=>(appG 8 kx13.2.2.2.2.2 ([y3.1]:List Int))>>=fun y4=>(N8 p1 y4)>>=fun y5=>(if (true&&((decide (0<kx13.1))==true))=true then gU y3.2 2 else some ((default:Bool),y3.2))>>=fun y6=>(some (if (decide (0<kx13.1))=true then y6.1 else false))>>=fun y7=>if y7=true then ((aBs y5.1 p2)>>=fun y8=>(tZ y6.2 p1 y8 3 p4)>>=fun y9=>(appG 120 ([]:List aA) ([y9.1]:List aA))>>=fun y10=>aAu p2 p3 p4 y2 kx13.1 p1 y1 (y4,kx13.2.2.2.2.1,y9.2.b,y9.2.i,y9.2.h,y10)) else (aAu p2 p3 p4 y2 kx13.1 p1 y1 (y4,kx13.2.2.2.2.1,y6.2.b,y6.2.i,y6.2.h,([]:List aA)))) else ((N8 p1 kx13.2.2.2.2.2)>>=fun y14=>(aBs y14.1 p2)>>=fun y15=>F4 p3 p4 y15 p1 y1 kx13.2.2.2.2.1 kx13.2.2.2.2.2 (0,kx13.2.1,kx13.2.2.1,kx13.2.2.2.1,([]:List (List UInt8)),([]:List aA)))
  partial_fixpoint
def yR (p0:aB) (p1:aP) (p2:List (List Int)) (p3:List Int) (p4:Int):Option (aQ×aB) :=
  (gU p0 4)>>=fun y1=>(fT y1.2 2)>>=fun y2=>wS p2 p3 p4 y2 p1 y1 (0,y2.2.b,y2.2.i,y2.2.h,([]:List (List aA)),([]:List Int))
  partial_fixpoint
end
def aG7 (p1:Int) (y1:aP×aB) (x7:List Int) (aY:List Int) (bD:Int) (bG:Int):Option (aP×aQ×aB) :=
  (yR (aB.mk aY bD bG) y1.1 ([]:List (List Int)) x7 p1)>>=fun y6=>some (y1.1,y6.1,y6.2)
def aJa (p0:aB) (p1:Int):Option (aP×aQ×aB) :=
  (aJ0 p0)>>=fun y1=>(fT y1.2 3)>>=fun y2=>(gU y2.2 2)>>=fun y3=>if y3.1=true then ((fT y3.2 3)>>=fun y4=>(appG 8 ([(XZ .i64 (1+y2.1))]:List Int) ([(XZ .i64 (1+y4.1))]:List Int))>>=fun y5=>aG7 p1 y1 y5 y4.2.b y4.2.i y4.2.h) else (aG7 p1 y1 ([(XZ .i64 (1+y2.1))]:List Int) y3.2.b y3.2.i y3.2.h)
def aJi (p0:List Int):Option (aB×aP×aQ) :=
  (aJw p0)>>=fun y1=>(aG5 p0 4)>>=fun y2=>(fT y1 y2)>>=fun y3=>(aJa y3.2 y3.1)>>=fun y4=>(fT y4.2.2 20)>>=fun y5=>if (decide (y5.1=0))=true then ((aK0 y5.2)>>=fun y6=>vG y6.1.tables y4.2.1.distinct y4.2.1.limit y6.2.b y6.2.i y6.2.h y4.2.1.tables y4.2.1.on_ y4.2.1.where_ y4.2.1.order y4.2.1.items y4.2.1.names) else (if (decide (y5.1=1))=true then ((aKr y5.2 p0)>>=fun y7=>vG y4.1.tables y7.1.distinct y7.1.limit y7.2.b y7.2.i y7.2.h y7.1.tables y7.1.on_ y7.1.where_ y7.1.order y7.1.items y7.1.names) else (if (decide (y5.1=2))=true then ((idx y4.2.1.items 0)>>=fun y8=>(G5 y5.2 y8)>>=fun y9=>vG y4.1.tables y4.2.1.distinct y4.2.1.limit y9.2.b y9.2.i y9.2.h y4.2.1.tables y4.2.1.on_ y4.2.1.where_ y4.2.1.order (y4.2.1.items.set (0:Int).toNat y9.1) y4.2.1.names) else (if (decide (y5.1=3))=true then ((rH y5.2 2)>>=fun y10=>vG y4.1.tables y4.2.1.distinct y4.2.1.limit y10.2.b y10.2.i y10.2.h y4.2.1.tables y4.2.1.on_ ([y10.1]:List aA) y4.2.1.order y4.2.1.items y4.2.1.names) else (if (decide (y5.1=4))=true then ((E9 y5.2)>>=fun y11=>(idx y4.2.1.names 0)>>=fun y12=>vG y4.1.tables y4.2.1.distinct y4.2.1.limit y11.2.b y11.2.i y11.2.h y4.2.1.tables y4.2.1.on_ y4.2.1.where_ y4.2.1.order y4.2.1.items (y4.2.1.names.set (0:Int).toNat y11.1)) else (if (decide (y5.1=5))=true then ((sI y5.2)>>=fun y13=>vG y4.1.tables y4.2.1.distinct y13.1 y13.2.b y13.2.i y13.2.h y4.2.1.tables y4.2.1.on_ y4.2.1.where_ y4.2.1.order y4.2.1.items y4.2.1.names) else (if (decide (y5.1=6))=true then ((sI y5.2)>>=fun y14=>(idx y4.2.1.tables 0)>>=fun y15=>vG y4.1.tables y4.2.1.distinct y4.2.1.limit y14.2.b y14.2.i y14.2.h (y4.2.1.tables.set (0:Int).toNat y14.1) y4.2.1.on_ y4.2.1.where_ y4.2.1.order y4.2.1.items y4.2.1.names) else (if (decide (y5.1=7))=true then ((idx y4.2.1.on_ 0)>>=fun y16=>vG y4.1.tables y4.2.1.distinct y4.2.1.limit y5.2.b y5.2.i y5.2.h y4.2.1.tables (y4.2.1.on_.set (0:Int).toNat ([(aA.mk 1 0 false (bH.mk 0 0 []) 0 0 ([]:List aA) ([]:List aQ))]:List aA)) y4.2.1.where_ y4.2.1.order y4.2.1.items y4.2.1.names) else (vG y4.1.tables y4.2.1.distinct y4.2.1.limit y5.2.b y5.2.i y5.2.h y4.2.1.tables y4.2.1.on_ y4.2.1.where_ y4.2.1.order y4.2.1.items y4.2.1.names))))))))
def aLj (p0:List Int):Option (aP×aQ) :=
  (aJi p0)>>=fun y1=>some (y1.2.1,y1.2.2)
def Y0 (p0:aV) (uA:List aL) (x6:Int):Option (List aL) :=
  if (decide (x6<(p0.order.length:Int)))=true then ((idx p0.order x6)>>=fun y10=>(appG 136 uA ([y10.expr]:List aL))>>=fun y11=>Y0 p0 y11 (XZ .i64 (x6+1))) else (some uA)
  partial_fixpoint
def aBc (p0:aV) (uH:List aL) (x5:Int):Option (List aL) :=
  if (decide (x5<(p0.from_.length:Int)))=true then ((idx p0.from_ x5)>>=fun y6=>(appG 136 uH y6.on_)>>=fun y7=>aBc p0 y7 (XZ .i64 (x5+1))) else ((appG 136 uH p0.where_)>>=fun y8=>Y0 p0 y8 0)
  partial_fixpoint
mutual
def aF0 (x4:Int) (p0:aV) (cK:List aL):Option (List aL) :=
  aF8 p0 cK (XZ .i64 (x4+1))
  partial_fixpoint
def aF8 (p0:aV) (x3:List aL) (x4:Int):Option (List aL) :=
  if (decide (x4<(p0.items.length:Int)))=true then ((idx p0.items x4)>>=fun y1=>if (!y1.star)=true then ((idx p0.items x4)>>=fun y2=>(appG 136 x3 ([y2.expr]:List aL))>>=fun y3=>aF0 x4 p0 y3) else (aF0 x4 p0 x3)) else (aBc p0 x3 0)
  partial_fixpoint
end
def aEi (p0:aV):Option (List aL) :=
  aF8 p0 ([]:List aL) 0
mutual
def aFu (p0:aV) (p1:aV) (x11:Int):Option Bool :=
  if (decide (x11<(p0.order.length:Int)))=true then ((idx p0.order x11)>>=fun y18=>(idx p1.order x11)>>=fun y19=>(if (true&&((!(y18.desc==y19.desc))==false))=true then idx p0.order x11 else some default)>>=fun y20=>(if (true&&((!(y18.desc==y19.desc))==false))=true then idx p1.order x11 else some default)>>=fun y21=>(if (true&&((!(y18.desc==y19.desc))==false))=true then zR y20.expr y21.expr else some default)>>=fun y22=>(some (if (!(y18.desc==y19.desc))=true then true else (!y22)))>>=fun y23=>if y23=true then (some false) else (aFu p0 p1 (XZ .i64 (x11+1)))) else (some true)
  partial_fixpoint
def aLk (p0:aV) (p1:aV) (x8:Int):Option Bool :=
  if (decide (x8<(p0.from_.length:Int)))=true then ((idx p0.from_ x8)>>=fun y13=>(idx p1.from_ x8)>>=fun y14=>(some (if (!decide (y13.table=y14.table))=true then true else (!decide (y13.as_=y14.as_))))>>=fun y15=>(if (true&&(y15==false))=true then K6 y13.on_ y14.on_ else some default)>>=fun y16=>(some (if y15=true then true else (!y16)))>>=fun y17=>if y17=true then (some false) else (aLk p0 p1 (XZ .i64 (x8+1)))) else (aFu p0 p1 0)
  partial_fixpoint
def aHt (p0:aV) (p1:aV) (x5:Int):Option Bool :=
  if (decide (x5<(p0.items.length:Int)))=true then ((idx p0.items x5)>>=fun y7=>(idx p1.items x5)>>=fun y8=>(some (if (!(y7.star==y8.star))=true then true else (!decide (y7.qual=y8.qual))))>>=fun y9=>(some (if y9=true then true else (!decide (y7.as_=y8.as_))))>>=fun y10=>(if (true&&(y10==false))=true then zR y7.expr y8.expr else some default)>>=fun y11=>(some (if y10=true then true else (!y11)))>>=fun y12=>if y12=true then (some false) else (aHt p0 p1 (XZ .i64 (x5+1)))) else (aLk p0 p1 0)
  partial_fixpoint
def aFm (p0:aV) (p1:aV):Option Bool :=
  (some (if (!(p0.distinct==p1.distinct))=true then true else (!decide (p0.limit=p1.limit))))>>=fun y1=>(some (if y1=true then true else (!decide ((p0.items.length:Int)=(p1.items.length:Int)))))>>=fun y2=>(some (if y2=true then true else (!decide ((p0.from_.length:Int)=(p1.from_.length:Int)))))>>=fun y3=>(some (if y3=true then true else (!decide ((p0.order.length:Int)=(p1.order.length:Int)))))>>=fun y4=>(if (true&&(y4==false))=true then K6 p0.where_ p1.where_ else some default)>>=fun y5=>(some (if y4=true then true else (!y5)))>>=fun y6=>if y6=true then (some false) else (aHt p0 p1 0)
  partial_fixpoint
def aFg (p0:aL) (p1:aL) (x5:Int):Option Bool :=
  if (decide (x5<(p0.sub.length:Int)))=true then ((idx p0.sub x5)>>=fun y9=>(idx p1.sub x5)>>=fun y10=>(aFm y9 y10)>>=fun y11=>if (!y11)=true then (some false) else (aFg p0 p1 (XZ .i64 (x5+1)))) else (some true)
  partial_fixpoint
def aH8 (p0:List aL) (p1:List aL) (x5:Int):Option Bool :=
  if (decide (x5<(p0.length:Int)))=true then ((idx p0 x5)>>=fun y1=>(idx p1 x5)>>=fun y2=>(zR y1 y2)>>=fun y3=>if (!y3)=true then (some false) else (aH8 p0 p1 (XZ .i64 (x5+1)))) else (some true)
  partial_fixpoint
def K6 (p0:List aL) (p1:List aL):Option Bool :=
  if (!decide ((p0.length:Int)=(p1.length:Int)))=true then (some false) else (aH8 p0 p1 0)
  partial_fixpoint
def zR (p0:aL) (p1:aL):Option Bool :=
  (some (if (!decide (p0.kind=p1.kind))=true then true else (!decide (p0.op=p1.op))))>>=fun y1=>(some (if y1=true then true else (!(p0.not_==p1.not_))))>>=fun y2=>(some (if y2=true then true else (!((decide (p0.value.kind=p1.value.kind))&&((decide (p0.value.num=p1.value.num))&&((decide (p0.value.text=p1.value.text))&&true))))))>>=fun y3=>(some (if y3=true then true else (!decide (p0.qual=p1.qual))))>>=fun y4=>(some (if y4=true then true else (!decide (p0.name=p1.name))))>>=fun y5=>(some (if y5=true then true else (!decide ((p0.sub.length:Int)=(p1.sub.length:Int)))))>>=fun y6=>(if (true&&(y6==false))=true then K6 p0.kids p1.kids else some default)>>=fun y7=>(some (if y6=true then true else (!y7)))>>=fun y8=>if y8=true then (some false) else (aFg p0 p1 0)
  partial_fixpoint
end
mutual
def yD (p0:aL) (x3:Int):Option Bool :=
  if (decide (x3<(p0.kids.length:Int)))=true then ((idx p0.kids x3)>>=fun y2=>(lU y2)>>=fun y3=>if (!y3)=true then (some false) else (yD p0 (XZ .i64 (x3+1)))) else ((if (true&&((decide ((p0.sub.length:Int)=0))==false))=true then idx p0.sub 0 else some default)>>=fun y4=>(if (true&&((decide ((p0.sub.length:Int)=0))==false))=true then uR y4 else some default)>>=fun y5=>(some (if (decide ((p0.sub.length:Int)=0))=true then true else y5))>>=fun y6=>some y6)
  partial_fixpoint
def lU (p0:aL):Option Bool :=
  (qH p0)>>=fun y1=>if (!y1)=true then (some false) else (yD p0 0)
  partial_fixpoint
def zV (y24:List aL) (x8:Int):Option Bool :=
  if (decide (x8<(y24.length:Int)))=true then ((idx y24 x8)>>=fun y25=>(lU y25)>>=fun y26=>if (!y26)=true then (some false) else (zV y24 (XZ .i64 (x8+1)))) else (some true)
  partial_fixpoint
def yI (p0:aV) (x5:Int):Option Bool :=
  if (decide (x5<(p0.from_.length:Int)))=true then ((idx p0.from_ x5)>>=fun y17=>(lX y17.table)>>=fun y18=>(if (true&&((!y18)==false))=true then lZ y17.as_ else some default)>>=fun y19=>(some (if (!y18)=true then true else (!y19)))>>=fun y20=>(some (if y20=true then true else (decide (1<(y17.on_.length:Int)))))>>=fun y21=>(if (true&&(y21==false))=true then some (if (decide (x5=0))=true then (decide (0<(y17.on_.length:Int))) else false) else some default)>>=fun y22=>(some (if y21=true then true else y22))>>=fun y23=>if y23=true then (some false) else (yI p0 (XZ .i64 (x5+1)))) else ((aEi p0)>>=fun y24=>zV y24 0)
  partial_fixpoint
def yK (p0:aV) (x3:Int):Option Bool :=
  if (decide (x3<(p0.items.length:Int)))=true then ((idx p0.items x3)>>=fun y7=>(if (true&&(y7.star==true))=true then lZ y7.qual else some default)>>=fun y8=>(if (true&&(y7.star==true))=true then some (if (!y8)=true then true else (!decide (y7.as_=[]))) else some default)>>=fun y9=>(if ((true&&(y7.star==true))&&(y9==false))=true then zR y7.expr (aL.mk 0 0 false (bH.mk 0 0 []) [] [] ([]:List aL) ([]:List aV)) else some default)>>=fun y10=>(if (true&&(y7.star==true))=true then some (if y9=true then true else (!y10)) else some default)>>=fun y11=>(some (if y7.star=true then y11 else false))>>=fun y12=>(if (((true&&(y12==false))&&((!y7.star)==true))&&((!decide (y7.qual=[]))==false))=true then lZ y7.as_ else some default)>>=fun y13=>(if ((true&&(y12==false))&&((!y7.star)==true))=true then some (if (!decide (y7.qual=[]))=true then true else (!y13)) else some default)>>=fun y14=>(if (true&&(y12==false))=true then some (if (!y7.star)=true then y14 else false) else some default)>>=fun y15=>(some (if y12=true then true else y15))>>=fun y16=>if y16=true then (some false) else (yK p0 (XZ .i64 (x3+1)))) else (yI p0 0)
  partial_fixpoint
def uR (p0:aV):Option Bool :=
  (iX (p0.items.length:Int) 1 12)>>=fun y1=>(if (true&&((!y1)==false))=true then iX (p0.from_.length:Int) 1 3 else some default)>>=fun y2=>(some (if (!y1)=true then true else (!y2)))>>=fun y3=>(some (if y3=true then true else (decide (1<(p0.where_.length:Int)))))>>=fun y4=>(some (if y4=true then true else (decide (12<(p0.order.length:Int)))))>>=fun y5=>(some (if y5=true then true else (decide (p0.limit<(-1)))))>>=fun y6=>if y6=true then (some false) else (yK p0 0)
  partial_fixpoint
end
mutual
def xJ (p0:aL) (cK:Int) (x5:Int):Option Int :=
  if (decide (x5<(p0.sub.length:Int)))=true then ((idx p0.sub x5)>>=fun y5=>(D6 y5)>>=fun y6=>(pU cK y6)>>=fun y7=>xJ p0 y7 (XZ .i64 (x5+1))) else (some (XZ .i64 (cK+1)))
  partial_fixpoint
def S9 (p0:aL) (x3:Int) (x4:Int):Option Int :=
  if (decide (x4<(p0.kids.length:Int)))=true then ((idx p0.kids x4)>>=fun y1=>(nN y1)>>=fun y2=>(pU x3 y2)>>=fun y3=>S9 p0 y3 (XZ .i64 (x4+1))) else (xJ p0 x3 0)
  partial_fixpoint
def nN (p0:aL):Option Int :=
  S9 p0 0 0
  partial_fixpoint
def aFa (y1:List aL) (x3:Int) (x5:Int):Option Int :=
  if (decide (x5<(y1.length:Int)))=true then ((idx y1 x5)>>=fun y2=>(nN y2)>>=fun y3=>(pU x3 y3)>>=fun y4=>aFa y1 y4 (XZ .i64 (x5+1))) else (some x3)
  partial_fixpoint
def D6 (p0:aV):Option Int :=
  (aEi p0)>>=fun y1=>aFa y1 0 0
  partial_fixpoint
end
mutual
def xU (p0:aL) (fH:Int) (x5:Int):Option Int :=
  if (decide (x5<(p0.sub.length:Int)))=true then ((idx p0.sub x5)>>=fun y4=>(yQ y4)>>=fun y5=>xU p0 (XZ .i64 (fH+y5)) (XZ .i64 (x5+1))) else (some fH)
  partial_fixpoint
def R6 (p0:aL) (x3:Int) (x4:Int):Option Int :=
  if (decide (x4<(p0.kids.length:Int)))=true then ((idx p0.kids x4)>>=fun y1=>(oW y1)>>=fun y2=>R6 p0 (XZ .i64 (x3+y2)) (XZ .i64 (x4+1))) else (xU p0 x3 0)
  partial_fixpoint
def oW (p0:aL):Option Int :=
  R6 p0 1 0
  partial_fixpoint
def aF7 (y1:List aL) (x3:Int) (x5:Int):Option Int :=
  if (decide (x5<(y1.length:Int)))=true then ((idx y1 x5)>>=fun y2=>(oW y2)>>=fun y3=>aF7 y1 (XZ .i64 (x3+y3)) (XZ .i64 (x5+1))) else (some x3)
  partial_fixpoint
def yQ (p0:aV):Option Int :=
  (aEi p0)>>=fun y1=>aF7 y1 0 0
  partial_fixpoint
end
def X7 (p0:aV):Option Bool :=
  (uR p0)>>=fun y1=>(if (true&&(y1==true))=true then D6 p0 else some default)>>=fun y2=>(some (if y1=true then (decide (y2≤24)) else false))>>=fun y3=>(if (true&&(y3==true))=true then yQ p0 else some default)>>=fun y4=>(some (if y3=true then (decide (y4≤200)) else false))>>=fun y5=>some y5
def aDx (p0:List Int) (p1:List Int) (x5:Int):Option Bool :=
  if (decide (x5<(p0.length:Int)))=true then ((idx p0 x5)>>=fun y1=>(idx p1 x5)>>=fun y2=>if (!decide (y1=y2))=true then (some false) else (aDx p0 p1 (XZ .i64 (x5+1)))) else (some true)
  partial_fixpoint
def aFq (p0:List Int) (p1:List Int):Option Bool :=
  if (!decide ((p0.length:Int)=(p1.length:Int)))=true then (some false) else (aDx p0 p1 0)
def aAb (p0:List (List UInt8)) (p1:List (List UInt8)) (x5:Int):Option Bool :=
  if (decide (x5<(p0.length:Int)))=true then ((idx p0 x5)>>=fun y1=>(idx p1 x5)>>=fun y2=>if (!decide (y1=y2))=true then (some false) else (aAb p0 p1 (XZ .i64 (x5+1)))) else (some true)
  partial_fixpoint
def aJh (p0:List (List UInt8)) (p1:List (List UInt8)):Option Bool :=
  if (!decide ((p0.length:Int)=(p1.length:Int)))=true then (some false) else (aAb p0 p1 0)
mutual
def P7 (p0:aQ) (p1:aQ) (x6:Int):Option Bool :=
  if (decide (x6<(p0.order.length:Int)))=true then ((idx p0.order x6)>>=fun y15=>(idx p1.order x6)>>=fun y16=>(if (true&&((!(y15.desc==y16.desc))==false))=true then idx p0.order x6 else some default)>>=fun y17=>(if (true&&((!(y15.desc==y16.desc))==false))=true then idx p1.order x6 else some default)>>=fun y18=>(if (true&&((!(y15.desc==y16.desc))==false))=true then O8 y17.expr y18.expr else some default)>>=fun y19=>(some (if (!(y15.desc==y16.desc))=true then true else (!y19)))>>=fun y20=>if y20=true then (some false) else (P7 p0 p1 (XZ .i64 (x6+1)))) else (some true)
  partial_fixpoint
def aB3 (p0:aQ) (p1:aQ) (x5:Int):Option Bool :=
  if (decide (x5<(p0.on_.length:Int)))=true then ((idx p0.on_ x5)>>=fun y12=>(idx p1.on_ x5)>>=fun y13=>(vU y12 y13)>>=fun y14=>if (!y14)=true then (some false) else (aB3 p0 p1 (XZ .i64 (x5+1)))) else (P7 p0 p1 0)
  partial_fixpoint
def aBz (p0:aA) (p1:aA) (x5:Int):Option Bool :=
  if (decide (x5<(p0.sub.length:Int)))=true then ((idx p0.sub x5)>>=fun y9=>(idx p1.sub x5)>>=fun y10=>(aAx y9 y10)>>=fun y11=>if (!y11)=true then (some false) else (aBz p0 p1 (XZ .i64 (x5+1)))) else (some true)
  partial_fixpoint
def O8 (p0:aA) (p1:aA):Option Bool :=
  (some (if (!decide (p0.kind=p1.kind))=true then true else (!decide (p0.op=p1.op))))>>=fun y1=>(some (if y1=true then true else (!(p0.not_==p1.not_))))>>=fun y2=>(some (if y2=true then true else (!((decide (p0.value.kind=p1.value.kind))&&((decide (p0.value.num=p1.value.num))&&((decide (p0.value.text=p1.value.text))&&true))))))>>=fun y3=>(some (if y3=true then true else (!decide (p0.up=p1.up))))>>=fun y4=>(some (if y4=true then true else (!decide (p0.at_=p1.at_))))>>=fun y5=>(some (if y5=true then true else (!decide ((p0.sub.length:Int)=(p1.sub.length:Int)))))>>=fun y6=>(if (true&&(y6==false))=true then vU p0.kids p1.kids else some default)>>=fun y7=>(some (if y6=true then true else (!y7)))>>=fun y8=>if y8=true then (some false) else (aBz p0 p1 0)
  partial_fixpoint
def aEy (p0:List aA) (p1:List aA) (x5:Int):Option Bool :=
  if (decide (x5<(p0.length:Int)))=true then ((idx p0 x5)>>=fun y1=>(idx p1 x5)>>=fun y2=>(O8 y1 y2)>>=fun y3=>if (!y3)=true then (some false) else (aEy p0 p1 (XZ .i64 (x5+1)))) else (some true)
  partial_fixpoint
def vU (p0:List aA) (p1:List aA):Option Bool :=
  if (!decide ((p0.length:Int)=(p1.length:Int)))=true then (some false) else (aEy p0 p1 0)
  partial_fixpoint
def aAx (p0:aQ) (p1:aQ):Option Bool :=
  (some (if (!(p0.distinct==p1.distinct))=true then true else (!decide (p0.limit=p1.limit))))>>=fun y1=>(if (true&&(y1==false))=true then aFq p0.tables p1.tables else some default)>>=fun y2=>(some (if y1=true then true else (!y2)))>>=fun y3=>(some (if y3=true then true else (!decide ((p0.on_.length:Int)=(p1.on_.length:Int)))))>>=fun y4=>(if (true&&(y4==false))=true then vU p0.where_ p1.where_ else some default)>>=fun y5=>(some (if y4=true then true else (!y5)))>>=fun y6=>(some (if y6=true then true else (!decide ((p0.order.length:Int)=(p1.order.length:Int)))))>>=fun y7=>(if (true&&(y7==false))=true then vU p0.items p1.items else some default)>>=fun y8=>(some (if y7=true then true else (!y8)))>>=fun y9=>(if (true&&(y9==false))=true then aJh p0.names p1.names else some default)>>=fun y10=>(some (if y9=true then true else (!y10)))>>=fun y11=>if y11=true then (some false) else (aB3 p0 p1 0)
  partial_fixpoint
end
def aOm (p0:List Int):Option Bool :=
  some (decide (1048576<(p0.length:Int)))
def aK8 (p0:List Int):Option Bool :=
  (aOm p0)>>=fun y1=>if y1=true then (some true) else ((aLj p0)>>=fun y2=>(aR0 y2.1 y2.2)>>=fun y3=>(aO2 y2.1 y2.2)>>=fun y4=>if (!(y3.2==y4.2))=true then (some false) else (if (!y3.2)=true then ((aFm y3.1 (aV.mk false ([]:List dU) ([]:List bZ) ([]:List aL) ([]:List eH) 0))>>=fun y5=>some y5) else ((aLb y2.1 y3.1)>>=fun y6=>(if (true&&((decide (y6.2.code=0))==true))=true then aAx y6.1 y2.2 else some default)>>=fun y7=>(some (if (decide (y6.2.code=0))=true then y7 else false))>>=fun y8=>(if (true&&(y8==true))=true then X7 y3.1 else some default)>>=fun y9=>(some (if y8=true then y9 else false))>>=fun y10=>some y10)))
end Go.Ab
