/- The functions of the program,as Lean functions (printed by a program). -/
import Derived.Test.YthcemdafchcehacGreatAbF2
import Derived.Test.YthcemdafchcehacGreatAbF0
namespace Go.Ab
open Go
open Go.IntKind renaming wrap→QA,bits→QC
open _root_.Int renaming fdiv→QB,tmod→QD
structure gG where
  name:(List UInt8)
  type:Int
instance:Inhabited gG:=⟨(gG.mk [] 0)⟩
structure eD where
  name:(List UInt8)
  cols:(List gG)
instance:Inhabited eD:=⟨(eD.mk [] [])⟩
structure aQ where
  tables:(List eD)
instance:Inhabited aQ:=⟨(aQ.mk [])⟩
structure aA where
  kind:Int
  num:Int
  text:(List UInt8)
instance:Inhabited aA:=⟨(aA.mk 0 0 [])⟩
structure fM where
  rows:(List (List aA))
instance:Inhabited fM:=⟨(fM.mk [])⟩
structure GDb where
  tables:(List fM)
instance:Inhabited GDb:=⟨(GDb.mk [])⟩
mutual
structure aJ where
  kind:Int
  op:Int
  not_:Bool
  value:aA
  up:Int
  at_:Int
  kids:(List aJ)
  sub:(List aP)
structure cZ where
  expr:aJ
  desc:Bool
structure aP where
  tables:(List Int)
  on_:(List (List aJ))
  where_:(List aJ)
  order:(List cZ)
  items:(List aJ)
  names:(List (List UInt8))
  distinct:Bool
  limit:Int
end
instance:Inhabited aJ:=⟨(aJ.mk 0 0 false (aA.mk 0 0 []) 0 0 [] [])⟩
instance:Inhabited cZ:=⟨(cZ.mk (aJ.mk 0 0 false (aA.mk 0 0 []) 0 0 [] []) false)⟩
instance:Inhabited aP:=⟨(aP.mk [] [] [] [] [] [] false 0)⟩
structure aL where
  b:(List Int)
  i:Int
  h:Int
instance:Inhabited aL:=⟨(aL.mk [] 0 0)⟩
mutual
structure eH where
  kind:Int
  op:Int
  not_:Bool
  value:aA
  qual:(List UInt8)
  name:(List UInt8)
  kids:(List eH)
  sub:(List jH)
structure pK where
  star:Bool
  qual:(List UInt8)
  expr:eH
  as_:(List UInt8)
structure jH where
  distinct:Bool
  items:(List pK)
  from_:(List oV)
  where_:(List eH)
  order:(List pM)
  limit:Int
structure pM where
  expr:eH
  desc:Bool
structure oV where
  table:(List UInt8)
  as_:(List UInt8)
  on_:(List eH)
end
instance:Inhabited eH:=⟨(eH.mk 0 0 false (aA.mk 0 0 []) [] [] [] [])⟩
instance:Inhabited pK:=⟨(pK.mk false [] (eH.mk 0 0 false (aA.mk 0 0 []) [] [] [] []) [])⟩
instance:Inhabited jH:=⟨(jH.mk false [] [] [] [] 0)⟩
instance:Inhabited pM:=⟨(pM.mk (eH.mk 0 0 false (aA.mk 0 0 []) [] [] [] []) false)⟩
instance:Inhabited oV:=⟨(oV.mk [] [] [])⟩
structure kR where
  op:Bool
  not_:Bool
  value:Bool
  name:Bool
  least:Int
  most:Int
  subs:Int
instance:Inhabited kR:=⟨(kR.mk false false false false 0 0 0)⟩
structure bP where
  c0:aQ
  c1:GDb
  c2:(List (List aA))
  c3:aJ
instance:Inhabited bP:=⟨(bP.mk (aQ.mk []) (GDb.mk []) [] (aJ.mk 0 0 false (aA.mk 0 0 []) 0 0 [] []))⟩
structure mO where
  eval:bP
  desc:Bool
instance:Inhabited mO:=⟨(mO.mk (bP.mk (aQ.mk []) (GDb.mk []) [] (aJ.mk 0 0 false (aA.mk 0 0 []) 0 0 [] [])) false)⟩
structure aA3 where
  c0:(List bP)
instance:Inhabited aA3:=⟨(aA3.mk [])⟩
structure eP where
  tables:(List (List (List aA)))
  on_:(List (List bP))
  where_:(List bP)
  order:(List mO)
  items:aA3
  distinct:Bool
  limit:Int
instance:Inhabited eP:=⟨(eP.mk [] [] [] [] (aA3.mk []) false 0)⟩
structure nR where
  c0:aQ
  c1:GDb
  c2:(List (List aA))
instance:Inhabited nR:=⟨(nR.mk (aQ.mk []) (GDb.mk []) [])⟩
structure nW where
  kind:Int
  op:Int
  not_:Bool
  value:aA
  kids:(List aA)
  rows:(List (List aA))
instance:Inhabited nW:=⟨(nW.mk 0 0 false (aA.mk 0 0 []) [] [])⟩
structure aU where
  row:(List aA)
  keys:(List aA)
instance:Inhabited aU:=⟨(aU.mk [] [])⟩
structure eU where
  c0:eP
instance:Inhabited eU:=⟨(eU.mk (eP.mk [] [] [] [] (aA3.mk []) false 0))⟩
def okGCol (x:gG):Prop:=okS x.name∧okI x.type
def okGTable (x:eD):Prop:=okS x.name∧(okL okGCol) x.cols
def okGCatalog (x:aQ):Prop:=(okL okGTable) x.tables
def okGValue (x:aA):Prop:=okI x.kind∧okI x.num∧okS x.text
def okGData (x:fM):Prop:=(okL (okL okGValue)) x.rows
def okGDb (x:GDb):Prop:=(okL okGData) x.tables
mutual
def okGPExpr:aJ→Prop
  | ⟨a0,a1,a2,a3,a4,a5,a6,a7⟩=>okI a0∧okI a1∧okB a2∧okGValue a3∧okI a4∧okI a5∧(a6.length≤9223372036854775807∧okLGPExpr a6)∧(a7.length≤9223372036854775807∧okLGPlan a7)
def okGPSort:cZ→Prop
  | ⟨a0,a1⟩=>okGPExpr a0∧okB a1
def okGPlan:aP→Prop
  | ⟨a0,a1,a2,a3,a4,a5,a6,a7⟩=>(okL okI) a0∧(a1.length≤9223372036854775807∧okLLGPExpr a1)∧(a2.length≤9223372036854775807∧okLGPExpr a2)∧(a3.length≤9223372036854775807∧okLGPSort a3)∧(a4.length≤9223372036854775807∧okLGPExpr a4)∧(okL okS) a5∧okB a6∧okI a7
def okLGPExpr:List aJ→Prop
  | []=>True
  | x::l=>okGPExpr x∧okLGPExpr l
def okLGPSort:List cZ→Prop
  | []=>True
  | x::l=>okGPSort x∧okLGPSort l
def okLGPlan:List aP→Prop
  | []=>True
  | x::l=>okGPlan x∧okLGPlan l
def okLLGPExpr:List (List aJ)→Prop
  | []=>True
  | x::l=>(x.length≤9223372036854775807∧okLGPExpr x)∧okLLGPExpr l
end
def okGL1Cur (x:aL):Prop:=(okL okU8) x.b∧okI x.i∧okI x.h
mutual
def okGExpr:eH→Prop
  | ⟨a0,a1,a2,a3,a4,a5,a6,a7⟩=>okI a0∧okI a1∧okB a2∧okGValue a3∧okS a4∧okS a5∧(a6.length≤9223372036854775807∧okLGExpr a6)∧(a7.length≤9223372036854775807∧okLGQuery a7)
def okGItem:pK→Prop
  | ⟨a0,a1,a2,a3⟩=>okB a0∧okS a1∧okGExpr a2∧okS a3
def okGQuery:jH→Prop
  | ⟨a0,a1,a2,a3,a4,a5⟩=>okB a0∧(a1.length≤9223372036854775807∧okLGItem a1)∧(a2.length≤9223372036854775807∧okLGSource a2)∧(a3.length≤9223372036854775807∧okLGExpr a3)∧(a4.length≤9223372036854775807∧okLGSortKey a4)∧okI a5
def okGSortKey:pM→Prop
  | ⟨a0,a1⟩=>okGExpr a0∧okB a1
def okGSource:oV→Prop
  | ⟨a0,a1,a2⟩=>okS a0∧okS a1∧(a2.length≤9223372036854775807∧okLGExpr a2)
def okLGExpr:List eH→Prop
  | []=>True
  | x::l=>okGExpr x∧okLGExpr l
def okLGItem:List pK→Prop
  | []=>True
  | x::l=>okGItem x∧okLGItem l
def okLGQuery:List jH→Prop
  | []=>True
  | x::l=>okGQuery x∧okLGQuery l
def okLGSortKey:List pM→Prop
  | []=>True
  | x::l=>okGSortKey x∧okLGSortKey l
def okLGSource:List oV→Prop
  | []=>True
  | x::l=>okGSource x∧okLGSource l
end
def okGForm (x:kR):Prop:=okB x.op∧okB x.not_∧okB x.value∧okB x.name∧okI x.least∧okI x.most∧okI x.subs
def okGSortBy (x:mO):Prop:=(fun _=>True) x.eval∧okB x.desc
def okGExecution (x:eP):Prop:=(okL (okL (okL okGValue))) x.tables∧(okL (okL (fun _=>True))) x.on_∧(okL (fun _=>True)) x.where_∧(okL okGSortBy) x.order∧(fun _=>True) x.items∧okB x.distinct∧okI x.limit
def okGNode (x:nW):Prop:=okI x.kind∧okI x.op∧okB x.not_∧okGValue x.value∧(okL okGValue) x.kids∧(okL (okL okGValue)) x.rows
def okGKeyed (x:aU):Prop:=(okL okGValue) x.row∧(okL okGValue) x.keys
def aMi (p0:gG) (c0_0:List UInt8):Option Bool :=
  some (decide (p0.name=c0_0))
def R6 (p0:List gG) (c0_0:List UInt8) (x8:Int):Option Int :=
  if (decide (x8<(p0.length:Int)))=true then ((idx p0 x8)>>=fun y1=>(aMi y1 c0_0)>>=fun y2=>if y2=true then (some x8) else (R6 p0 c0_0 (QA .i64 (x8+1)))) else (some (-1))
  partial_fixpoint
def aOl (p0:List gG) (c0_0:List UInt8):Option Int :=
  R6 p0 c0_0 0
def aGt (p0:eD) (p1:List UInt8):Option Int :=
  (aOl p0.cols p1)>>=fun y1=>some y1
def qF (p0:List UInt8):Option Bool :=
  (some (if (decide (1≤(p0.length:Int)))=true then (decide ((p0.length:Int)≤20)) else false))>>=fun y1=>some y1
def R7 (p0:eD) (x8:Int):Option Bool :=
  if (decide (x8<(p0.cols.length:Int)))=true then ((idx p0.cols x8)>>=fun y1=>(qF y1.name)>>=fun y2=>(some (if (!y2)=true then true else (decide (y1.type<1))))>>=fun y3=>(some (if y3=true then true else (decide (3<y1.type))))>>=fun y4=>(if (true&&(y4==false))=true then aGt p0 y1.name else some default)>>=fun y5=>(some (if y4=true then true else (!decide (y5=x8))))>>=fun y6=>if y6=true then (some false) else (R7 p0 (QA .i64 (x8+1)))) else ((qF p0.name)>>=fun y7=>(some (if y7=true then (decide (1≤(p0.cols.length:Int))) else false))>>=fun y8=>(some (if y8=true then (decide ((p0.cols.length:Int)≤4)) else false))>>=fun y9=>some y9)
  partial_fixpoint
def aJ4 (p0:eD):Option Bool :=
  R7 p0 0
def aL2 (p0:eD) (c0_0:List UInt8):Option Bool :=
  some (decide (p0.name=c0_0))
def J5 (p0:List eD) (c0_0:List UInt8) (x8:Int):Option Int :=
  if (decide (x8<(p0.length:Int)))=true then ((idx p0 x8)>>=fun y1=>(aL2 y1 c0_0)>>=fun y2=>if y2=true then (some x8) else (J5 p0 c0_0 (QA .i64 (x8+1)))) else (some (-1))
  partial_fixpoint
def aL4 (p0:List eD) (c0_0:List UInt8):Option Int :=
  J5 p0 c0_0 0
def aJe (p0:aQ) (p1:List UInt8):Option Int :=
  (aL4 p0.tables p1)>>=fun y1=>some y1
def S9 (p0:aQ) (x8:Int):Option Bool :=
  if (decide (x8<(p0.tables.length:Int)))=true then ((idx p0.tables x8)>>=fun y1=>(aJ4 y1)>>=fun y2=>(if (true&&((!y2)==false))=true then aJe p0 y1.name else some default)>>=fun y3=>(some (if (!y2)=true then true else (!decide (y3=x8))))>>=fun y4=>if y4=true then (some false) else (S9 p0 (QA .i64 (x8+1)))) else (some (decide ((p0.tables.length:Int)≤4)))
  partial_fixpoint
def aD8 (p0:aQ):Option Bool :=
  S9 p0 0
def pX (p0:aA):Option Bool :=
  if (decide (p0.kind=0))=true then ((some (if (decide (p0.num=0))=true then (decide (p0.text=[])) else false))>>=fun y1=>some y1) else (if (decide (p0.kind=1))=true then (some (decide (p0.text=[]))) else (if (decide (p0.kind=2))=true then ((some (if (decide (p0.num=0))=true then (decide ((p0.text.length:Int)≤200)) else false))>>=fun y2=>some y2) else (if (decide (p0.kind=3))=true then ((some (if (decide (p0.num=0))=true then true else (decide (p0.num=1))))>>=fun y3=>(some (if y3=true then (decide (p0.text=[])) else false))>>=fun y4=>some y4) else (some false))))
def aHl (p0:aA) (p1:Int):Option Bool :=
  (pX p0)>>=fun y1=>(if (true&&(y1==true))=true then some (if (decide (p0.kind=0))=true then true else (decide (p0.kind=p1))) else some default)>>=fun y2=>(some (if y1=true then y2 else false))>>=fun y3=>some y3
def U7 (p1:List Int) (p0:List aA) (x14:Int):Option Bool :=
  if (decide (x14<(p0.length:Int)))=true then ((idx p0 x14)>>=fun y1=>(idx p1 x14)>>=fun y2=>(aHl y1 y2)>>=fun y3=>if (!y3)=true then (some false) else (U7 p1 p0 (QA .i64 (x14+1)))) else (some true)
  partial_fixpoint
def aK4 (p0:List aA) (p1:List Int):Option Bool :=
  if (!decide ((p0.length:Int)=(p1.length:Int)))=true then (some false) else (U7 p1 p0 0)
def aNl (p0:List aA) (c0_0:List Int):Option Bool :=
  (aK4 p0 c0_0)>>=fun y1=>some (!y1)
def Q4 (p0:List (List aA)) (c0_0:List Int) (x8:Int):Option Int :=
  if (decide (x8<(p0.length:Int)))=true then ((idx p0 x8)>>=fun y1=>(aNl y1 c0_0)>>=fun y2=>if y2=true then (some x8) else (Q4 p0 c0_0 (QA .i64 (x8+1)))) else (some (-1))
  partial_fixpoint
def aOd (p0:List (List aA)) (c0_0:List Int):Option Int :=
  Q4 p0 c0_0 0
def aGo (p0:List (List aA)) (c0_0:List Int):Option Bool :=
  (aOd p0 c0_0)>>=fun y1=>some (decide (0≤y1))
def wC (p0:eD) (x3:List Int) (x10:Int):Option (List Int) :=
  if (decide (x10<(p0.cols.length:Int)))=true then ((idx p0.cols x10)>>=fun y1=>(appG 8 x3 ([y1.type]:List Int))>>=fun y2=>wC p0 y2 (QA .i64 (x10+1))) else (some x3)
  partial_fixpoint
def O7 (p0:eD):Option (List Int) :=
  wC p0 ([]:List Int) 0
def yM (p1:GDb) (p0:aQ) (x23:Int):Option Bool :=
  if (decide (x23<(p1.tables.length:Int)))=true then ((idx p1.tables x23)>>=fun y3=>(idx p0.tables x23)>>=fun y4=>(O7 y4)>>=fun y5=>(if (true&&((decide (6<(y3.rows.length:Int)))==false))=true then aGo y3.rows y5 else some (default:Bool))>>=fun y6=>(some (if (decide (6<(y3.rows.length:Int)))=true then true else y6))>>=fun y7=>if y7=true then (some false) else (yM p1 p0 (QA .i64 (x23+1)))) else (some true)
  partial_fixpoint
def aDs (p0:aQ) (p1:GDb):Option Bool :=
  (aD8 p0)>>=fun y1=>(some (if (!y1)=true then true else (!decide ((p1.tables.length:Int)=(p0.tables.length:Int)))))>>=fun y2=>if y2=true then (some false) else (yM p1 p0 0)
def aBb (p1:aQ) (p2:GDb) (p3:List (List aA)) (p0:List aJ) (x6:List bP) (x12:Int):Option (List bP) :=
  if (decide (x12<(p0.length:Int)))=true then ((idx p0 x12)>>=fun y1=>(appG 8 x6 ([(bP.mk p1 p2 p3 y1)]:List bP))>>=fun y2=>aBb p1 p2 p3 p0 y2 (QA .i64 (x12+1))) else (some x6)
  partial_fixpoint
def M5 (p0:List aJ) (p1:aQ) (p2:GDb) (p3:List (List aA)):Option (List bP) :=
  aBb p1 p2 p3 p0 ([]:List bP) 0
def vY (p0:List (List aA)) (x6:List aA) (x27:Int):Option (List aA) :=
  if (decide (x27<(p0.length:Int)))=true then ((idx p0 x27)>>=fun y3=>(appG 32 x6 y3)>>=fun y4=>vY p0 y4 (QA .i64 (x27+1))) else (some x6)
  partial_fixpoint
def aNk (p0:List aA) (p1:Int):Option (List aA) :=
  aI1 32 p0 p1
mutual
def aDm (p0:List (List aA)) (x3:Int) (y1:List aA) (x11:Int):Option (List aA) :=
  xD p0 (QA .i64 (x3+(y1.length:Int))) (QA .i64 (x11+1))
  partial_fixpoint
def xD (p0:List (List aA)) (x3:Int) (x11:Int):Option (List aA) :=
  if (decide (x11<(p0.length:Int)))=true then ((idx p0 x11)>>=fun y1=>if (decide ((QA .i64 (x3+(y1.length:Int)))<0))=true then (none) else (aDm p0 x3 y1 x11)) else ((aNk ([]:List aA) x3)>>=fun y2=>vY p0 y2 0)
  partial_fixpoint
end
def aJ2 (p0:List (List aA)):Option (List aA) :=
  xD p0 0 0
def aG7 (p0:aA):Option Bool :=
  (some (if (decide (p0.kind=3))=true then (decide (p0.num=1)) else false))>>=fun y1=>some y1
def aNr (jV:Int):Option aA :=
  some (aA.mk 3 jV [])
def qC (p0:Bool):Option aA :=
  if p0=true then (aNr 1) else (aNr 0)
def aD7 (p0:Int) (p1:Int):Option (Int×Bool) :=
  (some (if (decide (0<p1))=true then (decide ((QA .i64 (9223372036854775807 - p1))<p0)) else false))>>=fun y1=>(if (true&&(y1==false))=true then some (if (decide (p1<0))=true then (decide (p0<(QA .i64 ((-9223372036854775808) - p1)))) else false) else some default)>>=fun y2=>(some (if y1=true then true else y2))>>=fun y3=>if y3=true then (some (0,false)) else (some ((QA .i64 (p0+p1)),true))
def X0 (p0:Int):Option aA :=
  some (aA.mk 1 p0 [])
def aDr (x8:Int) (x9:Bool):Option (aA×Int) :=
  if (!x9)=true then (some ((aA.mk 0 0 []),2)) else ((X0 x8)>>=fun y5=>some (y5,0))
def aP6 (p0:Int) (p1:Int) (p2:Int):Option (aA×Int) :=
  if (decide (p2=0))=true then (some ((aA.mk 0 0 []),3)) else (if (decide (p0=14))=true then ((xY p1 p2)>>=fun y1=>(X0 y1)>>=fun y2=>some (y2,0)) else ((some (if (decide (p1=(-9223372036854775808)))=true then (decide (p2=(-1))) else false))>>=fun y3=>if y3=true then (some ((aA.mk 0 0 []),2)) else ((xW .i64 p1 p2)>>=fun y4=>(X0 y4)>>=fun y5=>some (y5,0))))
def aH0 (p0:Int) (p1:Int):Option (Int×Bool) :=
  (if (true&&((!decide (p0=0))==true))=true then xW .i64 (QA .i64 (p0 * p1)) p0 else some default)>>=fun y1=>(if ((true&&((!decide (p0=0))==true))&&((!decide (y1=p1))==false))=true then some (if (decide (p0=(-1)))=true then (decide (p1=(-9223372036854775808))) else false) else some default)>>=fun y2=>(if (true&&((!decide (p0=0))==true))=true then some (if (!decide (y1=p1))=true then true else y2) else some default)>>=fun y3=>(some (if (!decide (p0=0))=true then y3 else false))>>=fun y4=>if y4=true then (some (0,false)) else (some ((QA .i64 (p0 * p1)),true))
def aEz (p0:Int) (p1:Int):Option (Int×Bool) :=
  (some (if (decide (p1<0))=true then (decide ((QA .i64 (9223372036854775807+p1))<p0)) else false))>>=fun y1=>(if (true&&(y1==false))=true then some (if (decide (0<p1))=true then (decide (p0<(QA .i64 ((-9223372036854775808)+p1)))) else false) else some default)>>=fun y2=>(some (if y1=true then true else y2))>>=fun y3=>if y3=true then (some (0,false)) else (some ((QA .i64 (p0 - p1)),true))
def aEi (p0:Int) (p1:Int) (p2:Int):Option (aA×Int) :=
  if (decide (p0=10))=true then ((aD7 p1 p2)>>=fun y1=>aDr y1.1 y1.2) else (if (decide (p0=11))=true then ((aEz p1 p2)>>=fun y2=>aDr y2.1 y2.2) else (if (decide (p0=12))=true then ((aH0 p1 p2)>>=fun y3=>aDr y3.1 y3.2) else ((aP6 p0 p1 p2)>>=fun y4=>some (y4.1,y4.2))))
def aGz (p0:Int):Option Bool :=
  some (!decide (p0=p0))
def aEs (p0:Int) (p1:Int):Option Int :=
  (aGz p0)>>=fun y1=>(aGz p1)>>=fun y2=>if y1=true then (if y2=true then (some 0) else (some (-1))) else (if y2=true then (some 1) else (if (decide (p0<p1))=true then (some (-1)) else (if (decide (p1<p0))=true then (some 1) else (some 0))))
def aIq (p0:List UInt8):Option Bool :=
  some (!decide (p0=p0))
def aIm (p0:List UInt8) (p1:List UInt8):Option Int :=
  (aIq p0)>>=fun y1=>(aIq p1)>>=fun y2=>if y1=true then (if y2=true then (some 0) else (some (-1))) else (if y2=true then (some 1) else (if (Op.bytesLess p0 p1)=true then (some (-1)) else (if (!(Op.bytesLess p0 p1||decide (p0=p1)))=true then (some 1) else (some 0))))
def yK (p0:List Int) (x8:Int):Option Int :=
  if (decide (x8<(p0.length:Int)))=true then ((idx p0 x8)>>=fun y1=>if (!decide (y1=0))=true then (some y1) else (yK p0 (QA .i64 (x8+1)))) else (some 0)
  partial_fixpoint
def aIs (p0:List Int):Option Int :=
  yK p0 0
def aFp (p0:aA) (p1:aA):Option Int :=
  (aEs p0.kind p1.kind)>>=fun y1=>(aEs p0.num p1.num)>>=fun y2=>(aIm p0.text p1.text)>>=fun y3=>(aIs ([y1,y2,y3]:List Int))>>=fun y4=>some y4
def aBw (p0:Int) (p1:aA) (p2:aA):Option aA :=
  (aFp p1 p2)>>=fun y1=>if (decide (p0=3))=true then ((qC (decide (y1=0)))>>=fun y2=>some y2) else (if (decide (p0=4))=true then ((qC (!decide (y1=0)))>>=fun y3=>some y3) else (if (decide (p0=5))=true then ((qC (decide (y1<0)))>>=fun y4=>some y4) else (if (decide (p0=6))=true then ((qC (decide (y1≤0)))>>=fun y5=>some y5) else (if (decide (p0=7))=true then ((qC (decide (0<y1)))>>=fun y6=>some y6) else ((qC (decide (0≤y1)))>>=fun y7=>some y7)))))
def O0 (p0:Int) (p1:aA):Option Bool :=
  (some (if (decide (p1.kind=0))=true then true else (decide (p0≤8))))>>=fun y1=>if y1=true then (some true) else (if (decide (p0=9))=true then (some (decide (p1.kind=2))) else (some (decide (p1.kind=1))))
def P8 (p0:Int) (p1:aA) (p2:aA) (x15:Int):Option (aA×Int) :=
  if (decide (x15<(([p1,p2]:List aA).length:Int)))=true then ((idx ([p1,p2]:List aA) x15)>>=fun y1=>(some (if (!decide (y1.kind=3))=true then (!decide (y1.kind=0)) else false))>>=fun y2=>if y2=true then (some ((aA.mk 0 0 []),1)) else (P8 p0 p1 p2 (QA .i64 (x15+1)))) else ((qC (decide (p0=1)))>>=fun y3=>(some (if ((decide (p1.kind=y3.kind))&&((decide (p1.num=y3.num))&&((decide (p1.text=y3.text))&&true)))=true then true else ((decide (p2.kind=y3.kind))&&((decide (p2.num=y3.num))&&((decide (p2.text=y3.text))&&true)))))>>=fun y4=>if y4=true then (some (y3,0)) else ((some (if (decide (p1.kind=0))=true then true else (decide (p2.kind=0))))>>=fun y5=>if y5=true then (some ((aA.mk 0 0 []),0)) else ((qC (decide (p0=2)))>>=fun y6=>some (y6,0))))
  partial_fixpoint
def aHs (p0:Int) (p1:aA) (p2:aA):Option (aA×Int) :=
  P8 p0 p1 p2 0
def aOz (p0:List UInt8):Option aA :=
  some (aA.mk 2 0 p0)
def sG (p0:Int) (p1:aA) (p2:aA):Option (aA×Int) :=
  (some (if (decide (p0<1))=true then true else (decide (14<p0))))>>=fun y1=>(if (true&&(y1==false))=true then pX p1 else some default)>>=fun y2=>(some (if y1=true then true else (!y2)))>>=fun y3=>(if (true&&(y3==false))=true then pX p2 else some default)>>=fun y4=>(some (if y3=true then true else (!y4)))>>=fun y5=>if y5=true then (some ((aA.mk 0 0 []),1)) else (if (decide (p0≤2))=true then ((aHs p0 p1 p2)>>=fun y6=>some (y6.1,y6.2)) else ((some (if (decide (p1.kind=0))=true then true else (decide (p2.kind=0))))>>=fun y7=>(O0 p0 p1)>>=fun y8=>(if (true&&((!y8)==false))=true then O0 p0 p2 else some default)>>=fun y9=>(some (if (!y8)=true then true else (!y9)))>>=fun y10=>(if (true&&(y10==false))=true then some (if (decide (p0≤8))=true then (!y7) else false) else some default)>>=fun y11=>(if (true&&(y10==false))=true then some (if y11=true then (!decide (p1.kind=p2.kind)) else false) else some default)>>=fun y12=>(some (if y10=true then true else y12))>>=fun y13=>if y13=true then (some ((aA.mk 0 0 []),1)) else (if y7=true then (some ((aA.mk 0 0 []),0)) else (if (decide (p0≤8))=true then ((aBw p0 p1 p2)>>=fun y14=>some (y14,0)) else (if (!decide (p0=9))=true then ((aEi p0 p1.num p2.num)>>=fun y15=>some (y15.1,y15.2)) else (if (decide (200<(QA .i64 ((p1.text.length:Int)+(p2.text.length:Int)))))=true then (some ((aA.mk 0 0 []),2)) else ((H8 p1.text p2.text)>>=fun y16=>(aOz y16)>>=fun y17=>some (y17,0))))))))
def aK0 (p0:aA) (p1:aA) (p2:aA):Option (aA×Int) :=
  (sG 8 p0 p1)>>=fun y1=>if (!decide (y1.2=0))=true then (some ((aA.mk 0 0 []),y1.2)) else ((sG 6 p0 p2)>>=fun y2=>if (!decide (y2.2=0))=true then (some ((aA.mk 0 0 []),y2.2)) else ((sG 2 y1.1 y2.1)>>=fun y3=>some (y3.1,y3.2)))
def P9 (p1:List aA) (p0:aA) (x14:Int) (iU:Int) (iW:Int) (iV:List UInt8):Option (aA×Int) :=
  if (decide (x14<(p1.length:Int)))=true then ((idx p1 x14)>>=fun y2=>(sG 3 p0 y2)>>=fun y3=>if (!decide (y3.2=0))=true then (some ((aA.mk 0 0 []),y3.2)) else ((sG 1 (aA.mk iU iW iV) y3.1)>>=fun y4=>if (!decide (y4.2=0))=true then (some ((aA.mk 0 0 []),y4.2)) else (P9 p1 p0 (QA .i64 (x14+1)) y4.1.kind y4.1.num y4.1.text))) else (some ((aA.mk iU iW iV),0))
  partial_fixpoint
def aFi (p0:aA) (p1:List aA):Option (aA×Int) :=
  (qC false)>>=fun y1=>P9 p1 p0 0 y1.kind y1.num y1.text
def zK (p0:nW) (x4:List aA) (x42:Int):Option (aA×Int) :=
  if (decide (x42<(p0.rows.length:Int)))=true then ((idx p0.rows x42)>>=fun y8=>if (decide ((y8.length:Int)=0))=true then (some ((aA.mk 0 0 []),4)) else ((idx y8 0)>>=fun y9=>(appG 32 x4 ([y9]:List aA))>>=fun y10=>zK p0 y10 (QA .i64 (x42+1)))) else ((idx p0.kids 0)>>=fun y11=>(aFi y11 x4)>>=fun y12=>some (y12.1,y12.2))
  partial_fixpoint
def aDw (p0:nW):Option (aA×Int) :=
  if (decide (p0.kind=6))=true then ((idx p0.kids 0)>>=fun y1=>(idx p0.kids 1)>>=fun y2=>(idx p0.kids 2)>>=fun y3=>(aK0 y1 y2 y3)>>=fun y4=>some (y4.1,y4.2)) else (if (decide (p0.kind=7))=true then ((idx p0.kids 0)>>=fun y5=>(iM p0.kids 1 (p0.kids.length:Int))>>=fun y6=>(aFi y5 y6)>>=fun y7=>some (y7.1,y7.2)) else (zK p0 ([]:List aA) 0))
def aAg (p0:Int) (p1:aA):Option (aA×Int) :=
  (pX p1)>>=fun y1=>(if (true&&((!y1)==false))=true then some (if (!decide (p0=15))=true then (!decide (p0=16)) else false) else some default)>>=fun y2=>(some (if (!y1)=true then true else y2))>>=fun y3=>if y3=true then (some ((aA.mk 0 0 []),1)) else (if (decide (p1.kind=0))=true then (some ((aA.mk 0 0 []),0)) else ((some (if (decide (p0=15))=true then (decide (p1.kind=3)) else false))>>=fun y4=>if y4=true then ((qC (decide (p1.num=0)))>>=fun y5=>some (y5,0)) else ((some (if (decide (p0=16))=true then (decide (p1.kind=1)) else false))>>=fun y6=>if y6=true then ((aEi 11 0 p1.num)>>=fun y7=>some (y7.1,y7.2)) else (some ((aA.mk 0 0 []),1)))))
def aI8 (p0:nW):Option (aA×Int) :=
  if (decide (p0.kind=1))=true then (some (p0.value,0)) else (if (decide (p0.kind=3))=true then ((idx p0.kids 0)>>=fun y1=>(aAg p0.op y1)>>=fun y2=>some (y2.1,y2.2)) else (if (decide (p0.kind=4))=true then ((idx p0.kids 0)>>=fun y3=>(idx p0.kids 1)>>=fun y4=>(sG p0.op y3 y4)>>=fun y5=>some (y5.1,y5.2)) else (if (decide (p0.kind=5))=true then ((idx p0.kids 0)>>=fun y6=>(qC (!((decide (y6.kind=0))==p0.not_)))>>=fun y7=>some (y7,0)) else (if (decide (p0.kind=9))=true then ((qC (decide (0<(p0.rows.length:Int))))>>=fun y8=>some (y8,0)) else ((aDw p0)>>=fun y9=>if (!decide (y9.2=0))=true then (some ((aA.mk 0 0 []),y9.2)) else (if p0.not_=true then ((aAg 15 y9.1)>>=fun y10=>some (y10.1,y10.2)) else (some (y9.1,0))))))))
def aAq (p0:aA):Option Bool :=
  (pX p0)>>=fun y1=>(if (true&&(y1==true))=true then some (if (!decide (p0.kind=1))=true then true else (decide (0≤p0.num))) else some default)>>=fun y2=>(some (if y1=true then y2 else false))>>=fun y3=>(some (if y3=true then (decide ((p0.text.length:Int)≤40)) else false))>>=fun y4=>some y4
def F5 (p0:eH):Option (kR×Bool) :=
  if (decide (p0.kind=1))=true then ((aAq p0.value)>>=fun y1=>some ((kR.mk false false true false 0 0 0),y1)) else (if (decide (p0.kind=2))=true then ((qF p0.name)>>=fun y2=>(if ((true&&(y2==true))&&((decide (p0.qual=[]))==false))=true then qF p0.qual else some default)>>=fun y3=>(if (true&&(y2==true))=true then some (if (decide (p0.qual=[]))=true then true else y3) else some default)>>=fun y4=>(some (if y2=true then y4 else false))>>=fun y5=>some ((kR.mk false false false true 0 0 0),y5)) else (if (decide (p0.kind=3))=true then ((some (if (decide (p0.op=15))=true then true else (decide (p0.op=16))))>>=fun y6=>some ((kR.mk true false false false 1 1 0),y6)) else (if (decide (p0.kind=4))=true then ((some (if (decide (1≤p0.op))=true then (decide (p0.op≤14)) else false))>>=fun y7=>some ((kR.mk true false false false 2 2 0),y7)) else (if (decide (p0.kind=5))=true then (some ((kR.mk false true false false 1 1 0),true)) else (if (decide (p0.kind=6))=true then (some ((kR.mk false true false false 3 3 0),true)) else (if (decide (p0.kind=7))=true then (some ((kR.mk false true false false 2 9 0),true)) else (if (decide (p0.kind=8))=true then (some ((kR.mk false true false false 1 1 1),true)) else (if (decide (p0.kind=9))=true then (some ((kR.mk false false false false 0 0 1),true)) else (some ((kR.mk false false false false 0 0 0),false))))))))))
def aJz (p0:Int) (aA2:Int):Option (kR×Bool) :=
  (F5 (eH.mk p0 aA2 false (aA.mk 0 0 []) [] [120] ([]:List eH) ([]:List jH)))>>=fun y1=>some (y1.1,y1.2)
def aPo (p0:Int):Option (kR×Bool) :=
  if (decide (p0=4))=true then (aJz p0 1) else (aJz p0 15)
def aGa (p0:Int) (p1:Int) (p2:Int):Option Bool :=
  (aPo p0)>>=fun y1=>(some (if y1.2=true then (decide (y1.1.least≤p1)) else false))>>=fun y2=>(some (if y2=true then (decide (p1≤y1.1.most)) else false))>>=fun y3=>(some (if y3=true then (decide (p2=y1.1.subs)) else false))>>=fun y4=>some y4
def aG3 (p0:List aA):Option (List aA) :=
  if (decide ((p0.length:Int)=0))=true then (some ([]:List aA)) else ((appG 32 ([]:List aA) p0)>>=fun y1=>some y1)
def Z0 (p0:List aA) (p1:List aA) (x13:Int):Option Bool :=
  if (decide (x13<(p0.length:Int)))=true then ((idx p0 x13)>>=fun y1=>(idx p1 x13)>>=fun y2=>if (!((decide (y1.kind=y2.kind))&&((decide (y1.num=y2.num))&&((decide (y1.text=y2.text))&&true))))=true then (some false) else (Z0 p0 p1 (QA .i64 (x13+1)))) else (some true)
  partial_fixpoint
def aHa (p0:List aA) (p1:List aA):Option Bool :=
  if (!decide ((p0.length:Int)=(p1.length:Int)))=true then (some false) else (Z0 p0 p1 0)
def aPe (p0:List aA) (c0_0:List aA):Option Bool :=
  (aHa c0_0 p0)>>=fun y1=>some y1
def U2 (p0:List (List aA)) (c0_0:List aA) (x8:Int):Option Int :=
  if (decide (x8<(p0.length:Int)))=true then ((idx p0 x8)>>=fun y1=>(aPe y1 c0_0)>>=fun y2=>if y2=true then (some x8) else (U2 p0 c0_0 (QA .i64 (x8+1)))) else (some (-1))
  partial_fixpoint
def aKi (p0:List (List aA)) (c0_0:List aA):Option Int :=
  U2 p0 c0_0 0
def aK3 (p0:List (List aA)) (c0_0:List aA):Option Bool :=
  (aKi p0 c0_0)>>=fun y1=>some (decide (0≤y1))
mutual
def aCj (p0:List (List aA)) (x9:Int) (qD:List (List aA)):Option (List (List aA)) :=
  aAx p0 qD (QA .i64 (x9+1))
  partial_fixpoint
def aAx (p0:List (List aA)) (x3:List (List aA)) (x9:Int):Option (List (List aA)) :=
  if (decide (x9<(p0.length:Int)))=true then ((idx p0 x9)>>=fun y1=>(aK3 x3 y1)>>=fun y2=>if (!y2)=true then ((aG3 y1)>>=fun y3=>(appG 24 x3 ([y3]:List (List aA)))>>=fun y4=>aCj p0 x9 y4) else (aCj p0 x9 x3)) else (some x3)
  partial_fixpoint
end
def aAs (p0:List (List aA)):Option (List (List aA)) :=
  aAx p0 ([]:List (List aA)) 0
def aJv (V9:List (List aA)):Option ((List (List aA))×Int) :=
  some (V9,0)
def xK (p0:eP) (vK:List (List aA)):Option ((List (List aA))×Int) :=
  (some (if (decide (0≤p0.limit))=true then (decide (p0.limit<(vK.length:Int))) else false))>>=fun y8=>if y8=true then ((iM vK 0 p0.limit)>>=fun y9=>aJv y9) else (aJv vK)
mutual
def aAj (p2:eP) (x12:Int) (p0:aU) (p1:aU) (x8:Int):Option Int :=
  if (!decide (x8=0))=true then (some x8) else (aAo p2 p0 p1 (QA .i64 (x12+1)))
  partial_fixpoint
def aAo (p2:eP) (p0:aU) (p1:aU) (x12:Int):Option Int :=
  if (decide (x12<(p2.order.length:Int)))=true then ((idx p2.order x12)>>=fun y1=>(idx p0.keys x12)>>=fun y2=>(idx p1.keys x12)>>=fun y3=>(aFp y2 y3)>>=fun y4=>if y1.desc=true then (aAj p2 x12 p0 p1 (QA .i64 (0 - y4))) else (aAj p2 x12 p0 p1 y4)) else (some 0)
  partial_fixpoint
end
def uX (p0:aU) (p1:aU) (p2:eP):Option Int :=
  aAo p2 p0 p1 0
mutual
def O8 (p1:Int) (p2:Int) (p3:eU) (x8:Int) (x9:Int) (fB:List aU):Option (List aU) :=
  (if (true&&((decide (p1<x9))==true))=true then idx fB x9 else some default)>>=fun y2=>(if (true&&((decide (p1<x9))==true))=true then idx fB x9 else some default)>>=fun y3=>(if (true&&((decide (p1<x9))==true))=true then idx fB (QA .i64 (x9 - 1)) else some default)>>=fun y4=>(if (true&&((decide (p1<x9))==true))=true then idx fB (QA .i64 (x9 - 1)) else some default)>>=fun y5=>(if (true&&((decide (p1<x9))==true))=true then uX y3 y5 p3.c0 else some default)>>=fun y6=>(some (if (decide (p1<x9))=true then (decide (y6<0)) else false))>>=fun y7=>if y7=true then ((idx fB (QA .i64 (x9 - 1)))>>=fun y8=>(idx fB (QA .i64 (x9 - 1)))>>=fun y9=>(idx fB x9)>>=fun y10=>(idx fB x9)>>=fun y11=>(idx fB x9)>>=fun y12=>(pO fB x9 y9)>>=fun y13=>(idx y13 (QA .i64 (x9 - 1)))>>=fun y14=>(pO y13 (QA .i64 (x9 - 1)) y11)>>=fun y15=>O8 p1 p2 p3 x8 (QA .i64 (x9 - 1)) y15) else (zQ p1 p2 p3 (QA .i64 (x8+1)) fB)
  partial_fixpoint
def zQ (p1:Int) (p2:Int) (p3:eU) (x8:Int) (bC:List aU):Option (List aU) :=
  if (decide (x8<p2))=true then (O8 p1 p2 p3 x8 x8 bC) else (some bC)
  partial_fixpoint
end
def aDo (p0:List aU) (p1:Int) (p2:Int) (p3:eU):Option (List aU) :=
  zQ p1 p2 p3 (QA .i64 (p1+1)) p0
def aJl (p1:Int) (p2:Int) (p3:Int) (x10:Int) (bC:List aU):Option (List aU) :=
  if (decide (x10<p3))=true then ((idx bC (QA .i64 (p2+x10)))>>=fun y1=>(idx bC (QA .i64 (p2+x10)))>>=fun y2=>(idx bC (QA .i64 (p1+x10)))>>=fun y3=>(idx bC (QA .i64 (p1+x10)))>>=fun y4=>(idx bC (QA .i64 (p1+x10)))>>=fun y5=>(pO bC (QA .i64 (p1+x10)) y2)>>=fun y6=>(idx y6 (QA .i64 (p2+x10)))>>=fun y7=>(pO y6 (QA .i64 (p2+x10)) y4)>>=fun y8=>aJl p1 p2 p3 (QA .i64 (x10+1)) y8) else (some bC)
  partial_fixpoint
def aG0 (p0:List aU) (p1:Int) (p2:Int) (p3:Int) (p4:eU):Option (List aU) :=
  aJl p1 p2 p3 0 p0
def aE9 (p2:Int) (p4:eU) (x10:Int) (x11:Int) (bC:List aU):Option (List aU) :=
  if (!decide (x10=x11))=true then (if (decide (x11<x10))=true then ((aG0 bC (QA .i64 (p2 - x10)) p2 x11 p4)>>=fun y1=>aE9 p2 p4 (QA .i64 (x10 - x11)) x11 y1) else ((aG0 bC (QA .i64 (p2 - x10)) (QA .i64 ((QA .i64 (p2+x11)) - x10)) x10 p4)>>=fun y2=>aE9 p2 p4 x10 (QA .i64 (x11 - x10)) y2)) else ((aG0 bC (QA .i64 (p2 - x10)) p2 x10 p4)>>=fun y3=>some y3)
  partial_fixpoint
def bA5 (p0:List aU) (p1:Int) (p2:Int) (p3:Int) (p4:eU):Option (List aU) :=
  aE9 p2 p4 (QA .i64 (p2 - p1)) (QA .i64 (p3 - p2)) p0
def aJ6 (x10:Int) (x13:Int) (bC:List aU):Option (List aU) :=
  if (decide (x13<(QA .i64 (x10 - 1))))=true then ((idx bC (QA .i64 (x13+1)))>>=fun y14=>(idx bC (QA .i64 (x13+1)))>>=fun y15=>(idx bC x13)>>=fun y16=>(idx bC x13)>>=fun y17=>(idx bC x13)>>=fun y18=>(pO bC x13 y15)>>=fun y19=>(idx y19 (QA .i64 (x13+1)))>>=fun y20=>(pO y19 (QA .i64 (x13+1)) y17)>>=fun y21=>aJ6 x10 (QA .i64 (x13+1)) y21) else (some bC)
  partial_fixpoint
def aEl (p1:Int) (p4:eU) (p0:List aU) (x10:Int) (x11:Int):Option (List aU) :=
  if (decide (x10<x11))=true then ((idx p0 (QA .i64 (QB (QA .u64 (QA .i64 (x10+x11))) (2 ^ 1))))>>=fun y1=>(idx p0 (QA .i64 (QB (QA .u64 (QA .i64 (x10+x11))) (2 ^ 1))))>>=fun y2=>(idx p0 p1)>>=fun y3=>(idx p0 p1)>>=fun y4=>(uX y2 y4 p4.c0)>>=fun y5=>if (decide (y5<0))=true then (aEl p1 p4 p0 (QA .i64 ((QA .i64 (QB (QA .u64 (QA .i64 (x10+x11))) (2 ^ 1)))+1)) x11) else (aEl p1 p4 p0 x10 (QA .i64 (QB (QA .u64 (QA .i64 (x10+x11))) (2 ^ 1))))) else (aJ6 x10 p1 p0)
  partial_fixpoint
def aHx (x14:Int) (x17:Int) (iL:List aU):Option (List aU) :=
  if (decide (x14<x17))=true then ((idx iL (QA .i64 (x17 - 1)))>>=fun y22=>(idx iL (QA .i64 (x17 - 1)))>>=fun y23=>(idx iL x17)>>=fun y24=>(idx iL x17)>>=fun y25=>(idx iL x17)>>=fun y26=>(pO iL x17 y23)>>=fun y27=>(idx y27 (QA .i64 (x17 - 1)))>>=fun y28=>(pO y27 (QA .i64 (x17 - 1)) y25)>>=fun y29=>aHx x14 (QA .i64 (x17 - 1)) y29) else (some iL)
  partial_fixpoint
def aF3 (p2:Int) (p4:eU) (p0:List aU) (x14:Int) (x15:Int):Option (List aU) :=
  if (decide (x14<x15))=true then ((idx p0 p2)>>=fun y6=>(idx p0 p2)>>=fun y7=>(idx p0 (QA .i64 (QB (QA .u64 (QA .i64 (x14+x15))) (2 ^ 1))))>>=fun y8=>(idx p0 (QA .i64 (QB (QA .u64 (QA .i64 (x14+x15))) (2 ^ 1))))>>=fun y9=>(uX y7 y9 p4.c0)>>=fun y10=>if (!(decide (y10<0)))=true then (aF3 p2 p4 p0 (QA .i64 ((QA .i64 (QB (QA .u64 (QA .i64 (x14+x15))) (2 ^ 1)))+1)) x15) else (aF3 p2 p4 p0 x14 (QA .i64 (QB (QA .u64 (QA .i64 (x14+x15))) (2 ^ 1))))) else (aHx x14 p2 p0)
  partial_fixpoint
mutual
def aJs (p3:Int) (p4:eU) (p1:Int) (p2:Int) (dF:Int) (oZ:List aU):Option (List aU) :=
  (some (if (decide ((QA .i64 (QB (QA .u64 (QA .i64 (p1+p3))) (2 ^ 1)))<(QA .i64 ((QA .i64 ((QA .i64 (QB (QA .u64 (QA .i64 (p1+p3))) (2 ^ 1)))+p2)) - dF))))=true then (decide ((QA .i64 ((QA .i64 ((QA .i64 (QB (QA .u64 (QA .i64 (p1+p3))) (2 ^ 1)))+p2)) - dF))<p3)) else false))>>=fun y41=>if y41=true then ((aFx oZ (QA .i64 (QB (QA .u64 (QA .i64 (p1+p3))) (2 ^ 1))) (QA .i64 ((QA .i64 ((QA .i64 (QB (QA .u64 (QA .i64 (p1+p3))) (2 ^ 1)))+p2)) - dF)) p3 p4)>>=fun y42=>some y42) else (some oZ)
  partial_fixpoint
def aO4 (p1:Int) (p3:Int) (p4:eU) (dF:Int) (p2:Int) (oP:List aU):Option (List aU) :=
  (some (if (decide (p1<dF))=true then (decide (dF<(QA .i64 (QB (QA .u64 (QA .i64 (p1+p3))) (2 ^ 1))))) else false))>>=fun y38=>if y38=true then ((aFx oP p1 dF (QA .i64 (QB (QA .u64 (QA .i64 (p1+p3))) (2 ^ 1))) p4)>>=fun y39=>aJs p3 p4 p1 p2 dF y39) else (aJs p3 p4 p1 p2 dF oP)
  partial_fixpoint
def aI4 (p1:Int) (p2:Int) (p3:Int) (p4:eU) (p0:List aU) (dF:Int) (iI:Int):Option (List aU) :=
  if (decide (dF<iI))=true then ((idx p0 (QA .i64 ((QA .i64 ((QA .i64 ((QA .i64 (QB (QA .u64 (QA .i64 (p1+p3))) (2 ^ 1)))+p2)) - 1)) - (QA .i64 (QB (QA .u64 (QA .i64 (dF+iI))) (2 ^ 1))))))>>=fun y30=>(idx p0 (QA .i64 ((QA .i64 ((QA .i64 ((QA .i64 (QB (QA .u64 (QA .i64 (p1+p3))) (2 ^ 1)))+p2)) - 1)) - (QA .i64 (QB (QA .u64 (QA .i64 (dF+iI))) (2 ^ 1))))))>>=fun y31=>(idx p0 (QA .i64 (QB (QA .u64 (QA .i64 (dF+iI))) (2 ^ 1))))>>=fun y32=>(idx p0 (QA .i64 (QB (QA .u64 (QA .i64 (dF+iI))) (2 ^ 1))))>>=fun y33=>(uX y31 y33 p4.c0)>>=fun y34=>if (!(decide (y34<0)))=true then (aI4 p1 p2 p3 p4 p0 (QA .i64 ((QA .i64 (QB (QA .u64 (QA .i64 (dF+iI))) (2 ^ 1)))+1)) iI) else (aI4 p1 p2 p3 p4 p0 dF (QA .i64 (QB (QA .u64 (QA .i64 (dF+iI))) (2 ^ 1))))) else ((some (if (decide (dF<p2))=true then (decide (p2<(QA .i64 ((QA .i64 ((QA .i64 (QB (QA .u64 (QA .i64 (p1+p3))) (2 ^ 1)))+p2)) - dF)))) else false))>>=fun y35=>if y35=true then ((bA5 p0 dF p2 (QA .i64 ((QA .i64 ((QA .i64 (QB (QA .u64 (QA .i64 (p1+p3))) (2 ^ 1)))+p2)) - dF)) p4)>>=fun y36=>aO4 p1 p3 p4 dF p2 y36) else (aO4 p1 p3 p4 dF p2 p0))
  partial_fixpoint
def aKn (p1:Int) (p2:Int) (p3:Int) (p4:eU) (p0:List aU) (x20:Int) (x21:Int):Option (List aU) :=
  aI4 p1 p2 p3 p4 p0 x20 x21
  partial_fixpoint
def aFx (p0:List aU) (p1:Int) (p2:Int) (p3:Int) (p4:eU):Option (List aU) :=
  if (decide ((QA .i64 (p2 - p1))=1))=true then (aEl p1 p4 p0 p2 p3) else (if (decide ((QA .i64 (p3 - p2))=1))=true then (aF3 p2 p4 p0 p1 p2) else (if (decide ((QA .i64 (QB (QA .u64 (QA .i64 (p1+p3))) (2 ^ 1)))<p2))=true then (aKn p1 p2 p3 p4 p0 (QA .i64 ((QA .i64 ((QA .i64 (QB (QA .u64 (QA .i64 (p1+p3))) (2 ^ 1)))+p2)) - p3)) (QA .i64 (QB (QA .u64 (QA .i64 (p1+p3))) (2 ^ 1)))) else (aKn p1 p2 p3 p4 p0 p1 p2)))
  partial_fixpoint
end
mutual
def aIa (p1:Int) (p2:eU) (x6:Int) (pW:List aU):Option (List aU) :=
  aH9 p1 p2 (QA .i64 (x6 * 2)) pW
  partial_fixpoint
def aP3 (p1:Int) (p2:eU) (x6:Int) (nD:Int) (nL:Int) (oD:List aU):Option (List aU) :=
  if (decide (nL≤p1))=true then ((aFx oD nD (QA .i64 (nD+x6)) nL p2)>>=fun y7=>aP3 p1 p2 x6 nL (QA .i64 (nL+(QA .i64 (2 * x6)))) y7) else (if (decide ((QA .i64 (nD+x6))<p1))=true then ((aFx oD nD (QA .i64 (nD+x6)) p1 p2)>>=fun y8=>aIa p1 p2 x6 y8) else (aIa p1 p2 x6 oD))
  partial_fixpoint
def aH9 (p1:Int) (p2:eU) (x6:Int) (oW:List aU):Option (List aU) :=
  if (decide (x6<p1))=true then (aP3 p1 p2 x6 0 (QA .i64 (2 * x6)) oW) else (some oW)
  partial_fixpoint
end
def aEw (p1:Int) (p2:eU) (x7:Int) (x8:Int) (bC:List aU):Option (List aU) :=
  if (decide (x8≤p1))=true then ((aDo bC x7 x8 p2)>>=fun y1=>aEw p1 p2 x8 (QA .i64 (x8+20)) y1) else ((aDo bC x7 p1 p2)>>=fun y2=>aH9 p1 p2 20 y2)
  partial_fixpoint
def aKr (p0:List aU) (p1:Int) (p2:eU):Option (List aU) :=
  aEw p1 p2 0 20 p0
def aHw (p0:List aU) (p1:eU):Option (List aU) :=
  (aKr p0 (p0.length:Int) p1)>>=fun y1=>some y1
def L8 (y2:List aU) (x14:List (List aA)) (x60:Int):Option ((List (List aA))×Int) :=
  if (decide (x60<(y2.length:Int)))=true then ((idx y2 x60)>>=fun y7=>(idx y2 x60)>>=fun y8=>(appG 24 x14 ([y8.row]:List (List aA)))>>=fun y9=>L8 y2 y9 (QA .i64 (x60+1))) else (some (x14,0))
  partial_fixpoint
mutual
def aBv (y1:List aA) (p1:List (List aA)) (x20:Int) (p0:eP) (gY:List aU) (x9:List aA) (x28:Int):Option ((List (List aA))×Int) :=
  if (decide (x28<(p0.order.length:Int)))=true then ((idx p0.order x28)>>=fun y3=>(nM y1 y3.eval.c0 y3.eval.c1 y3.eval.c2 y3.eval.c3)>>=fun y4=>if (!decide (y4.2=0))=true then (some (([]:List (List aA)),y4.2)) else ((appG 32 x9 ([y4.1]:List aA))>>=fun y5=>aBv y1 p1 x20 p0 gY y5 (QA .i64 (x28+1)))) else ((appG 48 gY ([(aU.mk y1 x9)]:List aU))>>=fun y6=>M3 p1 p0 (QA .i64 (x20+1)) y6)
  partial_fixpoint
def M3 (p1:List (List aA)) (p0:eP) (x20:Int) (gY:List aU):Option ((List (List aA))×Int) :=
  if (decide (x20<(p1.length:Int)))=true then ((idx p1 x20)>>=fun y1=>aBv y1 p1 x20 p0 gY ([]:List aA) 0) else ((aHw gY (eU.mk p0))>>=fun y2=>L8 y2 ([]:List (List aA)) 0)
  partial_fixpoint
def aKh (p0:eP) (p1:List (List aA)):Option ((List (List aA))×Int) :=
  M3 p1 p0 0 ([]:List aU)
  partial_fixpoint
def aD0 (p1:List aA) (p0:List bP) (x6:List aA) (x14:Int):Option ((List aA)×Int) :=
  if (decide (x14<(p0.length:Int)))=true then ((idx p0 x14)>>=fun y1=>(nM p1 y1.c0 y1.c1 y1.c2 y1.c3)>>=fun y2=>if (!decide (y2.2=0))=true then (some (([]:List aA),y2.2)) else ((appG 32 x6 ([y2.1]:List aA))>>=fun y3=>aD0 p1 p0 y3 (QA .i64 (x14+1)))) else (some (x6,0))
  partial_fixpoint
def aMp (p0:List bP) (p1:List aA):Option ((List aA)×Int) :=
  aD0 p1 p0 ([]:List aA) 0
  partial_fixpoint
def aDl (p0:List aA) (p1:List bP):Option ((List aA)×Int) :=
  (aMp p1 p0)>>=fun y1=>some (y1.1,y1.2)
  partial_fixpoint
def aDi (y2:(List (List aA))×Int) (p0:eP) (x6:List (List aA)) (x31:Int):Option ((List (List aA))×Int) :=
  if (decide (x31<(y2.1.length:Int)))=true then ((idx y2.1 x31)>>=fun y3=>(aDl y3 p0.items.c0)>>=fun y4=>if (!decide (y4.2=0))=true then (some (([]:List (List aA)),y4.2)) else ((appG 24 x6 ([y4.1]:List (List aA)))>>=fun y5=>aDi y2 p0 y5 (QA .i64 (x31+1)))) else (if p0.distinct=true then ((aAs x6)>>=fun y6=>xK p0 y6) else (xK p0 x6))
  partial_fixpoint
def yR (p2:List (List aA)) (p3:aJ) (p0:aQ) (p1:GDb) (gL:List aA) (nT:Int) (qI:List (List aA)):Option (aA×Int) :=
  if (decide (nT<(p3.sub.length:Int)))=true then ((idx p3.sub nT)>>=fun y11=>(xP p0 p1 p2 y11)>>=fun y12=>if (!decide (y12.2=0))=true then (some ((aA.mk 0 0 []),y12.2)) else (yR p2 p3 p0 p1 gL (QA .i64 (nT+1)) y12.1)) else ((aI8 (nW.mk p3.kind p3.op p3.not_ p3.value gL qI))>>=fun y13=>some (y13.1,y13.2))
  partial_fixpoint
def aAi (p2:List (List aA)) (p3:aJ) (p0:aQ) (p1:GDb) (x81:Int) (gL:List aA):Option (aA×Int) :=
  if (decide (x81<(p3.kids.length:Int)))=true then ((idx p3.kids x81)>>=fun y8=>(vC p0 p1 p2 y8)>>=fun y9=>if (!decide (y9.2=0))=true then (some ((aA.mk 0 0 []),y9.2)) else ((appG 32 gL ([y9.1]:List aA))>>=fun y10=>aAi p2 p3 p0 p1 (QA .i64 (x81+1)) y10)) else (yR p2 p3 p0 p1 gL 0 ([]:List (List aA)))
  partial_fixpoint
def vC (p0:aQ) (p1:GDb) (p2:List (List aA)) (p3:aJ):Option (aA×Int) :=
  (aGa p3.kind (p3.kids.length:Int) (p3.sub.length:Int))>>=fun y1=>if (!y1)=true then (some ((aA.mk 0 0 []),4)) else (if (decide (p3.kind=2))=true then ((some (if (decide (p3.up<0))=true then true else (decide ((p2.length:Int)≤p3.up))))>>=fun y2=>(some (if y2=true then true else (decide (p3.at_<0))))>>=fun y3=>(if (true&&(y3==false))=true then idx p2 p3.up else some default)>>=fun y4=>(some (if y3=true then true else (decide ((y4.length:Int)≤p3.at_))))>>=fun y5=>if y5=true then (some ((aA.mk 0 0 []),4)) else ((idx p2 p3.up)>>=fun y6=>(idx y6 p3.at_)>>=fun y7=>some (y7,0))) else (aAi p2 p3 p0 p1 0 ([]:List aA)))
  partial_fixpoint
def nM (p0:List aA) (p1:aQ) (p2:GDb) (p3:List (List aA)) (p4:aJ):Option (aA×Int) :=
  (appG 24 ([p0]:List (List aA)) p3)>>=fun y1=>(vC p1 p2 y1 p4)>>=fun y2=>some (y2.1,y2.2)
  partial_fixpoint
def aF2 (y1:bP) (p1:List bP) (x15:Int) (x0:List (List aA)) (x22:Int) (qH:List (List aA)):Option ((List (List aA))×Int) :=
  X9 y1 p1 x15 x0 qH (QA .i64 (x22+1))
  partial_fixpoint
def X9 (y1:bP) (p1:List bP) (x15:Int) (x0:List (List aA)) (x8:List (List aA)) (x22:Int):Option ((List (List aA))×Int) :=
  if (decide (x22<(x0.length:Int)))=true then ((idx x0 x22)>>=fun y2=>(nM y2 y1.c0 y1.c1 y1.c2 y1.c3)>>=fun y3=>if (!decide (y3.2=0))=true then (some (([]:List (List aA)),y3.2)) else ((aG7 y3.1)>>=fun y4=>if y4=true then ((appG 24 x8 ([y2]:List (List aA)))>>=fun y5=>aF2 y1 p1 x15 x0 x22 y5) else (aF2 y1 p1 x15 x0 x22 x8))) else (Y8 p1 x8 (QA .i64 (x15+1)))
  partial_fixpoint
def Y8 (p1:List bP) (x0:List (List aA)) (x15:Int):Option ((List (List aA))×Int) :=
  if (decide (x15<(p1.length:Int)))=true then ((idx p1 x15)>>=fun y1=>X9 y1 p1 x15 x0 ([]:List (List aA)) 0) else (some (x0,0))
  partial_fixpoint
def aAy (p0:List (List aA)) (p1:List bP):Option ((List (List aA))×Int) :=
  Y8 p1 p0 0
  partial_fixpoint
def aBe (x19:Int) (y1:List (List aA)) (y3:List aA) (p0:eP) (x4:List (List aA)) (x27:Int) (mG:(List (List aA))×Int):Option ((List (List aA))×Int) :=
  if (decide (mG.2<(y1.length:Int)))=true then ((idx y1 mG.2)>>=fun y7=>(aJ2 ([y3,y7]:List (List aA)))>>=fun y8=>(appG 24 mG.1 ([y8]:List (List aA)))>>=fun y9=>aBe x19 y1 y3 p0 x4 x27 (y9,(QA .i64 (mG.2+1)))) else (I5 x19 y1 p0 x4 mG.1 (QA .i64 (x27+1)))
  partial_fixpoint
def I5 (x19:Int) (y1:List (List aA)) (p0:eP) (x4:List (List aA)) (x7:List (List aA)) (x27:Int):Option ((List (List aA))×Int) :=
  if (decide (x27<(x4.length:Int)))=true then ((idx x4 x27)>>=fun y3=>aBe x19 y1 y3 p0 x4 x27 (x7,0)) else ((idx p0.on_ x19)>>=fun y5=>(aAy x7 y5)>>=fun y6=>if (!decide (y6.2=0))=true then (some (([]:List (List aA)),y6.2)) else (U9 p0 y6.1 (QA .i64 (x19+1))))
  partial_fixpoint
def U9 (p0:eP) (x4:List (List aA)) (x19:Int):Option ((List (List aA))×Int) :=
  if (decide (x19<(p0.tables.length:Int)))=true then ((idx p0.tables x19)>>=fun y1=>I5 x19 y1 p0 x4 ([]:List (List aA)) 0) else ((aAy x4 p0.where_)>>=fun y2=>some (y2.1,y2.2))
  partial_fixpoint
def aKp (p0:eP):Option ((List (List aA))×Int) :=
  U9 p0 ([([]:List aA)]:List (List aA)) 0
  partial_fixpoint
def Q5 (p0:eP):Option ((List (List aA))×Int) :=
  (aKp p0)>>=fun y1=>if (!decide (y1.2=0))=true then (some (([]:List (List aA)),y1.2)) else ((aKh p0 y1.1)>>=fun y2=>if (!decide (y2.2=0))=true then (some (([]:List (List aA)),y2.2)) else (aDi y2 p0 ([]:List (List aA)) 0))
  partial_fixpoint
def aCx (p0:aQ) (p1:GDb) (p2:List (List aA)) (p3:aP) (eG:List (List (List aA))) (gX:List (List bP)) (ky9:(List bP)×Int×(List mO)):Option ((List (List aA))×Int) :=
  if (decide (ky9.2.1<(p3.order.length:Int)))=true then ((idx p3.order ky9.2.1)>>=fun y10=>(M5 ([y10.expr]:List aJ) ((nR.mk p0 p1 p2).c0) ((nR.mk p0 p1 p2).c1) ((nR.mk p0 p1 p2).c2))>>=fun y11=>(idx y11 0)>>=fun y12=>(appG 16 ky9.2.2 ([(mO.mk y12 y10.desc)]:List mO))>>=fun y13=>aCx p0 p1 p2 p3 eG gX (ky9.1,(QA .i64 (ky9.2.1+1)),y13)) else ((M5 p3.items ((nR.mk p0 p1 p2).c0) ((nR.mk p0 p1 p2).c1) ((nR.mk p0 p1 p2).c2))>>=fun y14=>(Q5 (eP.mk eG gX ky9.1 ky9.2.2 (aA3.mk y14) p3.distinct p3.limit))>>=fun y15=>some (y15.1,y15.2))
  partial_fixpoint
def T9 (p0:aQ) (p1:GDb) (p2:List (List aA)) (p3:aP) (eG:List (List (List aA))) (x69:Int) (gX:List (List bP)):Option ((List (List aA))×Int) :=
  if (decide (x69<(p3.on_.length:Int)))=true then ((idx p3.on_ x69)>>=fun y6=>(M5 y6 ((nR.mk p0 p1 p2).c0) ((nR.mk p0 p1 p2).c1) ((nR.mk p0 p1 p2).c2))>>=fun y7=>(appG 24 gX ([y7]:List (List bP)))>>=fun y8=>T9 p0 p1 p2 p3 eG (QA .i64 (x69+1)) y8) else ((M5 p3.where_ ((nR.mk p0 p1 p2).c0) ((nR.mk p0 p1 p2).c1) ((nR.mk p0 p1 p2).c2))>>=fun y9=>aCx p0 p1 p2 p3 eG gX (y9,0,([]:List mO)))
  partial_fixpoint
def aA6 (p3:aP) (p0:aQ) (p1:GDb) (p2:List (List aA)) (x40:Int) (eG:List (List (List aA))):Option ((List (List aA))×Int) :=
  if (decide (x40<(p3.tables.length:Int)))=true then ((idx p3.tables x40)>>=fun y2=>(some (if (decide (y2<0))=true then true else (decide ((p1.tables.length:Int)≤y2))))>>=fun y3=>if y3=true then (some (([]:List (List aA)),4)) else ((idx p1.tables y2)>>=fun y4=>(appG 24 eG ([y4.rows]:List (List (List aA))))>>=fun y5=>aA6 p3 p0 p1 p2 (QA .i64 (x40+1)) y5)) else (T9 p0 p1 p2 p3 eG 0 ([]:List (List bP)))
  partial_fixpoint
def xP (p0:aQ) (p1:GDb) (p2:List (List aA)) (p3:aP):Option ((List (List aA))×Int) :=
  (some (if (decide ((p3.tables.length:Int)=0))=true then true else (!decide ((p3.on_.length:Int)=(p3.tables.length:Int)))))>>=fun y1=>if y1=true then (some (([]:List (List aA)),4)) else (aA6 p3 p0 p1 p2 0 ([]:List (List (List aA))))
  partial_fixpoint
end
def aP9 (p0:Int) (p1:Int):Option Bool :=
  (some (if (decide (p0≤24))=true then (decide (p1≤200)) else false))>>=fun y1=>some y1
def E9 (p0:aP) (eY:List aJ) (x27:Int):Option (List aJ) :=
  if (decide (x27<(p0.order.length:Int)))=true then ((idx p0.order x27)>>=fun y5=>(appG 120 eY ([y5.expr]:List aJ))>>=fun y6=>E9 p0 y6 (QA .i64 (x27+1))) else ((appG 120 eY p0.items)>>=fun y7=>some y7)
  partial_fixpoint
def aAe (p0:aP) (x3:List aJ) (x12:Int):Option (List aJ) :=
  if (decide (x12<(p0.on_.length:Int)))=true then ((idx p0.on_ x12)>>=fun y1=>(appG 120 x3 y1)>>=fun y2=>aAe p0 y2 (QA .i64 (x12+1))) else ((appG 120 x3 p0.where_)>>=fun y3=>E9 p0 y3 0)
  partial_fixpoint
def aFa (p0:aP):Option (List aJ) :=
  aAe p0 ([]:List aJ) 0
mutual
def aCc (p0:aJ) (x3:Int) (x12:Int):Option Int :=
  if (decide (x12<(p0.sub.length:Int)))=true then ((idx p0.sub x12)>>=fun y2=>(wJ y2)>>=fun y3=>aCc p0 (if y3>x3 then y3 else x3) (QA .i64 (x12+1))) else (some (QA .i64 (1+x3)))
  partial_fixpoint
def N8 (p0:aJ):Option Int :=
  (aAk p0.kids)>>=fun y1=>aCc p0 y1 0
  partial_fixpoint
def aAm (p0:List aJ) (x3:Int) (x8:Int):Option Int :=
  if (decide (x8<(p0.length:Int)))=true then ((idx p0 x8)>>=fun y1=>(N8 y1)>>=fun y2=>aAm p0 (if y2>x3 then y2 else x3) (QA .i64 (x8+1))) else (some x3)
  partial_fixpoint
def aAk (p0:List aJ):Option Int :=
  aAm p0 0 0
  partial_fixpoint
def wJ (p0:aP):Option Int :=
  (aFa p0)>>=fun y1=>(aAk y1)>>=fun y2=>some y2
  partial_fixpoint
end
mutual
def aAt (p0:aJ) (x3:Int) (x13:Int):Option Int :=
  if (decide (x13<(p0.sub.length:Int)))=true then ((idx p0.sub x13)>>=fun y2=>(vX y2)>>=fun y3=>aAt p0 (QA .i64 (x3+y3)) (QA .i64 (x13+1))) else (some x3)
  partial_fixpoint
def yP (p0:aJ):Option Int :=
  (aFf p0.kids)>>=fun y1=>aAt p0 (QA .i64 (1+y1)) 0
  partial_fixpoint
def aEb (p0:List aJ) (x3:Int) (x8:Int):Option Int :=
  if (decide (x8<(p0.length:Int)))=true then ((idx p0 x8)>>=fun y1=>(yP y1)>>=fun y2=>aEb p0 (QA .i64 (x3+y2)) (QA .i64 (x8+1))) else (some x3)
  partial_fixpoint
def aFf (p0:List aJ):Option Int :=
  aEb p0 0 0
  partial_fixpoint
def vX (p0:aP):Option Int :=
  (aFa p0)>>=fun y1=>(aFf y1)>>=fun y2=>some y2
  partial_fixpoint
end
def aIg (p0:List aJ):Option Bool :=
  some (decide (1<(p0.length:Int)))
def Q9 (p0:List (List aJ)) (x8:Int):Option Int :=
  if (decide (x8<(p0.length:Int)))=true then ((idx p0 x8)>>=fun y1=>(aIg y1)>>=fun y2=>if y2=true then (some x8) else (Q9 p0 (QA .i64 (x8+1)))) else (some (-1))
  partial_fixpoint
def aMo (p0:List (List aJ)):Option Int :=
  Q9 p0 0
def aGg (p0:List (List aJ)):Option Bool :=
  (aMo p0)>>=fun y1=>some (decide (0≤y1))
def aHu (p0:List UInt8):Option Bool :=
  (qF p0)>>=fun y1=>some (!y1)
def O4 (p0:List (List UInt8)) (x8:Int):Option Int :=
  if (decide (x8<(p0.length:Int)))=true then ((idx p0 x8)>>=fun y1=>(aHu y1)>>=fun y2=>if y2=true then (some x8) else (O4 p0 (QA .i64 (x8+1)))) else (some (-1))
  partial_fixpoint
def aP2 (p0:List (List UInt8)):Option Int :=
  O4 p0 0
def aK2 (p0:List (List UInt8)):Option Bool :=
  (aP2 p0)>>=fun y1=>some (decide (0≤y1))
def aIb (p0:aP):Option Bool :=
  (some (if (decide ((p0.tables.length:Int)<1))=true then true else (decide (3<(p0.tables.length:Int)))))>>=fun y1=>(some (if y1=true then true else (!decide ((p0.on_.length:Int)=(p0.tables.length:Int)))))>>=fun y2=>(if (true&&(y2==false))=true then idx p0.on_ 0 else some default)>>=fun y3=>(some (if y2=true then true else (decide (0<(y3.length:Int)))))>>=fun y4=>(some (if y4=true then true else (decide (1<(p0.where_.length:Int)))))>>=fun y5=>(some (if y5=true then true else (decide (12<(p0.order.length:Int)))))>>=fun y6=>if y6=true then (some false) else ((some (if (decide (1≤(p0.items.length:Int)))=true then (decide ((p0.items.length:Int)≤12)) else false))>>=fun y7=>(some (if y7=true then (decide ((p0.names.length:Int)=(p0.items.length:Int))) else false))>>=fun y8=>(some (if y8=true then (decide ((-1)≤p0.limit)) else false))>>=fun y9=>(if (true&&(y9==true))=true then aGg p0.on_ else some default)>>=fun y10=>(some (if y9=true then (!y10) else false))>>=fun y11=>(if (true&&(y11==true))=true then aK2 p0.names else some default)>>=fun y12=>(some (if y11=true then (!y12) else false))>>=fun y13=>some y13)
def aBx (p0:Int):Option Bool :=
  (some (if (decide (p0=0))=true then true else (decide (p0=3))))>>=fun y1=>some y1
def aF7 (p0:aJ):Option Bool :=
  (F5 (eH.mk p0.kind p0.op false p0.value [] [120] ([]:List eH) ([]:List jH)))>>=fun y1=>(if (true&&(y1.2==true))=true then some (if y1.1.op=true then true else (decide (p0.op=0))) else some default)>>=fun y2=>(some (if y1.2=true then y2 else false))>>=fun y3=>(if (true&&(y3==true))=true then some (if y1.1.not_=true then true else (!p0.not_)) else some default)>>=fun y4=>(some (if y3=true then y4 else false))>>=fun y5=>(if (true&&(y5==true))=true then some (if y1.1.value=true then true else ((decide (p0.value.kind=0))&&((decide (p0.value.num=0))&&((decide (p0.value.text=[]))&&true)))) else some default)>>=fun y6=>(some (if y5=true then y6 else false))>>=fun y7=>(if ((true&&(y7==true))&&(y1.1.name==false))=true then some (if (decide (p0.up=0))=true then (decide (p0.at_=0)) else false) else some default)>>=fun y8=>(if (true&&(y7==true))=true then some (if y1.1.name=true then true else y8) else some default)>>=fun y9=>(some (if y7=true then y9 else false))>>=fun y10=>(some (if y10=true then (decide (y1.1.least≤(p0.kids.length:Int))) else false))>>=fun y11=>(some (if y11=true then (decide ((p0.kids.length:Int)≤y1.1.most)) else false))>>=fun y12=>(some (if y12=true then (decide ((p0.sub.length:Int)=y1.1.subs)) else false))>>=fun y13=>some y13
def aBf (p0:Int) (p1:Int) (p2:Int):Option Bool :=
  (some (if (decide (p1=p0))=true then true else (decide (p1=0))))>>=fun y1=>(if (true&&(y1==true))=true then some (if (decide (p2=p0))=true then true else (decide (p2=0))) else some default)>>=fun y2=>(some (if y1=true then y2 else false))>>=fun y3=>some y3
def U6 (x8:Int) (x9:Bool):Option (Int×Bool) :=
  if (!x9)=true then (some (0,false)) else (some (x8,true))
def aKg (p0:Int):Option Bool :=
  (some (if (decide (0≤p0))=true then (decide (p0≤3)) else false))>>=fun y1=>some y1
def aDn (p0:Int) (p1:Int):Option (Int×Bool) :=
  (aKg p0)>>=fun y1=>(if (true&&((!y1)==false))=true then aKg p1 else some default)>>=fun y2=>(some (if (!y1)=true then true else (!y2)))>>=fun y3=>if y3=true then (some (0,false)) else (if (decide (p0=0))=true then (some (p1,true)) else ((some (if (decide (p1=0))=true then true else (decide (p0=p1))))>>=fun y4=>if y4=true then (some (p0,true)) else (some (0,false))))
def aJb (p0:Int) (p1:Int) (p2:Int):Option (Int×Bool) :=
  (some (if (decide (p0<1))=true then true else (decide (14<p0))))>>=fun y1=>if y1=true then (U6 0 false) else (if (decide (p0≤2))=true then ((aBx p1)>>=fun y2=>(if (true&&(y2==true))=true then aBx p2 else some default)>>=fun y3=>(some (if y2=true then y3 else false))>>=fun y4=>U6 3 y4) else (if (decide (p0≤8))=true then ((aDn p1 p2)>>=fun y5=>U6 3 y5.2) else (if (decide (p0=9))=true then ((aBf 2 p1 p2)>>=fun y6=>U6 2 y6) else ((aBf 1 p1 p2)>>=fun y7=>U6 1 y7))))
def aI7 (p0:List Int):Option (List Int) :=
  if (decide ((p0.length:Int)=0))=true then (some ([]:List Int)) else ((appG 8 ([]:List Int) p0)>>=fun y1=>some y1)
def L9 (p0:List Int) (x4:Int) (x11:Int):Option (Int×Bool) :=
  if (decide (x11<(p0.length:Int)))=true then ((idx p0 x11)>>=fun y1=>(aDn x4 y1)>>=fun y2=>if (!y2.2)=true then (some (0,false)) else (L9 p0 y2.1 (QA .i64 (x11+1)))) else (some (x4,true))
  partial_fixpoint
def aHz (p0:List Int):Option (Int×Bool) :=
  L9 p0 0 0
def N7 (p1:List Int) (p2:List Int) (x40:Bool):Option (Int×Bool) :=
  if x40=true then (some (3,true)) else ((aI7 p1)>>=fun y6=>(appG 8 y6 p2)>>=fun y7=>(aHz y7)>>=fun y8=>if (!y8.2)=true then (some (0,false)) else (some (3,true)))
def aHn (p0:Int) (p1:Int):Option (Int×Bool) :=
  (if (true&&((decide (p0=15))==true))=true then aBx p1 else some default)>>=fun y1=>(some (if (decide (p0=15))=true then y1 else false))>>=fun y2=>if y2=true then (some (3,true)) else ((if (true&&((decide (p0=16))==true))=true then aBf 1 p1 p1 else some default)>>=fun y3=>(some (if (decide (p0=16))=true then y3 else false))>>=fun y4=>if y4=true then (some (1,true)) else (some (0,false)))
def vW (p0:aJ) (p1:List Int) (p2:List Int):Option (Int×Bool) :=
  if (decide (p0.kind=1))=true then (some (p0.value.kind,true)) else (if (decide (p0.kind=3))=true then ((idx p1 0)>>=fun y1=>(aHn p0.op y1)>>=fun y2=>some (y2.1,y2.2)) else (if (decide (p0.kind=4))=true then ((idx p1 0)>>=fun y3=>(idx p1 1)>>=fun y4=>(aJb p0.op y3 y4)>>=fun y5=>some (y5.1,y5.2)) else (if (decide (p0.kind=5))=true then (N7 p1 p2 (decide (p0.kind=5))) else (N7 p1 p2 (decide (p0.kind=9))))))
def aDc (p0:List Int) (p1:List (List Int)):Option (List (List Int)) :=
  (appG 24 ([p0]:List (List Int)) p1)>>=fun y1=>some y1
def Y5 (p1:List Int) (p0:aQ) (x6:List Int) (x12:Int):Option ((List Int)×Bool) :=
  if (decide (x12<(p1.length:Int)))=true then ((idx p1 x12)>>=fun y1=>(some (if (decide (y1<0))=true then true else (decide ((p0.tables.length:Int)≤y1))))>>=fun y2=>if y2=true then (some (([]:List Int),false)) else ((idx p0.tables y1)>>=fun y3=>(O7 y3)>>=fun y4=>(appG 8 x6 y4)>>=fun y5=>Y5 p1 p0 y5 (QA .i64 (x12+1)))) else (some (x6,true))
  partial_fixpoint
def aEu (p0:aQ) (p1:List Int):Option ((List Int)×Bool) :=
  Y5 p1 p0 ([]:List Int) 0
mutual
def yN (y9:List (List Int)) (p2:aP) (p0:aQ) (x19:List Int) (x95:Int):Option ((List Int)×Bool) :=
  if (decide (x95<(p2.items.length:Int)))=true then ((idx p2.items x95)>>=fun y13=>(J9 p0 y9 y13)>>=fun y14=>if (!y14.2)=true then (some (([]:List Int),false)) else ((appG 8 x19 ([y14.1]:List Int))>>=fun y15=>yN y9 p2 p0 y15 (QA .i64 (x95+1)))) else (some (x19,true))
  partial_fixpoint
def Q3 (y9:List (List Int)) (p2:aP) (p0:aQ) (x76:Int):Option ((List Int)×Bool) :=
  if (decide (x76<(p2.order.length:Int)))=true then ((idx p2.order x76)>>=fun y11=>(J9 p0 y9 y11.expr)>>=fun y12=>if (!y12.2)=true then (some (([]:List Int),false)) else (Q3 y9 p2 p0 (QA .i64 (x76+1)))) else (yN y9 p2 p0 ([]:List Int) 0)
  partial_fixpoint
def yV (p1:List (List Int)) (x8:List Int) (p2:aJ) (p0:aQ) (x9:List Int) (x85:Int):Option (Int×Bool) :=
  if (decide (x85<(p2.sub.length:Int)))=true then ((idx p2.sub x85)>>=fun y11=>(aE0 p0 p1 y11)>>=fun y12=>(if (true&&((!y12.2)==false))=true then some (if (decide (p2.kind=8))=true then (!decide ((y12.1.length:Int)=1)) else false) else some default)>>=fun y13=>(some (if (!y12.2)=true then true else y13))>>=fun y14=>if y14=true then (some (0,false)) else (yV p1 x8 p2 p0 y12.1 (QA .i64 (x85+1)))) else ((vW p2 x8 x9)>>=fun y15=>some (y15.1,y15.2))
  partial_fixpoint
def uY (p1:List (List Int)) (p2:aJ) (p0:aQ) (x8:List Int) (x64:Int):Option (Int×Bool) :=
  if (decide (x64<(p2.kids.length:Int)))=true then ((idx p2.kids x64)>>=fun y8=>(J9 p0 p1 y8)>>=fun y9=>if (!y9.2)=true then (some (0,false)) else ((appG 8 x8 ([y9.1]:List Int))>>=fun y10=>uY p1 p2 p0 y10 (QA .i64 (x64+1)))) else (yV p1 x8 p2 p0 ([]:List Int) 0)
  partial_fixpoint
def J9 (p0:aQ) (p1:List (List Int)) (p2:aJ):Option (Int×Bool) :=
  (aF7 p2)>>=fun y1=>if (!y1)=true then (some (0,false)) else (if (decide (p2.kind=2))=true then ((some (if (decide (p2.up<0))=true then true else (decide ((p1.length:Int)≤p2.up))))>>=fun y2=>(some (if y2=true then true else (decide (p2.at_<0))))>>=fun y3=>(if (true&&(y3==false))=true then idx p1 p2.up else some default)>>=fun y4=>(some (if y3=true then true else (decide ((y4.length:Int)≤p2.at_))))>>=fun y5=>if y5=true then (some (0,false)) else ((idx p1 p2.up)>>=fun y6=>(idx y6 p2.at_)>>=fun y7=>some (y7,true))) else (uY p1 p2 p0 ([]:List Int) 0))
  partial_fixpoint
def aOc (p0:aJ) (p1:aQ) (c1_0:List (List Int)):Option Bool :=
  (J9 p1 c1_0 p0)>>=fun y1=>(if (true&&((!y1.2)==false))=true then aBx y1.1 else some default)>>=fun y2=>(some (if (!y1.2)=true then true else (!y2)))>>=fun y3=>some y3
  partial_fixpoint
def aAh (p0:List aJ) (c0:aQ) (c1_0:List (List Int)) (x8:Int):Option Int :=
  if (decide (x8<(p0.length:Int)))=true then ((idx p0 x8)>>=fun y1=>(aOc y1 c0 c1_0)>>=fun y2=>if y2=true then (some x8) else (aAh p0 c0 c1_0 (QA .i64 (x8+1)))) else (some (-1))
  partial_fixpoint
def aLe (p0:List aJ) (c0:aQ) (c1_0:List (List Int)):Option Int :=
  aAh p0 c0 c1_0 0
  partial_fixpoint
def aNx (p0:List aJ) (c0:aQ) (c1_0:List (List Int)):Option Bool :=
  (aLe p0 c0 c1_0)>>=fun y1=>some (decide (0≤y1))
  partial_fixpoint
def aE5 (p0:aQ) (p1:List (List Int)) (p2:List aJ):Option Bool :=
  (aNx p2 p0 p1)>>=fun y1=>some (!y1)
  partial_fixpoint
def aCv (p1:List (List Int)) (y1:(List Int)×Bool) (p2:aP) (p0:aQ) (x41:Int):Option ((List Int)×Bool) :=
  if (decide (x41<(p2.on_.length:Int)))=true then ((idx p2.on_ x41)>>=fun y4=>(iM p2.tables 0 (QA .i64 (x41+1)))>>=fun y5=>(aEu p0 y5)>>=fun y6=>(aDc y6.1 p1)>>=fun y7=>(aE5 p0 y7 y4)>>=fun y8=>if (!y8)=true then (some (([]:List Int),false)) else (aCv p1 y1 p2 p0 (QA .i64 (x41+1)))) else ((aDc y1.1 p1)>>=fun y9=>(aE5 p0 y9 p2.where_)>>=fun y10=>if (!y10)=true then (some (([]:List Int),false)) else (Q3 y9 p2 p0 0))
  partial_fixpoint
def aE0 (p0:aQ) (p1:List (List Int)) (p2:aP):Option ((List Int)×Bool) :=
  (aEu p0 p2.tables)>>=fun y1=>(if (true&&((!y1.2)==false))=true then aIb p2 else some default)>>=fun y2=>(some (if (!y1.2)=true then true else (!y2)))>>=fun y3=>if y3=true then (some (([]:List Int),false)) else (aCv p1 y1 p2 p0 0)
  partial_fixpoint
end
def aFt (p0:aQ) (p1:aP):Option Bool :=
  (aD8 p0)>>=fun y1=>(if (true&&((!y1)==false))=true then wJ p1 else some default)>>=fun y2=>(if (true&&((!y1)==false))=true then vX p1 else some default)>>=fun y3=>(if (true&&((!y1)==false))=true then aP9 y2 y3 else some default)>>=fun y4=>(some (if (!y1)=true then true else (!y4)))>>=fun y5=>if y5=true then (some false) else ((aE0 p0 ([]:List (List Int)) p1)>>=fun y6=>some y6.2)
def aCp (p0:aQ) (p1:GDb) (p2:aP):Option ((List (List aA))×Int) :=
  (aFt p0 p2)>>=fun y1=>(if (true&&((!y1)==false))=true then aDs p0 p1 else some default)>>=fun y2=>(some (if (!y1)=true then true else (!y2)))>>=fun y3=>if y3=true then (some (([]:List (List aA)),4)) else ((xP p0 p1 ([]:List (List aA)) p2)>>=fun y4=>some (y4.1,y4.2))
def aBq (p0:List aA):Option (List aA) :=
  (appG 32 ([]:List aA) p0)>>=fun y1=>some y1
def P6 (p0:List aA) (p1:List aA) (x5:Int):Option Bool :=
  if (decide (x5<(p0.length:Int)))=true then ((idx p0 x5)>>=fun y1=>(idx p1 x5)>>=fun y2=>if (!((decide (y1.kind=y2.kind))&&((decide (y1.num=y2.num))&&((decide (y1.text=y2.text))&&true))))=true then (some false) else (P6 p0 p1 (QA .i64 (x5+1)))) else (some true)
  partial_fixpoint
def aF6 (p0:List aA) (p1:List aA):Option Bool :=
  if (!decide ((p0.length:Int)=(p1.length:Int)))=true then (some false) else (P6 p0 p1 0)
mutual
def zO (p0:List (List aA)) (x4:Int) (tK:List (List aA)):Option (List (List aA)) :=
  aAf p0 tK (QA .i64 (x4+1))
  partial_fixpoint
def aCu (p0:List (List aA)) (x3:List (List aA)) (x4:Int) (x5:Bool) (x6:Int):Option (List (List aA)) :=
  if (decide (x6<(x3.length:Int)))=true then ((if (true&&(x5==false))=true then idx x3 x6 else some default)>>=fun y1=>(if (true&&(x5==false))=true then idx p0 x4 else some default)>>=fun y2=>(if (true&&(x5==false))=true then aF6 y1 y2 else some default)>>=fun y3=>(some (if x5=true then true else y3))>>=fun y4=>aCu p0 x3 x4 y4 (QA .i64 (x6+1))) else (if (!x5)=true then ((idx p0 x4)>>=fun y5=>(aBq y5)>>=fun y6=>(appG 24 x3 ([y6]:List (List aA)))>>=fun y7=>zO p0 x4 y7) else (zO p0 x4 x3))
  partial_fixpoint
def aAf (p0:List (List aA)) (x3:List (List aA)) (x4:Int):Option (List (List aA)) :=
  if (decide (x4<(p0.length:Int)))=true then (aCu p0 x3 x4 false 0) else (some x3)
  partial_fixpoint
end
def aCm (p0:List (List aA)):Option (List (List aA)) :=
  aAf p0 ([]:List (List aA)) 0
def aGf (y1:aL×aQ×GDb×aP) (nH:List aJ) (yO:List fM):Option (aQ×GDb×aP) :=
  some (y1.2.1,(GDb.mk yO),(aP.mk y1.2.2.2.tables y1.2.2.2.on_ y1.2.2.2.where_ y1.2.2.2.order nH y1.2.2.2.names y1.2.2.2.distinct y1.2.2.2.limit))
def aJh (p0:aL) (x3:Int) (dJ:Int):Option (Int×aL) :=
  some (x3,(aL.mk p0.b dJ (QA .i64 ((QA .i64 (p0.h * 6364136223846793005))+1442695040888963407))))
def zH (p0:aL):Option (Int×aL) :=
  if (decide (p0.i<(p0.b.length:Int)))=true then ((idx p0.b p0.i)>>=fun y1=>aJh p0 (QA .i64 ((BitVec.ofInt (QC .i64) (QA .i64 ((QA .i64 ((BitVec.ofInt (QC .i64) (QA .i64 ((BitVec.ofInt (QC .i64) (QB (QA .i64 ((QA .i64 (p0.h * 6364136223846793005))+1442695040888963407)) (2 ^ 33)) ^^^ BitVec.ofInt (QC .i64) (QB (QA .i64 ((QA .i64 (p0.h * 6364136223846793005))+1442695040888963407)) (2 ^ 45))).toNat:Int)) &&& BitVec.ofInt (QC .i64) 255).toNat:Int))+(QA .i64 y1))) &&& BitVec.ofInt (QC .i64) 255).toNat:Int)) (QA .i64 (p0.i+1))) else (aJh p0 (QA .i64 ((BitVec.ofInt (QC .i64) (QA .i64 ((BitVec.ofInt (QC .i64) (QB (QA .i64 ((QA .i64 (p0.h * 6364136223846793005))+1442695040888963407)) (2 ^ 33)) ^^^ BitVec.ofInt (QC .i64) (QB (QA .i64 ((QA .i64 (p0.h * 6364136223846793005))+1442695040888963407)) (2 ^ 45))).toNat:Int)) &&& BitVec.ofInt (QC .i64) 255).toNat:Int)) p0.i)
def gZ (p0:aL) (p1:Int):Option (Int×aL) :=
  if (decide (p1≤0))=true then (some (0,p0)) else (if (decide (p1≤256))=true then ((zH p0)>>=fun y1=>(xY y1.1 p1)>>=fun y2=>some (y2,y1.2)) else ((zH p0)>>=fun y3=>(zH y3.2)>>=fun y4=>(zH y4.2)>>=fun y5=>(zH y5.2)>>=fun y6=>(xY (QA .i64 ((QA .i64 ((QA .i64 ((QA .i64 (y3.1 * 16777216))+(QA .i64 (y4.1 * 65536))))+(QA .i64 (y5.1 * 256))))+y6.1)) p1)>>=fun y7=>some (y7,y6.2)))
def iB (p0:aL) (p1:Int):Option (Bool×aL) :=
  (gZ p0 p1)>>=fun y1=>some ((decide (y1.1=0)),y1.2)
def aDg (y1:aL×aQ×GDb×aP) (M8:List Int) (J6:Int) (X6:Int) (nH:List aJ):Option (aQ×GDb×aP) :=
  (iB (aL.mk M8 J6 X6) 12)>>=fun y5=>if y5.1=true then ((appG 24 y1.2.2.1.tables ([(fM.mk ([]:List (List aA)))]:List fM))>>=fun y6=>aGf y1 nH y6) else (aGf y1 nH y1.2.2.1.tables)
def wL (p1:aJ) (bV:Int) (jV:Int) (nS:Bool) (yH:Int) (yC:Int) (yS:List UInt8) (yI:Int) (nQ:Int) (dU:List Int) (dJ:Int) (dV:Int) (zB:List aP):Option (aJ×aL) :=
  some ((aJ.mk bV jV nS (aA.mk yH yC yS) yI nQ p1.kids zB),(aL.mk dU dJ dV))
def M6 (p0:aL) (p1:List Int):Option (Int×aL) :=
  (gZ p0 (p1.length:Int))>>=fun y1=>(idx p1 y1.1)>>=fun y2=>some (y2,y1.2)
def wF (p0:aL):Option (Int×aL) :=
  (gZ p0 3)>>=fun y1=>if (decide (y1.1=0))=true then ((M6 y1.2 ([0,1,(-1),63,64,(-64),(-65),127,128,16383,16384,9223372036854775807,(-9223372036854775808),4611686018427387904]:List Int))>>=fun y2=>some (y2.1,y2.2)) else (if (decide (y1.1=1))=true then ((gZ y1.2 1000000)>>=fun y3=>some ((QA .i64 (y3.1 - 500000)),y3.2)) else ((gZ y1.2 20)>>=fun y4=>some (y4.1,y4.2)))
def uE (p0:aL) (p1:List (List UInt8)):Option ((List UInt8)×aL) :=
  (gZ p0 (p1.length:Int))>>=fun y1=>(idx p1 y1.1)>>=fun y2=>some (y2,y1.2)
def wI (bV:Int) (jV:Int) (nS:List UInt8) (dU:List Int) (dJ:Int) (dV:Int):Option (aA×aL) :=
  some ((aA.mk bV jV nS),(aL.mk dU dJ dV))
def P5 (y1:aA×aL) (nN:List UInt8) (sS:List Int) (uC:Int) (tL:Int):Option (aA×aL) :=
  (iB (aL.mk sS uC tL) 2)>>=fun y10=>(some (if y10.1=true then (decide ((nN.length:Int)<400)) else false))>>=fun y11=>if y11=true then ((H8 nN nN)>>=fun y12=>(H8 y12 [48,49,50,51,52,53,54,55,56,57])>>=fun y13=>P5 y1 y13 y10.2.b y10.2.i y10.2.h) else (wI y1.1.kind y1.1.num nN y10.2.b y10.2.i y10.2.h)
  partial_fixpoint
def qR (p0:Bool):Option aA :=
  if p0=true then (some (aA.mk 3 1 [])) else (some (aA.mk 3 0 []))
def wR (p0:Int):Option aA :=
  some (aA.mk 1 p0 [])
def aFu (p0:List UInt8):Option aA :=
  some (aA.mk 2 0 p0)
def aJw (p0:aL):Option (aA×aL) :=
  (gZ p0 6)>>=fun y1=>if (decide (y1.1=0))=true then (some ((aA.mk 0 0 []),y1.2)) else (if (decide (y1.1=1))=true then ((uE y1.2 ([[],[97],[98],[105,116,39,115],[97,98],[255]]:List (List UInt8)))>>=fun y2=>(aFu y2.1)>>=fun y3=>some (y3,y2.2)) else (if (decide (y1.1=2))=true then ((iB y1.2 2)>>=fun y4=>(qR y4.1)>>=fun y5=>some (y5,y4.2)) else (if (decide (y1.1=3))=true then ((wF y1.2)>>=fun y6=>(wR y6.1)>>=fun y7=>some (y7,y6.2)) else ((gZ y1.2 7)>>=fun y8=>(wR (QA .i64 (y8.1 - 2)))>>=fun y9=>some (y9,y8.2)))))
def aG4 (p0:aL):Option (aA×aL) :=
  (aJw p0)>>=fun y1=>(gZ y1.2 14)>>=fun y2=>if (decide (y2.1=0))=true then ((gZ y2.2 6)>>=fun y3=>wI (QA .i64 (y3.1 - 1)) y1.1.num y1.1.text y3.2.b y3.2.i y3.2.h) else (if (decide (y2.1=1))=true then ((wF y2.2)>>=fun y4=>wI y1.1.kind y4.1 y1.1.text y4.2.b y4.2.i y4.2.h) else (if (decide (y2.1=2))=true then ((uE y2.2 ([[120],[],[108,111,110,103]]:List (List UInt8)))>>=fun y5=>P5 y1 y5.1 y5.2.b y5.2.i y5.2.h) else (wI y1.1.kind y1.1.num y1.1.text y2.2.b y2.2.i y2.2.h)))
def aAp (p0:aL) (p1:aJ):Option (aJ×aL) :=
  (if (true&&((decide (0<(p1.kids.length:Int)))==true))=true then iB p0 2 else some ((default:Bool),p0))>>=fun y1=>(some (if (decide (0<(p1.kids.length:Int)))=true then y1.1 else false))>>=fun y2=>if y2=true then ((gZ y1.2 (p1.kids.length:Int))>>=fun y3=>(idx p1.kids y3.1)>>=fun y4=>(aAp y3.2 y4)>>=fun y5=>some ((aJ.mk p1.kind p1.op p1.not_ p1.value p1.up p1.at_ (p1.kids.set (y3.1).toNat y5.1) p1.sub),y5.2)) else ((gZ y1.2 7)>>=fun y6=>if (decide (y6.1=0))=true then ((wF y6.2)>>=fun y7=>wL p1 y7.1 p1.op p1.not_ p1.value.kind p1.value.num p1.value.text p1.up p1.at_ y7.2.b y7.2.i y7.2.h p1.sub) else (if (decide (y6.1=1))=true then ((wF y6.2)>>=fun y8=>wL p1 p1.kind y8.1 p1.not_ p1.value.kind p1.value.num p1.value.text p1.up p1.at_ y8.2.b y8.2.i y8.2.h p1.sub) else (if (decide (y6.1=2))=true then ((wF y6.2)>>=fun y9=>wL p1 p1.kind p1.op p1.not_ p1.value.kind p1.value.num p1.value.text y9.1 p1.at_ y9.2.b y9.2.i y9.2.h p1.sub) else (if (decide (y6.1=3))=true then ((wF y6.2)>>=fun y10=>wL p1 p1.kind p1.op p1.not_ p1.value.kind p1.value.num p1.value.text p1.up y10.1 y10.2.b y10.2.i y10.2.h p1.sub) else (if (decide (y6.1=4))=true then ((aG4 y6.2)>>=fun y11=>wL p1 p1.kind p1.op p1.not_ y11.1.kind y11.1.num y11.1.text p1.up p1.at_ y11.2.b y11.2.i y11.2.h p1.sub) else (if (decide (y6.1=5))=true then (wL p1 p1.kind p1.op (!p1.not_) p1.value.kind p1.value.num p1.value.text p1.up p1.at_ y6.2.b y6.2.i y6.2.h p1.sub) else ((appG 160 p1.sub ([(aP.mk ([]:List Int) ([]:List (List aJ)) ([]:List aJ) ([]:List cZ) ([]:List aJ) ([]:List (List UInt8)) false 0)]:List aP))>>=fun y12=>wL p1 p1.kind p1.op p1.not_ p1.value.kind p1.value.num p1.value.text p1.up p1.at_ y6.2.b y6.2.i y6.2.h y12)))))))
  partial_fixpoint
def M4 (p0:List Int) (x3:Int) (x4:Int):Option aL :=
  (some (if (decide (x4<(p0.length:Int)))=true then (decide (x4<4000)) else false))>>=fun y1=>if y1=true then ((idx p0 x4)>>=fun y2=>M4 p0 (QA .i64 ((BitVec.ofInt (QC .i64) (QA .i64 ((QA .i64 ((QA .i64 (x3 * 131))+(QA .i64 y2)))+7)) &&& BitVec.ofInt (QC .i64) 1073741823).toNat:Int)) (QA .i64 (x4+1))) else (some (aL.mk p0 0 x3))
  partial_fixpoint
def aI2 (p0:List Int):Option aL :=
  M4 p0 (QA .i64 (28322+(p0.length:Int))) 0
def aIi (p0:List Int) (p1:Int):Option Int :=
  if (decide (p1<(QA .i64 (2+(QA .i64 (Int.tdiv (p0.length:Int) 20))))))=true then (some p1) else (some (QA .i64 (2+(QA .i64 (Int.tdiv (p0.length:Int) 20)))))
def yY (p1:List UInt8) (p0:eD) (x5:Int):Option Int :=
  if (decide (x5<(p0.cols.length:Int)))=true then ((idx p0.cols x5)>>=fun y1=>if (decide (y1.name=p1))=true then (some x5) else (yY p1 p0 (QA .i64 (x5+1)))) else (some (-1))
  partial_fixpoint
def wW (p0:eD) (p1:List UInt8):Option Int :=
  yY p1 p0 0
def aHy (p0:aL):Option ((List UInt8)×aL) :=
  (iB p0 6)>>=fun y1=>if y1.1=true then ((uE y1.2 ([[97,32,98],[102,114,111,109],[83,101,108,101,99,116],[49,120],[113,34,113],[0],[34],[105,116,39,115],[120,46,121],[45]]:List (List UInt8)))>>=fun y2=>some (y2.1,y2.2)) else ((uE y1.2 ([[97],[98],[99],[116],[117],[118],[105,100],[110,97,109,101],[65],[95,120,49]]:List (List UInt8)))>>=fun y3=>some (y3.1,y3.2))
mutual
def aBj (y1:Int×aL) (x6:Int) (y3:Int×aL) (x9:Int) (bV:List eD) (y2:List UInt8) (mE:(List Int)×Int×Int×(List gG)):Option (aQ×aL) :=
  aBc y1 x6 y3 bV y2 (QA .i64 (x9+1)) (mE.2.2.2,mE.1,mE.2.1,mE.2.2.1)
  partial_fixpoint
def aEd (y1:Int×aL) (x6:Int) (y3:Int×aL) (x9:Int) (bV:List eD) (y2:List UInt8) (pE:List gG) (ky8:(Int×aL)×(List UInt8)×(List Int)×Int×Int):Option (aQ×aL) :=
  (wW (eD.mk y2 pE) ky8.2.1)>>=fun y15=>if (decide (y15<0))=true then ((appG 24 pE ([(gG.mk ky8.2.1 ky8.1.1)]:List gG))>>=fun y16=>aBj y1 x6 y3 x9 bV y2 (ky8.2.2.1,ky8.2.2.2.1,ky8.2.2.2.2,y16)) else (aBj y1 x6 y3 x9 bV y2 (ky8.2.2.1,ky8.2.2.2.1,ky8.2.2.2.2,pE))
  partial_fixpoint
def aBc (y1:Int×aL) (x6:Int) (y3:Int×aL) (bV:List eD) (y2:List UInt8) (x9:Int) (jS:(List gG)×(List Int)×Int×Int):Option (aQ×aL) :=
  if (decide (x9<(QA .i64 (1+y3.1))))=true then ((uE (aL.mk jS.2.1 jS.2.2.1 jS.2.2.2) ([[97],[98],[99],[105,100],[110,97,109,101]]:List (List UInt8)))>>=fun y7=>(M6 y7.2 ([1,1,2,3]:List Int))>>=fun y8=>(iB y8.2 20)>>=fun y9=>if y9.1=true then ((aHy y9.2)>>=fun y10=>aEd y1 x6 y3 x9 bV y2 jS.1 (y8,y10.1,y10.2.b,y10.2.i,y10.2.h)) else (aEd y1 x6 y3 x9 bV y2 jS.1 (y8,y7.1,y9.2.b,y9.2.i,y9.2.h))) else ((appG 40 bV ([(eD.mk y2 jS.1)]:List eD))>>=fun y14=>Y6 y1 (QA .i64 (x6+1)) y14 jS.2.1 jS.2.2.1 jS.2.2.2)
  partial_fixpoint
def Y6 (y1:Int×aL) (x6:Int) (bV:List eD) (dU:List Int) (dJ:Int) (dV:Int):Option (aQ×aL) :=
  if (decide (x6<(QA .i64 (1+y1.1))))=true then ((idx ([[116],[117],[118]]:List (List UInt8)) x6)>>=fun y2=>(gZ (aL.mk dU dJ dV) 3)>>=fun y3=>aBc y1 x6 y3 bV y2 0 (([]:List gG),y3.2.b,y3.2.i,y3.2.h)) else (some ((aQ.mk bV),(aL.mk dU dJ dV)))
  partial_fixpoint
end
def aGe (p0:aL):Option (aQ×aL) :=
  (gZ p0 3)>>=fun y1=>Y6 y1 0 ([]:List eD) y1.2.b y1.2.i y1.2.h
def Z6 (p0:List Int) (p1:List (List Int)):Option (List (List Int)) :=
  (appG 24 ([p0]:List (List Int)) p1)>>=fun y1=>some y1
def aEt (y1:Bool×aL) (nI:List cZ) (nC:List aJ) (gJ:List (List UInt8)) (gI:List aJ) (gH:List (List aJ)) (gD:List Int) (zM:Int) (yQ:List Int) (F6:Int) (D8:Int):Option (aP×aL) :=
  some ((aP.mk gD gH nC nI gI gJ y1.1 zM),(aL.mk yQ F6 D8))
def X5 (y1:Bool×aL) (nC:List aJ) (gJ:List (List UInt8)) (gI:List aJ) (gH:List (List aJ)) (gD:List Int) (K7:List Int) (U0:Int) (Z8:Int) (nI:List cZ):Option (aP×aL) :=
  (iB (aL.mk K7 U0 Z8) 4)>>=fun y38=>if y38.1=true then ((gZ y38.2 4)>>=fun y39=>aEt y1 nI nC gJ gI gH gD y39.1 y39.2.b y39.2.i y39.2.h) else (aEt y1 nI nC gJ gI gH gD (-1) y38.2.b y38.2.i y38.2.h)
mutual
def aA1 (p1:List (List Int)) (p2:Int) (x9:Int) (x10:Int) (tY:Int) (uD:Int) (tC:Int) (uF:Int) (lD:(List UInt8)×Int×Int×(List Int)×Int×Int):Option (aJ×aL) :=
  aCa p1 p2 x9 tY (QA .i64 (x10+1)) uD tC uF (lD.1,lD.2.1,lD.2.2.1,lD.2.2.2.1,lD.2.2.2.2.1,lD.2.2.2.2.2)
  partial_fixpoint
def aCa (p1:List (List Int)) (p2:Int) (x9:Int) (nZ:Int) (x10:Int) (qM:Int) (qJ:Int) (qY:Int) (gN:(List UInt8)×Int×Int×(List Int)×Int×Int):Option (aJ×aL) :=
  (idx p1 x9)>>=fun y12=>if (decide (x10<(y12.length:Int)))=true then ((idx p1 x9)>>=fun y13=>(idx y13 x10)>>=fun y14=>if (decide (y14=p2))=true then ((iB (aL.mk gN.2.2.2.1 gN.2.2.2.2.1 gN.2.2.2.2.2) (QA .i64 (nZ+1)))>>=fun y15=>if y15.1=true then (aA1 p1 p2 x9 x10 (QA .i64 (nZ+1)) 2 0 0 ([],x9,x10,y15.2.b,y15.2.i,y15.2.h)) else (aA1 p1 p2 x9 x10 (QA .i64 (nZ+1)) qM qJ qY (gN.1,gN.2.1,gN.2.2.1,y15.2.b,y15.2.i,y15.2.h))) else (aA1 p1 p2 x9 x10 nZ qM qJ qY (gN.1,gN.2.1,gN.2.2.1,gN.2.2.2.1,gN.2.2.2.2.1,gN.2.2.2.2.2))) else (aAd p1 p2 nZ (QA .i64 (x9+1)) qM qJ qY (gN.1,gN.2.1,gN.2.2.1,gN.2.2.2.1,gN.2.2.2.2.1,gN.2.2.2.2.2))
  partial_fixpoint
def aAd (p1:List (List Int)) (p2:Int) (x7:Int) (x9:Int) (qW:Int) (qN:Int) (pU:Int) (gK:(List UInt8)×Int×Int×(List Int)×Int×Int):Option (aJ×aL) :=
  if (decide (x9<(p1.length:Int)))=true then (aCa p1 p2 x9 x7 0 qW qN pU (gK.1,gK.2.1,gK.2.2.1,gK.2.2.2.1,gK.2.2.2.2.1,gK.2.2.2.2.2)) else (some ((aJ.mk qW 0 false (aA.mk qN pU gK.1) gK.2.1 gK.2.2.1 ([]:List aJ) ([]:List aP)),(aL.mk gK.2.2.2.1 gK.2.2.2.2.1 gK.2.2.2.2.2)))
  partial_fixpoint
end
def aHv (y1:aA×aL) (Z5:Int) (dU:List Int) (dJ:Int) (dV:Int):Option (aA×aL) :=
  some ((aA.mk y1.1.kind Z5 y1.1.text),(aL.mk dU dJ dV))
def aDj (p0:aL) (p1:Int):Option (aA×aL) :=
  (iB p0 6)>>=fun y1=>if y1.1=true then (some ((aA.mk 0 0 []),y1.2)) else (if (decide (p1=2))=true then ((uE y1.2 ([[],[97],[98],[97,98]]:List (List UInt8)))>>=fun y2=>(aFu y2.1)>>=fun y3=>some (y3,y2.2)) else (if (decide (p1=3))=true then ((iB y1.2 2)>>=fun y4=>(qR y4.1)>>=fun y5=>some (y5,y4.2)) else ((wF y1.2)>>=fun y6=>(wR y6.1)>>=fun y7=>some (y7,y6.2))))
def aC3 (p0:aL) (p1:Int):Option (aA×aL) :=
  (aDj p0 p1)>>=fun y1=>if (decide (y1.1.kind=1))=true then ((M6 y1.2 ([0,1,2,3,5,1,2,9223372036854775807]:List Int))>>=fun y2=>aHv y1 y2.1 y2.2.b y2.2.i y2.2.h) else (aHv y1 y1.1.num y1.2.b y1.2.i y1.2.h)
def aEk (p0:aL) (p1:List (List Int)) (p2:Int):Option (aJ×aL) :=
  (aC3 p0 p2)>>=fun y1=>aAd p1 p2 0 0 1 y1.1.kind y1.1.num (y1.1.text,0,0,y1.2.b,y1.2.i,y1.2.h)
def fE (p0:Int) (p1:Int) (p2:Int):Option Bool :=
  (some (if (decide (p1≤p0))=true then (decide (p0≤p2)) else false))>>=fun y1=>some y1
def vE (p0:eD) (x3:List Int) (x4:Int):Option (List Int) :=
  if (decide (x4<(p0.cols.length:Int)))=true then ((idx p0.cols x4)>>=fun y1=>(appG 8 x3 ([y1.type]:List Int))>>=fun y2=>vE p0 y2 (QA .i64 (x4+1))) else (some x3)
  partial_fixpoint
def D5 (p0:eD):Option (List Int) :=
  vE p0 ([]:List Int) 0
def H5 (p1:List Int) (p0:aQ) (x6:List Int) (x7:Int):Option ((List Int)×Bool) :=
  if (decide (x7<(p1.length:Int)))=true then ((idx p1 x7)>>=fun y1=>(fE y1 0 (QA .i64 ((p0.tables.length:Int) - 1)))>>=fun y2=>if (!y2)=true then (some (([]:List Int),false)) else ((idx p1 x7)>>=fun y3=>(idx p0.tables y3)>>=fun y4=>(D5 y4)>>=fun y5=>(appG 8 x6 y5)>>=fun y6=>H5 p1 p0 y6 (QA .i64 (x7+1)))) else (some (x6,true))
  partial_fixpoint
def yG (p0:aQ) (p1:List Int):Option ((List Int)×Bool) :=
  H5 p1 p0 ([]:List Int) 0
mutual
def xI (p2:List (List Int)) (p3:Int) (p4:Int) (p5:Int) (p1:aQ) (x14:Int) (iX:(List Int)×Int×Int×(List aJ)):Option ((List aJ)×aL) :=
  if (decide (x14<p5))=true then ((qE (aL.mk iX.1 iX.2.1 iX.2.2.1) p1 p2 p3 (QA .i64 (p4 - 1)))>>=fun y1=>(appG 120 iX.2.2.2 ([y1.1]:List aJ))>>=fun y2=>xI p2 p3 p4 p5 p1 (QA .i64 (x14+1)) (y1.2.b,y1.2.i,y1.2.h,y2)) else (some (iX.2.2.2,(aL.mk iX.1 iX.2.1 iX.2.2.1)))
  partial_fixpoint
def nK (p0:aL) (p1:aQ) (p2:List (List Int)) (p3:Int) (p4:Int) (p5:Int):Option ((List aJ)×aL) :=
  xI p2 p3 p4 p5 p1 0 (p0.b,p0.i,p0.h,([]:List aJ))
  partial_fixpoint
def aAn (p2:List (List Int)) (p3:Int) (y1:Int×aL) (p1:aQ) (y3:Int×aL):Option (aJ×aL) :=
  (gZ y3.2 6)>>=fun y14=>(nK y14.2 p1 p2 (QA .i64 (1+y1.1)) p3 2)>>=fun y15=>some ((aJ.mk 4 (QA .i64 (3+y14.1)) false (aA.mk 0 0 []) 0 0 y15.1 ([]:List aP)),y15.2)
  partial_fixpoint
def aE4 (p2:List (List Int)) (p3:Int) (y1:Int×aL) (y2:Bool×aL) (y3:Int×aL) (p1:aQ) (x18:Bool):Option (aJ×aL) :=
  if x18=true then ((gZ y3.2 2)>>=fun y4=>(nK y4.2 p1 p2 3 p3 2)>>=fun y5=>some ((aJ.mk 4 (QA .i64 (1+y4.1)) false (aA.mk 0 0 []) 0 0 y5.1 ([]:List aP)),y5.2)) else (if (decide (y3.1=2))=true then ((nK y3.2 p1 p2 3 p3 1)>>=fun y6=>some ((aJ.mk 3 15 false (aA.mk 0 0 []) 0 0 y6.1 ([]:List aP)),y6.2)) else (if (decide (y3.1=3))=true then ((nK y3.2 p1 p2 (QA .i64 (1+y1.1)) p3 1)>>=fun y7=>some ((aJ.mk 5 0 y2.1 (aA.mk 0 0 []) 0 0 y7.1 ([]:List aP)),y7.2)) else (if (decide (y3.1=4))=true then ((nK y3.2 p1 p2 (QA .i64 (1+y1.1)) p3 3)>>=fun y8=>some ((aJ.mk 6 0 y2.1 (aA.mk 0 0 []) 0 0 y8.1 ([]:List aP)),y8.2)) else (if (decide (y3.1=5))=true then ((gZ y3.2 3)>>=fun y9=>(nK y9.2 p1 p2 (QA .i64 (1+y1.1)) p3 (QA .i64 (2+y9.1)))>>=fun y10=>some ((aJ.mk 7 0 y2.1 (aA.mk 0 0 []) 0 0 y10.1 ([]:List aP)),y10.2)) else (if (decide (y3.1=6))=true then (if (decide (1<p3))=true then ((nK y3.2 p1 p2 (QA .i64 (1+y1.1)) p3 1)>>=fun y11=>(xO y11.2 p1 p2 ([(QA .i64 (1+y1.1))]:List Int) (QA .i64 (p3 - 2)))>>=fun y12=>some ((aJ.mk 8 0 y2.1 (aA.mk 0 0 []) 0 0 y11.1 ([y12.1]:List aP)),y12.2)) else (aAn p2 p3 y1 p1 y3)) else (if (decide (y3.1=7))=true then (if (decide (1<p3))=true then ((xO y3.2 p1 p2 ([(QA .i64 (1+y1.1))]:List Int) (QA .i64 (p3 - 2)))>>=fun y13=>some ((aJ.mk 9 0 false (aA.mk 0 0 []) 0 0 ([]:List aJ) ([y13.1]:List aP)),y13.2)) else (aAn p2 p3 y1 p1 y3)) else (aAn p2 p3 y1 p1 y3)))))))
  partial_fixpoint
def aOr (p0:aL) (p1:aQ) (p2:List (List Int)) (p3:Int):Option (aJ×aL) :=
  (gZ p0 3)>>=fun y1=>(iB y1.2 3)>>=fun y2=>(gZ y2.2 10)>>=fun y3=>if (decide (y3.1=0))=true then (aE4 p2 p3 y1 y2 y3 p1 (decide (y3.1=0))) else (aE4 p2 p3 y1 y2 y3 p1 (decide (y3.1=1)))
  partial_fixpoint
def qE (p0:aL) (p1:aQ) (p2:List (List Int)) (p3:Int) (p4:Int):Option (aJ×aL) :=
  (if (true&&((decide (p4≤0))==false))=true then iB p0 4 else some ((default:Bool),p0))>>=fun y1=>(some (if (decide (p4≤0))=true then true else y1.1))>>=fun y2=>if y2=true then ((iB y1.2 3)>>=fun y3=>if y3.1=true then ((aC3 y3.2 p3)>>=fun y4=>some ((aJ.mk 1 0 false y4.1 0 0 ([]:List aJ) ([]:List aP)),y4.2)) else ((aEk y3.2 p2 p3)>>=fun y5=>some (y5.1,y5.2))) else (if (decide (p3=1))=true then ((iB y1.2 5)>>=fun y6=>if y6.1=true then ((nK y6.2 p1 p2 p3 p4 1)>>=fun y7=>some ((aJ.mk 3 16 false (aA.mk 0 0 []) 0 0 y7.1 ([]:List aP)),y7.2)) else ((gZ y6.2 5)>>=fun y8=>(nK y8.2 p1 p2 p3 p4 2)>>=fun y9=>some ((aJ.mk 4 (QA .i64 (10+y8.1)) false (aA.mk 0 0 []) 0 0 y9.1 ([]:List aP)),y9.2))) else (if (decide (p3=2))=true then ((nK y1.2 p1 p2 p3 p4 2)>>=fun y10=>some ((aJ.mk 4 9 false (aA.mk 0 0 []) 0 0 y10.1 ([]:List aP)),y10.2)) else ((aOr y1.2 p1 p2 p4)>>=fun y11=>some (y11.1,y11.2))))
  partial_fixpoint
def I1 (p4:Int) (y15:List (List Int)) (p1:aQ) (y1:Bool×aL) (gJ:List (List UInt8)) (gI:List aJ) (jL:(List (List aJ))×(List Int)×(List Int)×Int×Int×(List aJ)):Option (aP×aL) :=
  (iB (aL.mk jL.2.2.1 jL.2.2.2.1 jL.2.2.2.2.1) 3)>>=fun y30=>if y30.1=true then ((gZ y30.2 3)>>=fun y31=>(qE y31.2 p1 y15 (QA .i64 (1+y31.1)) p4)>>=fun y32=>(iB y32.2 2)>>=fun y33=>(appG 128 ([]:List cZ) ([(cZ.mk y32.1 y33.1)]:List cZ))>>=fun y34=>X5 y1 jL.2.2.2.2.2 gJ gI jL.1 jL.2.1 y33.2.b y33.2.i y33.2.h y34) else (X5 y1 jL.2.2.2.2.2 gJ gI jL.1 jL.2.1 y30.2.b y30.2.i y30.2.h ([]:List cZ))
  partial_fixpoint
def xL (p3:List Int) (p4:Int) (y15:List (List Int)) (p1:aQ) (y1:Bool×aL) (gH:List (List aJ)) (gD:List Int) (kx20:Int×(List Int)×Int×Int×(((List (List UInt8))×(List aJ)))):Option (aP×aL) :=
  if (decide (kx20.1<(p3.length:Int)))=true then ((idx p3 kx20.1)>>=fun y20=>(qE (aL.mk kx20.2.1 kx20.2.2.1 kx20.2.2.2.1) p1 y15 y20 p4)>>=fun y21=>(appG 120 kx20.2.2.2.2.2 ([y21.1]:List aJ))>>=fun y22=>(uE y21.2 ([[97],[98],[99],[120],[121,32,122],[99,49]]:List (List UInt8)))>>=fun y23=>(appG 16 kx20.2.2.2.2.1 ([y23.1]:List (List UInt8)))>>=fun y24=>xL p3 p4 y15 p1 y1 gH gD ((QA .i64 (kx20.1+1)),y23.2.b,y23.2.i,y23.2.h,y24,y22)) else ((iB (aL.mk kx20.2.1 kx20.2.2.1 kx20.2.2.2.1) 2)>>=fun y25=>if y25.1=true then ((qE y25.2 p1 y15 3 p4)>>=fun y26=>I1 p4 y15 p1 y1 kx20.2.2.2.2.1 kx20.2.2.2.2.2 (gH,gD,y26.2.b,y26.2.i,y26.2.h,([y26.1]:List aJ))) else (I1 p4 y15 p1 y1 kx20.2.2.2.2.1 kx20.2.2.2.2.2 (gH,gD,y25.2.b,y25.2.i,y25.2.h,([]:List aJ))))
  partial_fixpoint
def R8 (p2:List (List Int)) (p3:List Int) (p4:Int) (y2:Int×aL) (x13:Int) (p1:aQ) (y1:Bool×aL) (ky4:(List Int)×(((List (List aJ))×(List Int)×Int×Int×(List aJ)))):Option (aP×aL) :=
  (appG 24 ky4.2.1 ([ky4.2.2.2.2.2]:List (List aJ)))>>=fun y19=>vG p2 p3 p4 y2 p1 y1 ((QA .i64 (x13+1)),ky4.2.2.1,ky4.2.2.2.1,ky4.2.2.2.2.1,y19,ky4.1)
  partial_fixpoint
def vG (p2:List (List Int)) (p3:List Int) (p4:Int) (y2:Int×aL) (p1:aQ) (y1:Bool×aL) (kx13:Int×(List Int)×Int×Int×(((List (List aJ))×(List Int)))):Option (aP×aL) :=
  if (decide (kx13.1<(QA .i64 (1+y2.1))))=true then ((gZ (aL.mk kx13.2.1 kx13.2.2.1 kx13.2.2.2.1) (p1.tables.length:Int))>>=fun y3=>(appG 8 kx13.2.2.2.2.2 ([y3.1]:List Int))>>=fun y4=>(yG p1 y4)>>=fun y5=>(if (true&&((decide (0<kx13.1))==true))=true then iB y3.2 2 else some ((default:Bool),y3.2))>>=fun y6=>(some (if (decide (0<kx13.1))=true then y6.1 else false))>>=fun y7=>if y7=true then ((Z6 y5.1 p2)>>=fun y8=>(qE y6.2 p1 y8 3 p4)>>=fun y9=>(appG 120 ([]:List aJ) ([y9.1]:List aJ))>>=fun y10=>R8 p2 p3 p4 y2 kx13.1 p1 y1 (y4,kx13.2.2.2.2.1,y9.2.b,y9.2.i,y9.2.h,y10)) else (R8 p2 p3 p4 y2 kx13.1 p1 y1 (y4,kx13.2.2.2.2.1,y6.2.b,y6.2.i,y6.2.h,([]:List aJ)))) else ((yG p1 kx13.2.2.2.2.2)>>=fun y14=>(Z6 y14.1 p2)>>=fun y15=>xL p3 p4 y15 p1 y1 kx13.2.2.2.2.1 kx13.2.2.2.2.2 (0,kx13.2.1,kx13.2.2.1,kx13.2.2.2.1,([]:List (List UInt8)),([]:List aJ)))
  partial_fixpoint
def xO (p0:aL) (p1:aQ) (p2:List (List Int)) (p3:List Int) (p4:Int):Option (aP×aL) :=
  (iB p0 4)>>=fun y1=>(gZ y1.2 2)>>=fun y2=>vG p2 p3 p4 y2 p1 y1 (0,y2.2.b,y2.2.i,y2.2.h,([]:List (List aJ)),([]:List Int))
  partial_fixpoint
end
def aFr (p1:Int) (y1:aQ×aL) (x7:List Int) (dU:List Int) (dJ:Int) (dV:Int):Option (aQ×aP×aL) :=
  (xO (aL.mk dU dJ dV) y1.1 ([]:List (List Int)) x7 p1)>>=fun y6=>some (y1.1,y6.1,y6.2)
def aGw (p0:aL) (p1:Int):Option (aQ×aP×aL) :=
  (aGe p0)>>=fun y1=>(gZ y1.2 3)>>=fun y2=>(iB y2.2 2)>>=fun y3=>if y3.1=true then ((gZ y3.2 3)>>=fun y4=>(appG 8 ([(QA .i64 (1+y2.1))]:List Int) ([(QA .i64 (1+y4.1))]:List Int))>>=fun y5=>aFr p1 y1 y5 y4.2.b y4.2.i y4.2.h) else (aFr p1 y1 ([(QA .i64 (1+y2.1))]:List Int) y3.2.b y3.2.i y3.2.h)
def aHt (p0:aL) (p1:Int):Option (aA×aL) :=
  (if (true&&((decide (p1=1))==true))=true then iB p0 12 else some ((default:Bool),p0))>>=fun y1=>(some (if (decide (p1=1))=true then (!y1.1) else false))>>=fun y2=>if y2=true then ((gZ y1.2 5)>>=fun y3=>(wR (QA .i64 (y3.1 - 1)))>>=fun y4=>some (y4,y3.2)) else ((aDj y1.2 p1)>>=fun y5=>some (y5.1,y5.2))
mutual
def I7 (x6:Int) (y1:Int×aL) (x9:Int) (p1:aQ) (fU:List (List aA)) (eT:List fM) (x10:List aA) (kx11:Int×(List Int)×Int×Int):Option (GDb×aL) :=
  (idx p1.tables x6)>>=fun y9=>if (decide (kx11.1<(y9.cols.length:Int)))=true then ((idx p1.tables x6)>>=fun y10=>(idx y10.cols kx11.1)>>=fun y11=>(aHt (aL.mk kx11.2.1 kx11.2.2.1 kx11.2.2.2) y11.type)>>=fun y12=>(appG 32 x10 ([y12.1]:List aA))>>=fun y13=>I7 x6 y1 x9 p1 fU eT y13 ((QA .i64 (kx11.1+1)),y12.2.b,y12.2.i,y12.2.h)) else ((appG 24 fU ([x10]:List (List aA)))>>=fun y14=>V7 x6 y1 p1 eT (QA .i64 (x9+1)) y14 (kx11.2.1,kx11.2.2.1,kx11.2.2.2))
  partial_fixpoint
def V7 (x6:Int) (y1:Int×aL) (p1:aQ) (eT:List fM) (x9:Int) (fU:List (List aA)) (lQ:(List Int)×Int×Int):Option (GDb×aL) :=
  if (decide (x9<y1.1))=true then (I7 x6 y1 x9 p1 fU eT ([]:List aA) (0,lQ.1,lQ.2.1,lQ.2.2)) else ((appG 24 eT ([(fM.mk fU)]:List fM))>>=fun y8=>aB8 p1 (QA .i64 (x6+1)) lQ.1 lQ.2.1 lQ.2.2 y8)
  partial_fixpoint
def aB8 (p1:aQ) (x6:Int) (dU:List Int) (dJ:Int) (dV:Int) (eT:List fM):Option (GDb×aL) :=
  if (decide (x6<(p1.tables.length:Int)))=true then ((gZ (aL.mk dU dJ dV) 5)>>=fun y1=>V7 x6 y1 p1 eT 0 ([]:List (List aA)) (y1.2.b,y1.2.i,y1.2.h)) else (some ((GDb.mk eT),(aL.mk dU dJ dV)))
  partial_fixpoint
end
def aH7 (p0:aL) (p1:aQ):Option (GDb×aL) :=
  aB8 p1 0 p0.b p0.i p0.h ([]:List fM)
def aI9 (p0:List Int):Option (aL×aQ×GDb×aP) :=
  (aI2 p0)>>=fun y1=>(aIi p0 4)>>=fun y2=>(gZ y1 y2)>>=fun y3=>(aGw y3.2 y3.1)>>=fun y4=>(aH7 y4.2.2 y4.1)>>=fun y5=>some (y5.2,y4.1,y5.1,y4.2.1)
def aIy (p0:List Int):Option (aQ×GDb×aP) :=
  (aI9 p0)>>=fun y1=>(iB y1.1 8)>>=fun y2=>if y2.1=true then ((idx y1.2.2.2.items 0)>>=fun y3=>(aAp y2.2 y3)>>=fun y4=>aDg y1 y4.2.b y4.2.i y4.2.h (y1.2.2.2.items.set (0:Int).toNat y4.1)) else (aDg y1 y2.2.b y2.2.i y2.2.h y1.2.2.2.items)
def nU (p0:List UInt8):Option Bool :=
  (fE (p0.length:Int) 1 20)>>=fun y1=>some y1
def K9 (p1:List UInt8) (p0:aQ) (x5:Int):Option Int :=
  if (decide (x5<(p0.tables.length:Int)))=true then ((idx p0.tables x5)>>=fun y1=>if (decide (y1.name=p1))=true then (some x5) else (K9 p1 p0 (QA .i64 (x5+1)))) else (some (-1))
  partial_fixpoint
def vU (p0:aQ) (p1:List UInt8):Option Int :=
  K9 p1 p0 0
mutual
def zJ (x3:Int) (p0:aQ) (y1:eD) (x5:Int):Option Bool :=
  if (decide (x5<(y1.cols.length:Int)))=true then ((idx y1.cols x5)>>=fun y7=>(nU y7.name)>>=fun y8=>(if (true&&((!y8)==false))=true then idx y1.cols x5 else some default)>>=fun y9=>(if (true&&((!y8)==false))=true then wW y1 y9.name else some default)>>=fun y10=>(some (if (!y8)=true then true else (!decide (y10=x5))))>>=fun y11=>(if (true&&(y11==false))=true then idx y1.cols x5 else some default)>>=fun y12=>(if (true&&(y11==false))=true then fE y12.type 1 3 else some default)>>=fun y13=>(some (if y11=true then true else (!y13)))>>=fun y14=>if y14=true then (some false) else (zJ x3 p0 y1 (QA .i64 (x5+1)))) else (U5 p0 (QA .i64 (x3+1)))
  partial_fixpoint
def U5 (p0:aQ) (x3:Int):Option Bool :=
  if (decide (x3<(p0.tables.length:Int)))=true then ((idx p0.tables x3)>>=fun y1=>(nU y1.name)>>=fun y2=>(if (true&&((!y2)==false))=true then vU p0 y1.name else some default)>>=fun y3=>(some (if (!y2)=true then true else (!decide (y3=x3))))>>=fun y4=>(if (true&&(y4==false))=true then fE (y1.cols.length:Int) 1 4 else some default)>>=fun y5=>(some (if y4=true then true else (!y5)))>>=fun y6=>if y6=true then (some false) else (zJ x3 p0 y1 0)) else (some true)
  partial_fixpoint
end
def aE6 (p0:aQ):Option Bool :=
  if (decide (4<(p0.tables.length:Int)))=true then (some false) else (U5 p0 0)
def kY (p0:aA):Option Bool :=
  if (decide (p0.kind=0))=true then ((some (if (decide (p0.num=0))=true then (decide (p0.text=[])) else false))>>=fun y1=>some y1) else (if (decide (p0.kind=1))=true then (some (decide (p0.text=[]))) else (if (decide (p0.kind=2))=true then ((some (if (decide (p0.num=0))=true then (decide ((p0.text.length:Int)≤200)) else false))>>=fun y2=>some y2) else (if (decide (p0.kind=3))=true then ((fE p0.num 0 1)>>=fun y3=>(some (if y3=true then (decide (p0.text=[])) else false))>>=fun y4=>some y4) else (some false))))
def aF5 (p0:aA) (p1:Int):Option Bool :=
  (kY p0)>>=fun y1=>(if (true&&(y1==true))=true then some (if (decide (p0.kind=0))=true then true else (decide (p0.kind=p1))) else some default)>>=fun y2=>(some (if y1=true then y2 else false))>>=fun y3=>some y3
def K5 (p0:List aA) (p1:List Int) (x5:Int):Option Bool :=
  if (decide (x5<(p0.length:Int)))=true then ((idx p0 x5)>>=fun y1=>(idx p1 x5)>>=fun y2=>(aF5 y1 y2)>>=fun y3=>if (!y3)=true then (some false) else (K5 p0 p1 (QA .i64 (x5+1)))) else (some true)
  partial_fixpoint
def aD5 (p0:List aA) (p1:List Int):Option Bool :=
  if (!decide ((p0.length:Int)=(p1.length:Int)))=true then (some false) else (K5 p0 p1 0)
mutual
def E5 (x5:Int) (p0:aQ) (p1:GDb) (x6:Int):Option Bool :=
  (idx p1.tables x5)>>=fun y4=>if (decide (x6<(y4.rows.length:Int)))=true then ((idx p1.tables x5)>>=fun y5=>(idx y5.rows x6)>>=fun y6=>(idx p0.tables x5)>>=fun y7=>(D5 y7)>>=fun y8=>(aD5 y6 y8)>>=fun y9=>if (!y9)=true then (some false) else (E5 x5 p0 p1 (QA .i64 (x6+1)))) else (aCt p0 p1 (QA .i64 (x5+1)))
  partial_fixpoint
def aCt (p0:aQ) (p1:GDb) (x5:Int):Option Bool :=
  if (decide (x5<(p1.tables.length:Int)))=true then ((idx p1.tables x5)>>=fun y3=>if (decide (6<(y3.rows.length:Int)))=true then (some false) else (E5 x5 p0 p1 0)) else (some true)
  partial_fixpoint
end
def Q6 (p0:aQ) (p1:GDb):Option Bool :=
  (aE6 p0)>>=fun y1=>(some (if (!y1)=true then true else (!decide ((p1.tables.length:Int)=(p0.tables.length:Int)))))>>=fun y2=>if y2=true then (some false) else (aCt p0 p1 0)
def aOh (p0:Int) (p1:Int):Option (Int×Bool) :=
  (some (if (decide (0<p1))=true then (decide ((QA .i64 (9223372036854775807 - p1))<p0)) else false))>>=fun y1=>(if (true&&(y1==false))=true then some (if (decide (p1<0))=true then (decide (p0<(QA .i64 ((-9223372036854775808) - p1)))) else false) else some default)>>=fun y2=>(some (if y1=true then true else y2))>>=fun y3=>if y3=true then (some (0,false)) else (some ((QA .i64 (p0+p1)),true))
def aAa (p0:Int) (p1:Int):Option Bool :=
  if (decide (p0=3))=true then (some (decide (p1=0))) else (if (decide (p0=4))=true then (some (!decide (p1=0))) else (if (decide (p0=5))=true then (some (decide (p1<0))) else (if (decide (p0=6))=true then (some (decide (p1≤0))) else (if (decide (p0=7))=true then (some (decide (0<p1))) else (some (decide (0≤p1)))))))
def yJ (p0:Int) (p1:Bool):Option (aA×Int) :=
  if (!p1)=true then (some ((aA.mk 0 0 []),2)) else ((wR p0)>>=fun y1=>some (y1,0))
def aDe (p0:Int) (p1:Int):Option (Int×Bool) :=
  (some (if (decide (p1<0))=true then (decide ((QA .i64 (9223372036854775807+p1))<p0)) else false))>>=fun y1=>(if (true&&(y1==false))=true then some (if (decide (0<p1))=true then (decide (p0<(QA .i64 ((-9223372036854775808)+p1)))) else false) else some default)>>=fun y2=>(some (if y1=true then true else y2))>>=fun y3=>if y3=true then (some (0,false)) else (some ((QA .i64 (p0 - p1)),true))
def aIk (p0:Int) (p1:Int) (p2:Int):Option (aA×Int) :=
  if (decide (p2=0))=true then (some ((aA.mk 0 0 []),3)) else (if (decide (p2=(-1)))=true then (if (decide (p0=14))=true then ((wR 0)>>=fun y1=>some (y1,0)) else ((aDe 0 p1)>>=fun y2=>(yJ y2.1 y2.2)>>=fun y3=>some (y3.1,y3.2))) else (if (decide (p0=14))=true then ((xY p1 p2)>>=fun y4=>(wR y4)>>=fun y5=>some (y5,0)) else ((xW .i64 p1 p2)>>=fun y6=>(wR y6)>>=fun y7=>some (y7,0))))
def vO (p0:aA) (p1:aA):Option Int :=
  if (decide (p0.kind<p1.kind))=true then (some (-1)) else (if (decide (p1.kind<p0.kind))=true then (some 1) else (if (decide (p0.num<p1.num))=true then (some (-1)) else (if (decide (p1.num<p0.num))=true then (some 1) else (if (Op.bytesLess p0.text p1.text)=true then (some (-1)) else (if (!(Op.bytesLess p0.text p1.text||decide (p0.text=p1.text)))=true then (some 1) else (some 0))))))
def aEy (p0:Int) (p1:aA) (p2:aA) (Y1:Bool):Option (aA×Int) :=
  if Y1=true then ((aIk p0 p1.num p2.num)>>=fun y19=>some (y19.1,y19.2)) else ((vO p1 p2)>>=fun y20=>(aAa p0 y20)>>=fun y21=>(qR y21)>>=fun y22=>some (y22,0))
def vD (p0:aA):Option Bool :=
  some (decide (p0.kind=0))
def vF (p0:aA) (p1:Int):Option Bool :=
  (if (true&&((decide (p0.kind=p1))==false))=true then vD p0 else some default)>>=fun y1=>(some (if (decide (p0.kind=p1))=true then true else y1))>>=fun y2=>some y2
def aHo (p0:Int) (p1:aA) (p2:aA):Option (aA×Int) :=
  (vF p1 3)>>=fun y1=>(if (true&&((!y1)==false))=true then vF p2 3 else some default)>>=fun y2=>(some (if (!y1)=true then true else (!y2)))>>=fun y3=>if y3=true then (some ((aA.mk 0 0 []),1)) else ((qR (decide (p0=1)))>>=fun y4=>(some (if ((decide (p1.kind=y4.kind))&&((decide (p1.num=y4.num))&&((decide (p1.text=y4.text))&&true)))=true then true else ((decide (p2.kind=y4.kind))&&((decide (p2.num=y4.num))&&((decide (p2.text=y4.text))&&true)))))>>=fun y5=>if y5=true then (some (y4,0)) else ((vD p1)>>=fun y6=>(if (true&&(y6==false))=true then vD p2 else some default)>>=fun y7=>(some (if y6=true then true else y7))>>=fun y8=>if y8=true then (some ((aA.mk 0 0 []),0)) else ((qR (decide (p0=2)))>>=fun y9=>some (y9,0))))
def aFm (p0:Int) (p1:aA) (p2:aA):Option Bool :=
  if (decide (p0=9))=true then ((vF p1 2)>>=fun y1=>(if (true&&(y1==true))=true then vF p2 2 else some default)>>=fun y2=>(some (if y1=true then y2 else false))>>=fun y3=>some y3) else (if (decide (10≤p0))=true then ((vF p1 1)>>=fun y4=>(if (true&&(y4==true))=true then vF p2 1 else some default)>>=fun y5=>(some (if y4=true then y5 else false))>>=fun y6=>some y6) else ((if (true&&((decide (p1.kind=p2.kind))==false))=true then vD p1 else some default)>>=fun y7=>(some (if (decide (p1.kind=p2.kind))=true then true else y7))>>=fun y8=>(if (true&&(y8==false))=true then vD p2 else some default)>>=fun y9=>(some (if y8=true then true else y9))>>=fun y10=>some y10))
def aK9 (p0:Int) (p1:Int):Option (Int×Bool) :=
  (some (if (decide (p0=0))=true then true else (decide (p1=0))))>>=fun y1=>if y1=true then (some (0,true)) else ((some (if (decide (p0=(-1)))=true then (decide (p1=(-9223372036854775808))) else false))>>=fun y2=>(if (true&&(y2==false))=true then some (if (decide (p1=(-1)))=true then (decide (p0=(-9223372036854775808))) else false) else some default)>>=fun y3=>(some (if y2=true then true else y3))>>=fun y4=>if y4=true then (some (0,false)) else ((xW .i64 (QA .i64 (p0 * p1)) p1)>>=fun y5=>if (!decide (y5=p0))=true then (some (0,false)) else (some ((QA .i64 (p0 * p1)),true))))
def qV (p0:Int) (p1:aA) (p2:aA):Option (aA×Int) :=
  (fE p0 1 14)>>=fun y1=>(if (true&&((!y1)==false))=true then kY p1 else some default)>>=fun y2=>(some (if (!y1)=true then true else (!y2)))>>=fun y3=>(if (true&&(y3==false))=true then kY p2 else some default)>>=fun y4=>(some (if y3=true then true else (!y4)))>>=fun y5=>if y5=true then (some ((aA.mk 0 0 []),1)) else (if (decide (p0≤2))=true then ((aHo p0 p1 p2)>>=fun y6=>some (y6.1,y6.2)) else ((aFm p0 p1 p2)>>=fun y7=>if (!y7)=true then (some ((aA.mk 0 0 []),1)) else ((vD p1)>>=fun y8=>(if (true&&(y8==false))=true then vD p2 else some default)>>=fun y9=>(some (if y8=true then true else y9))>>=fun y10=>if y10=true then (some ((aA.mk 0 0 []),0)) else (if (decide (p0=9))=true then (if (decide (200<(QA .i64 ((p1.text.length:Int)+(p2.text.length:Int)))))=true then (some ((aA.mk 0 0 []),2)) else ((H8 p1.text p2.text)>>=fun y11=>(aFu y11)>>=fun y12=>some (y12,0))) else (if (decide (p0=10))=true then ((aOh p1.num p2.num)>>=fun y13=>(yJ y13.1 y13.2)>>=fun y14=>some (y14.1,y14.2)) else (if (decide (p0=11))=true then ((aDe p1.num p2.num)>>=fun y15=>(yJ y15.1 y15.2)>>=fun y16=>some (y16.1,y16.2)) else (if (decide (p0=12))=true then ((aK9 p1.num p2.num)>>=fun y17=>(yJ y17.1 y17.2)>>=fun y18=>some (y18.1,y18.2)) else (if (decide (p0=13))=true then (aEy p0 p1 p2 (decide (p0=13))) else (aEy p0 p1 p2 (decide (p0=14)))))))))))
def aHf (p0:aA) (p1:aA) (p2:aA):Option (aA×Int) :=
  (qV 8 p0 p1)>>=fun y1=>if (!decide (y1.2=0))=true then (some ((aA.mk 0 0 []),y1.2)) else ((qV 6 p0 p2)>>=fun y2=>if (!decide (y2.2=0))=true then (some ((aA.mk 0 0 []),y2.2)) else ((qV 2 y1.1 y2.1)>>=fun y3=>some (y3.1,y3.2)))
def aEc (p0:Int) (p1:aA):Option (aA×Int) :=
  (kY p1)>>=fun y1=>if (!y1)=true then (some ((aA.mk 0 0 []),1)) else (if (decide (p0=15))=true then ((vF p1 3)>>=fun y2=>if (!y2)=true then (some ((aA.mk 0 0 []),1)) else ((vD p1)>>=fun y3=>if y3=true then (some (p1,0)) else ((qR (decide (p1.num=0)))>>=fun y4=>some (y4,0)))) else (if (decide (p0=16))=true then ((vF p1 1)>>=fun y5=>if (!y5)=true then (some ((aA.mk 0 0 []),1)) else ((vD p1)>>=fun y6=>if y6=true then (some (p1,0)) else ((aDe 0 p1.num)>>=fun y7=>(yJ y7.1 y7.2)>>=fun y8=>some (y8.1,y8.2)))) else (some ((aA.mk 0 0 []),1))))
def aCi (p0:aJ) (p1:aA) (p2:Int):Option (aA×Int) :=
  if (!decide (p2=0))=true then (some ((aA.mk 0 0 []),p2)) else (if p0.not_=true then ((aEc 15 p1)>>=fun y1=>some (y1.1,y1.2)) else (some (p1,0)))
def H7 (p1:List aA) (p0:aA) (x7:Int) (iU:Int) (iW:Int) (iV:List UInt8):Option (aA×Int) :=
  if (decide (x7<(p1.length:Int)))=true then ((idx p1 x7)>>=fun y2=>(qV 3 p0 y2)>>=fun y3=>if (!decide (y3.2=0))=true then (some ((aA.mk 0 0 []),y3.2)) else ((qV 1 (aA.mk iU iW iV) y3.1)>>=fun y4=>H7 p1 p0 (QA .i64 (x7+1)) y4.1.kind y4.1.num y4.1.text)) else (some ((aA.mk iU iW iV),0))
  partial_fixpoint
def aDt (p0:aA) (p1:List aA):Option (aA×Int) :=
  (qR false)>>=fun y1=>H7 p1 p0 0 y1.kind y1.num y1.text
def C9 (x10:List aA) (x14:List (List aA)) (p3:aJ) (x21:List aA) (x22:Int):Option (aA×Int) :=
  if (decide (x22<(x14.length:Int)))=true then ((idx x14 x22)>>=fun y30=>if (decide ((y30.length:Int)=0))=true then (some ((aA.mk 0 0 []),4)) else ((idx x14 x22)>>=fun y31=>(idx y31 0)>>=fun y32=>(appG 32 x21 ([y32]:List aA))>>=fun y33=>C9 x10 x14 p3 y33 (QA .i64 (x22+1)))) else ((idx x10 0)>>=fun y34=>(aDt y34 x21)>>=fun y35=>(aCi p3 y35.1 y35.2)>>=fun y36=>some (y36.1,y36.2))
  partial_fixpoint
def uZ (p2:List (List aA)) (x10:List aA) (p3:aJ) (x14:List (List aA)):Option (aA×Int) :=
  if (decide (p3.kind=1))=true then (some (p3.value,0)) else (if (decide (p3.kind=2))=true then ((fE p3.up 0 (QA .i64 ((p2.length:Int) - 1)))>>=fun y7=>(if (true&&((!y7)==false))=true then idx p2 p3.up else some default)>>=fun y8=>(if (true&&((!y7)==false))=true then fE p3.at_ 0 (QA .i64 ((y8.length:Int) - 1)) else some default)>>=fun y9=>(some (if (!y7)=true then true else (!y9)))>>=fun y10=>if y10=true then (some ((aA.mk 0 0 []),4)) else ((idx p2 p3.up)>>=fun y11=>(idx y11 p3.at_)>>=fun y12=>some (y12,0))) else (if (decide (p3.kind=3))=true then ((idx x10 0)>>=fun y13=>(aEc p3.op y13)>>=fun y14=>some (y14.1,y14.2)) else (if (decide (p3.kind=4))=true then ((idx x10 0)>>=fun y15=>(idx x10 1)>>=fun y16=>(qV p3.op y15 y16)>>=fun y17=>some (y17.1,y17.2)) else (if (decide (p3.kind=5))=true then ((idx x10 0)>>=fun y18=>(qR (!((decide (y18.kind=0))==p3.not_)))>>=fun y19=>some (y19,0)) else (if (decide (p3.kind=6))=true then ((idx x10 0)>>=fun y20=>(idx x10 1)>>=fun y21=>(idx x10 2)>>=fun y22=>(aHf y20 y21 y22)>>=fun y23=>(aCi p3 y23.1 y23.2)>>=fun y24=>some (y24.1,y24.2)) else (if (decide (p3.kind=7))=true then ((idx x10 0)>>=fun y25=>(iM x10 1 (x10.length:Int))>>=fun y26=>(aDt y25 y26)>>=fun y27=>(aCi p3 y27.1 y27.2)>>=fun y28=>some (y28.1,y28.2)) else (if (decide (p3.kind=9))=true then ((qR (decide (0<(x14.length:Int))))>>=fun y29=>some (y29,0)) else (C9 x10 x14 p3 ([]:List aA) 0))))))))
def aKd (p0:aJ) (x20:Bool):Option Bool :=
  if x20=true then ((some (if (decide ((p0.kids.length:Int)=1))=true then (decide ((p0.sub.length:Int)=0)) else false))>>=fun y1=>some y1) else (if (decide (p0.kind=4))=true then ((some (if (decide ((p0.kids.length:Int)=2))=true then (decide ((p0.sub.length:Int)=0)) else false))>>=fun y2=>some y2) else (if (decide (p0.kind=6))=true then ((some (if (decide ((p0.kids.length:Int)=3))=true then (decide ((p0.sub.length:Int)=0)) else false))>>=fun y3=>some y3) else (if (decide (p0.kind=7))=true then ((fE (p0.kids.length:Int) 2 9)>>=fun y4=>(some (if y4=true then (decide ((p0.sub.length:Int)=0)) else false))>>=fun y5=>some y5) else (if (decide (p0.kind=8))=true then ((some (if (decide ((p0.kids.length:Int)=1))=true then (decide ((p0.sub.length:Int)=1)) else false))>>=fun y6=>some y6) else (if (decide (p0.kind=9))=true then ((some (if (decide ((p0.kids.length:Int)=0))=true then (decide ((p0.sub.length:Int)=1)) else false))>>=fun y7=>some y7) else (some false))))))
def aJf (p0:aJ) (x13:Bool):Option Bool :=
  if x13=true then (some (decide ((QA .i64 ((p0.kids.length:Int)+(p0.sub.length:Int)))=0))) else (if (decide (p0.kind=3))=true then (aKd p0 (decide (p0.kind=3))) else (aKd p0 (decide (p0.kind=5))))
def aGi (p0:aJ):Option Bool :=
  if (decide (p0.kind=1))=true then (aJf p0 (decide (p0.kind=1))) else (aJf p0 (decide (p0.kind=2)))
def aI6 (p0:aA):Option Bool :=
  (some (if (decide (p0.kind=3))=true then (decide (p0.num=1)) else false))>>=fun y1=>some y1
def aC7 (p0:List aA) (p1:List (List aA)):Option (List (List aA)) :=
  (appG 24 ([p0]:List (List aA)) p1)>>=fun y1=>some y1
def Y4 (p0:GDb) (p1:aP) (x5:Int):Option Bool :=
  if (decide (x5<(p1.tables.length:Int)))=true then ((idx p1.tables x5)>>=fun y2=>(fE y2 0 (QA .i64 ((p0.tables.length:Int) - 1)))>>=fun y3=>if (!y3)=true then (some false) else (Y4 p0 p1 (QA .i64 (x5+1)))) else (some true)
  partial_fixpoint
def aJm (p0:GDb) (p1:aP):Option Bool :=
  (some (if (decide ((p1.tables.length:Int)=0))=true then true else (!decide ((p1.on_.length:Int)=(p1.tables.length:Int)))))>>=fun y1=>if y1=true then (some false) else (Y4 p0 p1 0)
mutual
def aB9 (p0:List aA) (p1:List aA) (p2:List cZ) (x7:Int) (x8:Int):Option Bool :=
  if (!decide (x8=0))=true then (some (decide (x8<0))) else (aB3 p0 p1 p2 (QA .i64 (x7+1)))
  partial_fixpoint
def aB3 (p0:List aA) (p1:List aA) (p2:List cZ) (x7:Int):Option Bool :=
  if (decide (x7<(p2.length:Int)))=true then ((idx p0 x7)>>=fun y1=>(idx p1 x7)>>=fun y2=>(vO y1 y2)>>=fun y3=>(idx p2 x7)>>=fun y4=>if y4.desc=true then (aB9 p0 p1 p2 x7 (QA .i64 (0 - y3))) else (aB9 p0 p1 p2 x7 y3)) else (some false)
  partial_fixpoint
end
def aHc (p0:List aA) (p1:List aA) (p2:List cZ):Option Bool :=
  aB3 p0 p1 p2 0
def aGx (Z9:List (List aA)):Option ((List (List aA))×Int) :=
  some (Z9,0)
def H9 (p3:aP) (vJ:List (List aA)):Option ((List (List aA))×Int) :=
  (some (if (decide (0≤p3.limit))=true then (decide (p3.limit<(vJ.length:Int))) else false))>>=fun y8=>if y8=true then ((iM vJ 0 p3.limit)>>=fun y9=>aGx y9) else (aGx vJ)
mutual
def aBo (p2:List (List aA)) (p3:List (List aA)) (p4:List aJ) (x12:List (List aA)) (x13:Int) (p0:aQ) (kp1:GDb×(List aA)×Int):Option ((List (List aA))×Int) :=
  if (decide (kp1.2.2<(p4.length:Int)))=true then ((idx p3 x13)>>=fun y1=>(aC7 y1 p2)>>=fun y2=>(idx p4 kp1.2.2)>>=fun y3=>(fO p0 kp1.1 y2 y3)>>=fun y4=>if (!decide (y4.2=0))=true then (some (([]:List (List aA)),y4.2)) else ((appG 32 kp1.2.1 ([y4.1]:List aA))>>=fun y5=>aBo p2 p3 p4 x12 x13 p0 (kp1.1,y5,(QA .i64 (kp1.2.2+1))))) else ((appG 24 x12 ([kp1.2.1]:List (List aA)))>>=fun y6=>Y3 p2 p3 p4 p0 kp1.1 y6 (QA .i64 (x13+1)))
  partial_fixpoint
def Y3 (p2:List (List aA)) (p3:List (List aA)) (p4:List aJ) (p0:aQ) (p1:GDb) (x12:List (List aA)) (x13:Int):Option ((List (List aA))×Int) :=
  if (decide (x13<(p3.length:Int)))=true then (aBo p2 p3 p4 x12 x13 p0 (p1,([]:List aA),0)) else (some (x12,0))
  partial_fixpoint
def aHp (p0:aQ) (p1:GDb) (p2:List (List aA)) (p3:List (List aA)) (p4:List aJ):Option ((List (List aA))×Int) :=
  Y3 p2 p3 p4 p0 p1 ([]:List (List aA)) 0
  partial_fixpoint
def aDp (p2:List (List aA)) (p0:aQ) (p1:GDb) (p3:aP) (x11:List (List aA)):Option ((List (List aA))×Int) :=
  (aHp p0 p1 p2 x11 p3.items)>>=fun y5=>if (!decide (y5.2=0))=true then (some (([]:List (List aA)),y5.2)) else (if p3.distinct=true then ((aCm y5.1)>>=fun y6=>H9 p3 y6) else (H9 p3 y5.1))
  partial_fixpoint
def K6 (p2:List (List aA)) (p3:List (List aA)) (p4:List cZ) (x12:List (List aA)) (x13:List (List aA)) (x14:Int) (kx15q:(List aA)×aQ×GDb×Int):Option ((List (List aA))×Int) :=
  (if (true&&((decide (0<kx15q.2.2.2))==true))=true then idx x13 (QA .i64 (kx15q.2.2.2 - 1)) else some default)>>=fun y6=>(if (true&&((decide (0<kx15q.2.2.2))==true))=true then aHc kx15q.1 y6 p4 else some default)>>=fun y7=>(some (if (decide (0<kx15q.2.2.2))=true then y7 else false))>>=fun y8=>if y8=true then (K6 p2 p3 p4 x12 x13 x14 (kx15q.1,kx15q.2.1,kx15q.2.2.1,(QA .i64 (kx15q.2.2.2 - 1)))) else ((iM x12 0 kx15q.2.2.2)>>=fun y9=>(appG 24 ([]:List (List aA)) y9)>>=fun y10=>(idx p3 x14)>>=fun y11=>(appG 24 y10 ([y11]:List (List aA)))>>=fun y12=>(iM x12 kx15q.2.2.2 (x12.length:Int))>>=fun y13=>(appG 24 y12 y13)>>=fun y14=>(iM x13 0 kx15q.2.2.2)>>=fun y15=>(appG 24 ([]:List (List aA)) y15)>>=fun y16=>(appG 24 y16 ([kx15q.1]:List (List aA)))>>=fun y17=>(iM x13 kx15q.2.2.2 (x13.length:Int))>>=fun y18=>(appG 24 y17 y18)>>=fun y19=>yA p2 p3 p4 kx15q.2.1 kx15q.2.2.1 y14 (y19,(QA .i64 (x14+1))))
  partial_fixpoint
def aEm (p2:List (List aA)) (p3:List (List aA)) (p4:List cZ) (x12:List (List aA)) (x13:List (List aA)) (x14:Int) (kp0q:aQ×GDb×(List aA)×Int):Option ((List (List aA))×Int) :=
  if (decide (kp0q.2.2.2<(p4.length:Int)))=true then ((idx p3 x14)>>=fun y1=>(aC7 y1 p2)>>=fun y2=>(idx p4 kp0q.2.2.2)>>=fun y3=>(fO kp0q.1 kp0q.2.1 y2 y3.expr)>>=fun y4=>if (!decide (y4.2=0))=true then (some (([]:List (List aA)),y4.2)) else ((appG 32 kp0q.2.2.1 ([y4.1]:List aA))>>=fun y5=>aEm p2 p3 p4 x12 x13 x14 (kp0q.1,kp0q.2.1,y5,(QA .i64 (kp0q.2.2.2+1))))) else (K6 p2 p3 p4 x12 x13 x14 (kp0q.2.2.1,kp0q.1,kp0q.2.1,(x12.length:Int)))
  partial_fixpoint
def yA (p2:List (List aA)) (p3:List (List aA)) (p4:List cZ) (p0:aQ) (p1:GDb) (x12:List (List aA)) (kx13:(List (List aA))×Int):Option ((List (List aA))×Int) :=
  if (decide (kx13.2<(p3.length:Int)))=true then (aEm p2 p3 p4 x12 kx13.1 kx13.2 (p0,p1,([]:List aA),0)) else (some (x12,0))
  partial_fixpoint
def aGb (p0:aQ) (p1:GDb) (p2:List (List aA)) (p3:List (List aA)) (p4:List cZ):Option ((List (List aA))×Int) :=
  yA p2 p3 p4 p0 p1 ([]:List (List aA)) (([]:List (List aA)),0)
  partial_fixpoint
def aD9 (p2:List (List aA)) (x3:List (List aA)) (p4:List aJ) (x12:Int) (x14:Int) (p0:aQ) (kp1:GDb×(List (List aA))):Option ((List (List aA))×Int) :=
  aB4 p2 x3 p4 x12 p0 kp1.1 (kp1.2,(QA .i64 (x14+1)))
  partial_fixpoint
def aCb (p2:List (List aA)) (p0:aQ) (p1:GDb) (p3:aJ) (x10:List aA) (x11:Int):Option (aA×Int) :=
  if (decide (x11<(p3.kids.length:Int)))=true then ((idx p3.kids x11)>>=fun y2=>(fO p0 p1 p2 y2)>>=fun y3=>if (!decide (y3.2=0))=true then (some ((aA.mk 0 0 []),y3.2)) else ((appG 32 x10 ([y3.1]:List aA))>>=fun y4=>aCb p2 p0 p1 p3 y4 (QA .i64 (x11+1)))) else (if (decide (0<(p3.sub.length:Int)))=true then ((idx p3.sub 0)>>=fun y5=>(uL p0 p1 p2 y5)>>=fun y6=>if (!decide (y6.2=0))=true then (some ((aA.mk 0 0 []),y6.2)) else (uZ p2 x10 p3 y6.1)) else (uZ p2 x10 p3 ([]:List (List aA))))
  partial_fixpoint
def fO (p0:aQ) (p1:GDb) (p2:List (List aA)) (p3:aJ):Option (aA×Int) :=
  (aGi p3)>>=fun y1=>if (!y1)=true then (some ((aA.mk 0 0 []),4)) else (aCb p2 p0 p1 p3 ([]:List aA) 0)
  partial_fixpoint
def aB4 (p2:List (List aA)) (x3:List (List aA)) (p4:List aJ) (x12:Int) (p0:aQ) (p1:GDb) (kx13:(List (List aA))×Int):Option ((List (List aA))×Int) :=
  if (decide (kx13.2<(x3.length:Int)))=true then ((idx x3 kx13.2)>>=fun y1=>(aC7 y1 p2)>>=fun y2=>(idx p4 x12)>>=fun y3=>(fO p0 p1 y2 y3)>>=fun y4=>if (!decide (y4.2=0))=true then (some (([]:List (List aA)),y4.2)) else ((aI6 y4.1)>>=fun y5=>if y5=true then ((idx x3 kx13.2)>>=fun y6=>(appG 24 kx13.1 ([y6]:List (List aA)))>>=fun y7=>aD9 p2 x3 p4 x12 kx13.2 p0 (p1,y7)) else (aD9 p2 x3 p4 x12 kx13.2 p0 (p1,kx13.1)))) else (O5 p2 p4 p0 p1 kx13.1 (QA .i64 (x12+1)))
  partial_fixpoint
def O5 (p2:List (List aA)) (p4:List aJ) (p0:aQ) (p1:GDb) (x3:List (List aA)) (x12:Int):Option ((List (List aA))×Int) :=
  if (decide (x12<(p4.length:Int)))=true then (aB4 p2 x3 p4 x12 p0 p1 (([]:List (List aA)),0)) else (some (x3,0))
  partial_fixpoint
def aBl (p0:aQ) (p1:GDb) (p2:List (List aA)) (p3:List (List aA)) (p4:List aJ):Option ((List (List aA))×Int) :=
  O5 p2 p4 p0 p1 p3 0
  partial_fixpoint
def aBu (p2:List (List aA)) (x10:List (List aA)) (x11:Int) (y2:fM) (x14:Int) (p0:aQ) (kp1:GDb×aP×(((List (List aA))×Int))):Option ((List (List aA))×Int) :=
  if (decide (kp1.2.2.2<(y2.rows.length:Int)))=true then ((idx x10 x14)>>=fun y6=>(aBq y6)>>=fun y7=>(idx y2.rows kp1.2.2.2)>>=fun y8=>(appG 32 y7 y8)>>=fun y9=>(appG 24 kp1.2.2.1 ([y9]:List (List aA)))>>=fun y10=>aBu p2 x10 x11 y2 x14 p0 (kp1.1,kp1.2.1,y10,(QA .i64 (kp1.2.2.2+1)))) else (N9 p2 x10 x11 y2 p0 kp1.1 (kp1.2.1,kp1.2.2.1,(QA .i64 (x14+1))))
  partial_fixpoint
def N9 (p2:List (List aA)) (x10:List (List aA)) (x11:Int) (y2:fM) (p0:aQ) (p1:GDb) (kp3q:aP×(((List (List aA))×Int))):Option ((List (List aA))×Int) :=
  if (decide (kp3q.2.2<(x10.length:Int)))=true then (aBu p2 x10 x11 y2 kp3q.2.2 p0 (p1,kp3q.1,kp3q.2.1,0)) else ((idx kp3q.1.on_ x11)>>=fun y4=>(aBl p0 p1 p2 kp3q.2.1 y4)>>=fun y5=>if (!decide (y5.2=0))=true then (some (([]:List (List aA)),y5.2)) else (Z4 p2 p0 p1 kp3q.1 y5.1 (QA .i64 (x11+1))))
  partial_fixpoint
def Z4 (p2:List (List aA)) (p0:aQ) (p1:GDb) (p3:aP) (x10:List (List aA)) (x11:Int):Option ((List (List aA))×Int) :=
  if (decide (x11<(p3.tables.length:Int)))=true then ((idx p3.tables x11)>>=fun y1=>(idx p1.tables y1)>>=fun y2=>N9 p2 x10 x11 y2 p0 p1 (p3,([]:List (List aA)),0)) else (some (x10,0))
  partial_fixpoint
def aN0 (p0:aQ) (p1:GDb) (p2:List (List aA)) (p3:aP):Option ((List (List aA))×Int) :=
  Z4 p2 p0 p1 p3 ([([]:List aA)]:List (List aA)) 0
  partial_fixpoint
def uL (p0:aQ) (p1:GDb) (p2:List (List aA)) (p3:aP):Option ((List (List aA))×Int) :=
  (aJm p1 p3)>>=fun y1=>if (!y1)=true then (some (([]:List (List aA)),4)) else ((aN0 p0 p1 p2 p3)>>=fun y2=>if (!decide (y2.2=0))=true then (some (([]:List (List aA)),y2.2)) else ((aBl p0 p1 p2 y2.1 p3.where_)>>=fun y3=>if (!decide (y3.2=0))=true then (some (([]:List (List aA)),y3.2)) else (if (decide (0<(p3.order.length:Int)))=true then ((aGb p0 p1 p2 y3.1 p3.order)>>=fun y4=>if (!decide (y4.2=0))=true then (some (([]:List (List aA)),y4.2)) else (aDp p2 p0 p1 p3 y4.1)) else (aDp p2 p0 p1 p3 y3.1))))
  partial_fixpoint
end
def zA (p0:aP) (eY:List aJ) (x5:Int):Option (List aJ) :=
  if (decide (x5<(p0.order.length:Int)))=true then ((idx p0.order x5)>>=fun y5=>(appG 120 eY ([y5.expr]:List aJ))>>=fun y6=>zA p0 y6 (QA .i64 (x5+1))) else ((appG 120 eY p0.items)>>=fun y7=>some y7)
  partial_fixpoint
def aAu (p0:aP) (x3:List aJ) (x4:Int):Option (List aJ) :=
  if (decide (x4<(p0.on_.length:Int)))=true then ((idx p0.on_ x4)>>=fun y1=>(appG 120 x3 y1)>>=fun y2=>aAu p0 y2 (QA .i64 (x4+1))) else ((appG 120 x3 p0.where_)>>=fun y3=>zA p0 y3 0)
  partial_fixpoint
def aFd (p0:aP):Option (List aJ) :=
  aAu p0 ([]:List aJ) 0
def xH (p0:Int) (p1:Int):Option Int :=
  if (decide (p1<p0))=true then (some p0) else (some p1)
mutual
def P7 (p0:aJ) (eY:Int) (x5:Int):Option Int :=
  if (decide (x5<(p0.sub.length:Int)))=true then ((idx p0.sub x5)>>=fun y5=>(aBn y5)>>=fun y6=>(xH eY y6)>>=fun y7=>P7 p0 y7 (QA .i64 (x5+1))) else (some (QA .i64 (eY+1)))
  partial_fixpoint
def aFo (p0:aJ) (x3:Int) (x4:Int):Option Int :=
  if (decide (x4<(p0.kids.length:Int)))=true then ((idx p0.kids x4)>>=fun y1=>(zG y1)>>=fun y2=>(xH x3 y2)>>=fun y3=>aFo p0 y3 (QA .i64 (x4+1))) else (P7 p0 x3 0)
  partial_fixpoint
def zG (p0:aJ):Option Int :=
  aFo p0 0 0
  partial_fixpoint
def aBy (y1:List aJ) (x3:Int) (x5:Int):Option Int :=
  if (decide (x5<(y1.length:Int)))=true then ((idx y1 x5)>>=fun y2=>(zG y2)>>=fun y3=>(xH x3 y3)>>=fun y4=>aBy y1 y4 (QA .i64 (x5+1))) else (some x3)
  partial_fixpoint
def aBn (p0:aP):Option Int :=
  (aFd p0)>>=fun y1=>aBy y1 0 0
  partial_fixpoint
end
mutual
def H6 (p0:aJ) (rP:Int) (x5:Int):Option Int :=
  if (decide (x5<(p0.sub.length:Int)))=true then ((idx p0.sub x5)>>=fun y4=>(aA7 y4)>>=fun y5=>H6 p0 (QA .i64 (rP+y5)) (QA .i64 (x5+1))) else (some rP)
  partial_fixpoint
def aFs (p0:aJ) (x3:Int) (x4:Int):Option Int :=
  if (decide (x4<(p0.kids.length:Int)))=true then ((idx p0.kids x4)>>=fun y1=>(yE y1)>>=fun y2=>aFs p0 (QA .i64 (x3+y2)) (QA .i64 (x4+1))) else (H6 p0 x3 0)
  partial_fixpoint
def yE (p0:aJ):Option Int :=
  aFs p0 1 0
  partial_fixpoint
def aBi (y1:List aJ) (x3:Int) (x5:Int):Option Int :=
  if (decide (x5<(y1.length:Int)))=true then ((idx y1 x5)>>=fun y2=>(yE y2)>>=fun y3=>aBi y1 (QA .i64 (x3+y3)) (QA .i64 (x5+1))) else (some x3)
  partial_fixpoint
def aA7 (p0:aP):Option Int :=
  (aFd p0)>>=fun y1=>aBi y1 0 0
  partial_fixpoint
end
def qP (p0:aQ) (p1:aP) (x6:Int):Option Bool :=
  if (decide (x6<(p1.names.length:Int)))=true then ((idx p1.names x6)>>=fun y12=>(nU y12)>>=fun y13=>if (!y13)=true then (some false) else (qP p0 p1 (QA .i64 (x6+1)))) else ((yG p0 p1.tables)>>=fun y14=>some y14.2)
  partial_fixpoint
def qA (p0:aQ) (p1:aP) (x5:Int):Option Bool :=
  if (decide (x5<(p1.on_.length:Int)))=true then ((idx p1.on_ x5)>>=fun y11=>if (decide (1<(y11.length:Int)))=true then (some false) else (qA p0 p1 (QA .i64 (x5+1)))) else (qP p0 p1 0)
  partial_fixpoint
def X4 (p0:aQ) (p1:aP):Option Bool :=
  (fE (p1.tables.length:Int) 1 3)>>=fun y1=>(some (if (!y1)=true then true else (!decide ((p1.on_.length:Int)=(p1.tables.length:Int)))))>>=fun y2=>(if (true&&(y2==false))=true then idx p1.on_ 0 else some default)>>=fun y3=>(some (if y2=true then true else (decide (0<(y3.length:Int)))))>>=fun y4=>(some (if y4=true then true else (decide (1<(p1.where_.length:Int)))))>>=fun y5=>(some (if y5=true then true else (decide (12<(p1.order.length:Int)))))>>=fun y6=>(if (true&&(y6==false))=true then fE (p1.items.length:Int) 1 12 else some default)>>=fun y7=>(some (if y6=true then true else (!y7)))>>=fun y8=>(some (if y8=true then true else (!decide ((p1.names.length:Int)=(p1.items.length:Int)))))>>=fun y9=>(some (if y9=true then true else (decide (p1.limit<(-1)))))>>=fun y10=>if y10=true then (some false) else (qA p0 p1 0)
def K3 (p0:Int):Option Bool :=
  (some (if (decide (p0=0))=true then true else (decide (p0=3))))>>=fun y1=>some y1
def M9 (p0:aA):Option Bool :=
  (kY p0)>>=fun y1=>(if (true&&(y1==true))=true then some (if (!decide (p0.kind=1))=true then true else (decide (0≤p0.num))) else some default)>>=fun y2=>(some (if y1=true then y2 else false))>>=fun y3=>(some (if y3=true then (decide ((p0.text.length:Int)≤40)) else false))>>=fun y4=>some y4
def G5 (p0:List UInt8):Option Bool :=
  (if (true&&((decide (p0=[]))==false))=true then nU p0 else some default)>>=fun y1=>(some (if (decide (p0=[]))=true then true else y1))>>=fun y2=>some y2
def aBd (p0:eH):Option Bool :=
  (if (true&&((!decide (p0.kind=2))==true))=true then some (if (!decide (p0.qual=[]))=true then true else (!decide (p0.name=[]))) else some default)>>=fun y1=>(some (if (!decide (p0.kind=2))=true then y1 else false))>>=fun y2=>(if (true&&(y2==false))=true then some (if (!decide (p0.kind=1))=true then (!((decide (p0.value.kind=0))&&((decide (p0.value.num=0))&&((decide (p0.value.text=[]))&&true)))) else false) else some default)>>=fun y3=>(some (if y2=true then true else y3))>>=fun y4=>if y4=true then (some false) else ((some (if (!decide (p0.kind=3))=true then (!decide (p0.kind=4)) else false))>>=fun y5=>(some (if y5=true then (!decide (p0.op=0)) else false))>>=fun y6=>(if ((true&&(y6==false))&&(p0.not_==true))=true then fE p0.kind 5 8 else some default)>>=fun y7=>(if (true&&(y6==false))=true then some (if p0.not_=true then (!y7) else false) else some default)>>=fun y8=>(some (if y6=true then true else y8))>>=fun y9=>if y9=true then (some false) else (if (decide (p0.kind=1))=true then ((M9 p0.value)>>=fun y10=>(some (if y10=true then (decide ((QA .i64 ((p0.kids.length:Int)+(p0.sub.length:Int)))=0)) else false))>>=fun y11=>some y11) else (if (decide (p0.kind=2))=true then ((nU p0.name)>>=fun y12=>(if (true&&(y12==true))=true then G5 p0.qual else some default)>>=fun y13=>(some (if y12=true then y13 else false))>>=fun y14=>(some (if y14=true then (decide ((QA .i64 ((p0.kids.length:Int)+(p0.sub.length:Int)))=0)) else false))>>=fun y15=>some y15) else (if (decide (p0.kind=3))=true then ((some (if (decide (p0.op=15))=true then true else (decide (p0.op=16))))>>=fun y16=>(some (if y16=true then (decide ((p0.kids.length:Int)=1)) else false))>>=fun y17=>(some (if y17=true then (decide ((p0.sub.length:Int)=0)) else false))>>=fun y18=>some y18) else (if (decide (p0.kind=4))=true then ((fE p0.op 1 14)>>=fun y19=>(some (if y19=true then (decide ((p0.kids.length:Int)=2)) else false))>>=fun y20=>(some (if y20=true then (decide ((p0.sub.length:Int)=0)) else false))>>=fun y21=>some y21) else (if (decide (p0.kind=5))=true then ((some (if (decide ((p0.kids.length:Int)=1))=true then (decide ((p0.sub.length:Int)=0)) else false))>>=fun y22=>some y22) else (if (decide (p0.kind=6))=true then ((some (if (decide ((p0.kids.length:Int)=3))=true then (decide ((p0.sub.length:Int)=0)) else false))>>=fun y23=>some y23) else (if (decide (p0.kind=7))=true then ((fE (p0.kids.length:Int) 2 9)>>=fun y24=>(some (if y24=true then (decide ((p0.sub.length:Int)=0)) else false))>>=fun y25=>some y25) else (if (decide (p0.kind=8))=true then ((some (if (decide ((p0.kids.length:Int)=1))=true then (decide ((p0.sub.length:Int)=1)) else false))>>=fun y26=>some y26) else (if (decide (p0.kind=9))=true then ((some (if (decide ((p0.kids.length:Int)=0))=true then (decide ((p0.sub.length:Int)=1)) else false))>>=fun y27=>some y27) else (some false)))))))))))
def aJx (p0:aJ) (y3:List eH) (y4:List jH) (nQ:List UInt8):Option Bool :=
  (aBd (eH.mk p0.kind p0.op p0.not_ p0.value [] nQ y3 y4))>>=fun y5=>some y5
def aE2 (p0:aJ):Option Bool :=
  (if (true&&((!decide (p0.kind=2))==true))=true then some (if (!decide (p0.up=0))=true then true else (!decide (p0.at_=0))) else some default)>>=fun y1=>(some (if (!decide (p0.kind=2))=true then y1 else false))>>=fun y2=>if y2=true then (some false) else ((mkG 136 (p0.kids.length:Int) ((eH.mk 0 0 false (aA.mk 0 0 []) [] [] ([]:List eH) ([]:List jH)):eH))>>=fun y3=>(mkG 112 (p0.sub.length:Int) ((jH.mk false ([]:List pK) ([]:List oV) ([]:List eH) ([]:List pM) 0):jH))>>=fun y4=>if (decide (p0.kind=2))=true then (aJx p0 y3 y4 [97]) else (aJx p0 y3 y4 []))
def rJ (p0:Int) (p1:Bool):Option (Int×Bool) :=
  if (!p1)=true then (some (0,false)) else (some (p0,true))
def aA4 (p0:Int) (p1:Int):Option Bool :=
  (some (if (decide (p0=0))=true then true else (decide (p0=p1))))>>=fun y1=>some y1
def aJ5 (p1:Int) (p2:Int) (x10:Int):Option (Int×Bool) :=
  (aA4 p1 x10)>>=fun y12=>(if (true&&(y12==true))=true then aA4 p2 x10 else some default)>>=fun y13=>(some (if y12=true then y13 else false))>>=fun y14=>(rJ x10 y14)>>=fun y15=>some (y15.1,y15.2)
def zT (p0:Int):Option Bool :=
  (fE p0 0 3)>>=fun y1=>some y1
def V3 (p0:Int) (p1:Int):Option (Int×Bool) :=
  (zT p0)>>=fun y1=>(if (true&&((!y1)==false))=true then zT p1 else some default)>>=fun y2=>(some (if (!y1)=true then true else (!y2)))>>=fun y3=>if y3=true then (some (0,false)) else (if (decide (p0=0))=true then (some (p1,true)) else ((some (if (decide (p1=0))=true then true else (decide (p0=p1))))>>=fun y4=>if y4=true then (some (p0,true)) else (some (0,false))))
def aJy (p0:Int) (p1:Int) (p2:Int):Option (Int×Bool) :=
  (fE p0 1 14)>>=fun y1=>(if (true&&((!y1)==false))=true then zT p1 else some default)>>=fun y2=>(some (if (!y1)=true then true else (!y2)))>>=fun y3=>(if (true&&(y3==false))=true then zT p2 else some default)>>=fun y4=>(some (if y3=true then true else (!y4)))>>=fun y5=>if y5=true then (some (0,false)) else (if (decide (p0≤2))=true then ((K3 p1)>>=fun y6=>(if (true&&(y6==true))=true then K3 p2 else some default)>>=fun y7=>(some (if y6=true then y7 else false))>>=fun y8=>(rJ 3 y8)>>=fun y9=>some (y9.1,y9.2)) else (if (decide (p0≤8))=true then ((V3 p1 p2)>>=fun y10=>(rJ 3 y10.2)>>=fun y11=>some (y11.1,y11.2)) else (if (decide (p0=9))=true then (aJ5 p1 p2 2) else (aJ5 p1 p2 1))))
def D6 (p0:List Int) (x3:Int) (x4:Int):Option Bool :=
  if (decide (x4<(p0.length:Int)))=true then ((idx p0 x4)>>=fun y1=>(V3 x3 y1)>>=fun y2=>if (!y2.2)=true then (some false) else (D6 p0 y2.1 (QA .i64 (x4+1)))) else (some true)
  partial_fixpoint
def X8 (p0:List Int):Option Bool :=
  D6 p0 0 0
def xC (p2:aJ) (O6:List Int):Option (Int×Bool) :=
  if (decide (p2.kind=5))=true then (some (3,true)) else ((X8 O6)>>=fun y23=>(rJ 3 y23)>>=fun y24=>some (y24.1,y24.2))
def aId (p0:Int) (p1:Int):Option (Int×Bool) :=
  if (decide (p0=15))=true then ((K3 p1)>>=fun y1=>(rJ 3 y1)>>=fun y2=>some (y2.1,y2.2)) else (if (decide (p0=16))=true then ((aA4 p1 1)>>=fun y3=>(rJ 1 y3)>>=fun y4=>some (y4.1,y4.2)) else (some (0,false)))
mutual
def pY (y8:List (List Int)) (p0:aQ) (p2:aP) (x17:List Int) (x18:Int):Option ((List Int)×Bool) :=
  if (decide (x18<(p2.items.length:Int)))=true then ((idx p2.items x18)>>=fun y12=>(V4 p0 y8 y12)>>=fun y13=>if (!y13.2)=true then (some (([]:List Int),false)) else ((appG 8 x17 ([y13.1]:List Int))>>=fun y14=>pY y8 p0 p2 y14 (QA .i64 (x18+1)))) else (some (x17,true))
  partial_fixpoint
def rG (y8:List (List Int)) (p0:aQ) (p2:aP) (x14:Int):Option ((List Int)×Bool) :=
  if (decide (x14<(p2.order.length:Int)))=true then ((idx p2.order x14)>>=fun y10=>(V4 p0 y8 y10.expr)>>=fun y11=>if (!y11.2)=true then (some (([]:List Int),false)) else (rG y8 p0 p2 (QA .i64 (x14+1)))) else (pY y8 p0 p2 ([]:List Int) 0)
  partial_fixpoint
def qZ (p1:List (List Int)) (p0:aQ) (p2:aJ) (x8:List Int) (x9:Int):Option (Int×Bool) :=
  if (decide (x9<(p2.kids.length:Int)))=true then ((idx p2.kids x9)>>=fun y2=>(V4 p0 p1 y2)>>=fun y3=>if (!y3.2)=true then (some (0,false)) else ((appG 8 x8 ([y3.1]:List Int))>>=fun y4=>qZ p1 p0 p2 y4 (QA .i64 (x9+1)))) else (if (decide (p2.kind=1))=true then (some (p2.value.kind,true)) else (if (decide (p2.kind=2))=true then ((fE p2.up 0 (QA .i64 ((p1.length:Int) - 1)))>>=fun y5=>(if (true&&((!y5)==false))=true then idx p1 p2.up else some default)>>=fun y6=>(if (true&&((!y5)==false))=true then fE p2.at_ 0 (QA .i64 ((y6.length:Int) - 1)) else some default)>>=fun y7=>(some (if (!y5)=true then true else (!y7)))>>=fun y8=>if y8=true then (some (0,false)) else ((idx p1 p2.up)>>=fun y9=>(idx y9 p2.at_)>>=fun y10=>some (y10,true))) else (if (decide (p2.kind=3))=true then ((idx x8 0)>>=fun y11=>(aId p2.op y11)>>=fun y12=>some (y12.1,y12.2)) else (if (decide (p2.kind=4))=true then ((idx x8 0)>>=fun y13=>(idx x8 1)>>=fun y14=>(aJy p2.op y13 y14)>>=fun y15=>some (y15.1,y15.2)) else (if (decide (0<(p2.sub.length:Int)))=true then ((idx p2.sub 0)>>=fun y16=>(wM p0 p1 y16)>>=fun y17=>(if (true&&((!y17.2)==false))=true then some (if (decide (p2.kind=8))=true then (!decide ((y17.1.length:Int)=1)) else false) else some default)>>=fun y18=>(some (if (!y17.2)=true then true else y18))>>=fun y19=>if y19=true then (some (0,false)) else (if (decide (p2.kind=8))=true then ((idx y17.1 0)>>=fun y20=>(appG 8 x8 ([y20]:List Int))>>=fun y21=>xC p2 y21) else (xC p2 x8))) else (xC p2 x8))))))
  partial_fixpoint
def V4 (p0:aQ) (p1:List (List Int)) (p2:aJ):Option (Int×Bool) :=
  (aE2 p2)>>=fun y1=>if (!y1)=true then (some (0,false)) else (qZ p1 p0 p2 ([]:List Int) 0)
  partial_fixpoint
def aC6 (p1:List (List Int)) (p2:List aJ) (p0:aQ) (x7:Int):Option Bool :=
  if (decide (x7<(p2.length:Int)))=true then ((idx p2 x7)>>=fun y1=>(V4 p0 p1 y1)>>=fun y2=>(if (true&&((!y2.2)==false))=true then K3 y2.1 else some default)>>=fun y3=>(some (if (!y2.2)=true then true else (!y3)))>>=fun y4=>if y4=true then (some false) else (aC6 p1 p2 p0 (QA .i64 (x7+1)))) else (some true)
  partial_fixpoint
def aFb (p0:aQ) (p1:List (List Int)) (p2:List aJ):Option Bool :=
  aC6 p1 p2 p0 0
  partial_fixpoint
def uH (p1:List (List Int)) (p0:aQ) (p2:aP) (x8:Int):Option ((List Int)×Bool) :=
  if (decide (x8<(p2.on_.length:Int)))=true then ((iM p2.tables 0 (QA .i64 (x8+1)))>>=fun y2=>(yG p0 y2)>>=fun y3=>(Z6 y3.1 p1)>>=fun y4=>(idx p2.on_ x8)>>=fun y5=>(aFb p0 y4 y5)>>=fun y6=>if (!y6)=true then (some (([]:List Int),false)) else (uH p1 p0 p2 (QA .i64 (x8+1)))) else ((yG p0 p2.tables)>>=fun y7=>(Z6 y7.1 p1)>>=fun y8=>(aFb p0 y8 p2.where_)>>=fun y9=>if (!y9)=true then (some (([]:List Int),false)) else (rG y8 p0 p2 0))
  partial_fixpoint
def wM (p0:aQ) (p1:List (List Int)) (p2:aP):Option ((List Int)×Bool) :=
  (X4 p0 p2)>>=fun y1=>if (!y1)=true then (some (([]:List Int),false)) else (uH p1 p0 p2 0)
  partial_fixpoint
end
def J8 (p0:aQ) (p1:aP):Option Bool :=
  (aE6 p0)>>=fun y1=>(if (true&&((!y1)==false))=true then aBn p1 else some default)>>=fun y2=>(some (if (!y1)=true then true else (decide (24<y2))))>>=fun y3=>(if (true&&(y3==false))=true then aA7 p1 else some default)>>=fun y4=>(some (if y3=true then true else (decide (200<y4))))>>=fun y5=>if y5=true then (some false) else ((wM p0 ([]:List (List Int)) p1)>>=fun y6=>some y6.2)
def aHd (p0:aQ) (p1:GDb) (p2:aP):Option ((List (List aA))×Int) :=
  (J8 p0 p2)>>=fun y1=>(if (true&&((!y1)==false))=true then Q6 p0 p1 else some default)>>=fun y2=>(some (if (!y1)=true then true else (!y2)))>>=fun y3=>if y3=true then (some (([]:List (List aA)),4)) else ((uL p0 p1 ([]:List (List aA)) p2)>>=fun y4=>some (y4.1,y4.2))
def Y0 (p0:List (List aA)) (p1:List (List aA)) (x5:Int):Option Bool :=
  if (decide (x5<(p0.length:Int)))=true then ((idx p0 x5)>>=fun y1=>(idx p1 x5)>>=fun y2=>(aF6 y1 y2)>>=fun y3=>if (!y3)=true then (some false) else (Y0 p0 p1 (QA .i64 (x5+1)))) else (some true)
  partial_fixpoint
def aEg (p0:List (List aA)) (p1:List (List aA)):Option Bool :=
  if (!decide ((p0.length:Int)=(p1.length:Int)))=true then (some false) else (Y0 p0 p1 0)
def aGc (p0:List Int) (p1:Int):Option Int :=
  if (decide (p1<(p0.length:Int)))=true then ((idx p0 p1)>>=fun y1=>some (QA .i64 y1)) else (some (QD (QA .i64 ((QA .i64 (p1 * 7))+(p0.length:Int))) 256))
def aOq (p0:List Int):Option Bool :=
  some (decide (1048576<(p0.length:Int)))
def aK7 (p0:Int) (p1:Int):Option Int :=
  if (decide (p0<p1))=true then (some p0) else (some p1)
def aFy (p0:List Int):Option Bool :=
  (aOq p0)>>=fun y1=>if y1=true then (some true) else ((aIy p0)>>=fun y2=>(aGc p0 1)>>=fun y3=>(aCp y2.1 y2.2.1 (aP.mk y2.2.2.tables y2.2.2.on_ y2.2.2.where_ y2.2.2.order y2.2.2.items y2.2.2.names y2.2.2.distinct (-1)))>>=fun y4=>(aHd y2.1 y2.2.1 (aP.mk y2.2.2.tables y2.2.2.on_ y2.2.2.where_ y2.2.2.order y2.2.2.items y2.2.2.names y2.2.2.distinct (-1)))>>=fun y5=>(aCp y2.1 y2.2.1 (aP.mk y2.2.2.tables y2.2.2.on_ y2.2.2.where_ y2.2.2.order y2.2.2.items y2.2.2.names y2.2.2.distinct (QD y3 4)))>>=fun y6=>(some (if (!decide (y4.2=y5.2))=true then true else (!decide (y6.2=y4.2))))>>=fun y7=>if y7=true then (some false) else (if (!decide (y4.2=0))=true then (some (decide ((y6.1.length:Int)=0))) else ((aCp y2.1 y2.2.1 (aP.mk y2.2.2.tables y2.2.2.on_ y2.2.2.where_ y2.2.2.order y2.2.2.items y2.2.2.names true (-1)))>>=fun y8=>(aK7 (QD y3 4) (y4.1.length:Int))>>=fun y9=>(iM y4.1 0 y9)>>=fun y10=>(aEg y6.1 y10)>>=fun y11=>(if (true&&(y11==true))=true then aCm y4.1 else some default)>>=fun y12=>(if (true&&(y11==true))=true then aEg y8.1 y12 else some default)>>=fun y13=>(some (if y11=true then y13 else false))>>=fun y14=>some y14)))
end Go.Ab
