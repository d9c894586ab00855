/- The functions of the program,as Lean functions (printed by a program). -/
import Derived.Test.YthcemdafchcehabGreatAbF2
import Derived.Test.YthcemdafchcehabGreatAbF0
namespace Go.Ab
open Go
open Go.IntKind renaming wrap→QA,bits→QC
open _root_.Int renaming fdiv→QB
structure gD where
  name:(List UInt8)
  type:Int
instance:Inhabited gD:=⟨(gD.mk [] 0)⟩
structure eD where
  name:(List UInt8)
  cols:(List gD)
instance:Inhabited eD:=⟨(eD.mk [] [])⟩
structure aQ where
  tables:(List eD)
instance:Inhabited aQ:=⟨(aQ.mk [])⟩
structure aA where
  kind:Int
  num:Int
  text:(List UInt8)
instance:Inhabited aA:=⟨(aA.mk 0 0 [])⟩
structure fJ where
  rows:(List (List aA))
instance:Inhabited fJ:=⟨(fJ.mk [])⟩
structure GDb where
  tables:(List fJ)
instance:Inhabited GDb:=⟨(GDb.mk [])⟩
mutual
structure aJ where
  kind:Int
  op:Int
  not_:Bool
  value:aA
  up:Int
  at_:Int
  kids:(List aJ)
  sub:(List aP)
structure dD where
  expr:aJ
  desc:Bool
structure aP where
  tables:(List Int)
  on_:(List (List aJ))
  where_:(List aJ)
  order:(List dD)
  items:(List aJ)
  names:(List (List UInt8))
  distinct:Bool
  limit:Int
end
instance:Inhabited aJ:=⟨(aJ.mk 0 0 false (aA.mk 0 0 []) 0 0 [] [])⟩
instance:Inhabited dD:=⟨(dD.mk (aJ.mk 0 0 false (aA.mk 0 0 []) 0 0 [] []) false)⟩
instance:Inhabited aP:=⟨(aP.mk [] [] [] [] [] [] false 0)⟩
mutual
structure eO where
  kind:Int
  op:Int
  not_:Bool
  value:aA
  qual:(List UInt8)
  name:(List UInt8)
  kids:(List eO)
  sub:(List jJ)
structure pE where
  star:Bool
  qual:(List UInt8)
  expr:eO
  as_:(List UInt8)
structure jJ where
  distinct:Bool
  items:(List pE)
  from_:(List oZ)
  where_:(List eO)
  order:(List oU)
  limit:Int
structure oU where
  expr:eO
  desc:Bool
structure oZ where
  table:(List UInt8)
  as_:(List UInt8)
  on_:(List eO)
end
instance:Inhabited eO:=⟨(eO.mk 0 0 false (aA.mk 0 0 []) [] [] [] [])⟩
instance:Inhabited pE:=⟨(pE.mk false [] (eO.mk 0 0 false (aA.mk 0 0 []) [] [] [] []) [])⟩
instance:Inhabited jJ:=⟨(jJ.mk false [] [] [] [] 0)⟩
instance:Inhabited oU:=⟨(oU.mk (eO.mk 0 0 false (aA.mk 0 0 []) [] [] [] []) false)⟩
instance:Inhabited oZ:=⟨(oZ.mk [] [] [])⟩
structure kM where
  op:Bool
  not_:Bool
  value:Bool
  name:Bool
  least:Int
  most:Int
  subs:Int
instance:Inhabited kM:=⟨(kM.mk false false false false 0 0 0)⟩
structure bU where
  c0:aQ
  c1:GDb
  c2:(List (List aA))
  c3:aJ
instance:Inhabited bU:=⟨(bU.mk (aQ.mk []) (GDb.mk []) [] (aJ.mk 0 0 false (aA.mk 0 0 []) 0 0 [] []))⟩
structure mU where
  eval:bU
  desc:Bool
instance:Inhabited mU:=⟨(mU.mk (bU.mk (aQ.mk []) (GDb.mk []) [] (aJ.mk 0 0 false (aA.mk 0 0 []) 0 0 [] [])) false)⟩
structure O8 where
  c0:(List bU)
instance:Inhabited O8:=⟨(O8.mk [])⟩
structure eT where
  tables:(List (List (List aA)))
  on_:(List (List bU))
  where_:(List bU)
  order:(List mU)
  items:O8
  distinct:Bool
  limit:Int
instance:Inhabited eT:=⟨(eT.mk [] [] [] [] (O8.mk []) false 0)⟩
structure nS where
  c0:aQ
  c1:GDb
  c2:(List (List aA))
instance:Inhabited nS:=⟨(nS.mk (aQ.mk []) (GDb.mk []) [])⟩
structure oM where
  kind:Int
  op:Int
  not_:Bool
  value:aA
  kids:(List aA)
  rows:(List (List aA))
instance:Inhabited oM:=⟨(oM.mk 0 0 false (aA.mk 0 0 []) [] [])⟩
structure aU where
  row:(List aA)
  keys:(List aA)
instance:Inhabited aU:=⟨(aU.mk [] [])⟩
structure eX where
  c0:eT
instance:Inhabited eX:=⟨(eX.mk (eT.mk [] [] [] [] (O8.mk []) false 0))⟩
structure aL where
  b:(List Int)
  i:Int
  h:Int
instance:Inhabited aL:=⟨(aL.mk [] 0 0)⟩
def okGCol (x:gD):Prop:=okS x.name∧okI x.type
def okGTable (x:eD):Prop:=okS x.name∧(okL okGCol) x.cols
def okGCatalog (x:aQ):Prop:=(okL okGTable) x.tables
def okGValue (x:aA):Prop:=okI x.kind∧okI x.num∧okS x.text
def okGData (x:fJ):Prop:=(okL (okL okGValue)) x.rows
def okGDb (x:GDb):Prop:=(okL okGData) x.tables
mutual
def okGPExpr:aJ→Prop
  | ⟨a0,a1,a2,a3,a4,a5,a6,a7⟩=>okI a0∧okI a1∧okB a2∧okGValue a3∧okI a4∧okI a5∧(a6.length≤9223372036854775807∧okLGPExpr a6)∧(a7.length≤9223372036854775807∧okLGPlan a7)
def okGPSort:dD→Prop
  | ⟨a0,a1⟩=>okGPExpr a0∧okB a1
def okGPlan:aP→Prop
  | ⟨a0,a1,a2,a3,a4,a5,a6,a7⟩=>(okL okI) a0∧(a1.length≤9223372036854775807∧okLLGPExpr a1)∧(a2.length≤9223372036854775807∧okLGPExpr a2)∧(a3.length≤9223372036854775807∧okLGPSort a3)∧(a4.length≤9223372036854775807∧okLGPExpr a4)∧(okL okS) a5∧okB a6∧okI a7
def okLGPExpr:List aJ→Prop
  | []=>True
  | x::l=>okGPExpr x∧okLGPExpr l
def okLGPSort:List dD→Prop
  | []=>True
  | x::l=>okGPSort x∧okLGPSort l
def okLGPlan:List aP→Prop
  | []=>True
  | x::l=>okGPlan x∧okLGPlan l
def okLLGPExpr:List (List aJ)→Prop
  | []=>True
  | x::l=>(x.length≤9223372036854775807∧okLGPExpr x)∧okLLGPExpr l
end
mutual
def okGExpr:eO→Prop
  | ⟨a0,a1,a2,a3,a4,a5,a6,a7⟩=>okI a0∧okI a1∧okB a2∧okGValue a3∧okS a4∧okS a5∧(a6.length≤9223372036854775807∧okLGExpr a6)∧(a7.length≤9223372036854775807∧okLGQuery a7)
def okGItem:pE→Prop
  | ⟨a0,a1,a2,a3⟩=>okB a0∧okS a1∧okGExpr a2∧okS a3
def okGQuery:jJ→Prop
  | ⟨a0,a1,a2,a3,a4,a5⟩=>okB a0∧(a1.length≤9223372036854775807∧okLGItem a1)∧(a2.length≤9223372036854775807∧okLGSource a2)∧(a3.length≤9223372036854775807∧okLGExpr a3)∧(a4.length≤9223372036854775807∧okLGSortKey a4)∧okI a5
def okGSortKey:oU→Prop
  | ⟨a0,a1⟩=>okGExpr a0∧okB a1
def okGSource:oZ→Prop
  | ⟨a0,a1,a2⟩=>okS a0∧okS a1∧(a2.length≤9223372036854775807∧okLGExpr a2)
def okLGExpr:List eO→Prop
  | []=>True
  | x::l=>okGExpr x∧okLGExpr l
def okLGItem:List pE→Prop
  | []=>True
  | x::l=>okGItem x∧okLGItem l
def okLGQuery:List jJ→Prop
  | []=>True
  | x::l=>okGQuery x∧okLGQuery l
def okLGSortKey:List oU→Prop
  | []=>True
  | x::l=>okGSortKey x∧okLGSortKey l
def okLGSource:List oZ→Prop
  | []=>True
  | x::l=>okGSource x∧okLGSource l
end
def okGForm (x:kM):Prop:=okB x.op∧okB x.not_∧okB x.value∧okB x.name∧okI x.least∧okI x.most∧okI x.subs
def okGSortBy (x:mU):Prop:=(fun _=>True) x.eval∧okB x.desc
def okGExecution (x:eT):Prop:=(okL (okL (okL okGValue))) x.tables∧(okL (okL (fun _=>True))) x.on_∧(okL (fun _=>True)) x.where_∧(okL okGSortBy) x.order∧(fun _=>True) x.items∧okB x.distinct∧okI x.limit
def okGNode (x:oM):Prop:=okI x.kind∧okI x.op∧okB x.not_∧okGValue x.value∧(okL okGValue) x.kids∧(okL (okL okGValue)) x.rows
def okGKeyed (x:aU):Prop:=(okL okGValue) x.row∧(okL okGValue) x.keys
def okGL1Cur (x:aL):Prop:=(okL okU8) x.b∧okI x.i∧okI x.h
def aOd (jS:Int):Option aA :=
  some (aA.mk 3 jS [])
def oO (p0:Bool):Option aA :=
  if p0=true then (aOd 1) else (aOd 0)
def aLw (p0:gD) (c0_0:List UInt8):Option Bool :=
  some (decide (p0.name=c0_0))
def M5 (p0:List gD) (c0_0:List UInt8) (x8:Int):Option Int :=
  if (decide (x8<(p0.length:Int)))=true then ((idx p0 x8)>>=fun y1=>(aLw y1 c0_0)>>=fun y2=>if y2=true then (some x8) else (M5 p0 c0_0 (QA .i64 (x8+1)))) else (some (-1))
  partial_fixpoint
def aM0 (p0:List gD) (c0_0:List UInt8):Option Int :=
  M5 p0 c0_0 0
def aKf (p0:eD) (p1:List UInt8):Option Int :=
  (aM0 p0.cols p1)>>=fun y1=>some y1
def qX (p0:List UInt8):Option Bool :=
  (some (if (decide (1≤(p0.length:Int)))=true then (decide ((p0.length:Int)≤20)) else false))>>=fun y1=>some y1
def X0 (p0:eD) (x8:Int):Option Bool :=
  if (decide (x8<(p0.cols.length:Int)))=true then ((idx p0.cols x8)>>=fun y1=>(qX y1.name)>>=fun y2=>(some (if (!y2)=true then true else (decide (y1.type<1))))>>=fun y3=>(some (if y3=true then true else (decide (3<y1.type))))>>=fun y4=>(if (true&&(y4==false))=true then aKf p0 y1.name else some default)>>=fun y5=>(some (if y4=true then true else (!decide (y5=x8))))>>=fun y6=>if y6=true then (some false) else (X0 p0 (QA .i64 (x8+1)))) else ((qX p0.name)>>=fun y7=>(some (if y7=true then (decide (1≤(p0.cols.length:Int))) else false))>>=fun y8=>(some (if y8=true then (decide ((p0.cols.length:Int)≤4)) else false))>>=fun y9=>some y9)
  partial_fixpoint
def aHk (p0:eD):Option Bool :=
  X0 p0 0
def aNj (p0:eD) (c0_0:List UInt8):Option Bool :=
  some (decide (p0.name=c0_0))
def K3 (p0:List eD) (c0_0:List UInt8) (x8:Int):Option Int :=
  if (decide (x8<(p0.length:Int)))=true then ((idx p0 x8)>>=fun y1=>(aNj y1 c0_0)>>=fun y2=>if y2=true then (some x8) else (K3 p0 c0_0 (QA .i64 (x8+1)))) else (some (-1))
  partial_fixpoint
def aMz (p0:List eD) (c0_0:List UInt8):Option Int :=
  K3 p0 c0_0 0
def aG8 (p0:aQ) (p1:List UInt8):Option Int :=
  (aMz p0.tables p1)>>=fun y1=>some y1
def M0 (p0:aQ) (x8:Int):Option Bool :=
  if (decide (x8<(p0.tables.length:Int)))=true then ((idx p0.tables x8)>>=fun y1=>(aHk y1)>>=fun y2=>(if (true&&((!y2)==false))=true then aG8 p0 y1.name else some default)>>=fun y3=>(some (if (!y2)=true then true else (!decide (y3=x8))))>>=fun y4=>if y4=true then (some false) else (M0 p0 (QA .i64 (x8+1)))) else (some (decide ((p0.tables.length:Int)≤4)))
  partial_fixpoint
def aDh (p0:aQ):Option Bool :=
  M0 p0 0
def qI (p0:aA):Option Bool :=
  if (decide (p0.kind=0))=true then ((some (if (decide (p0.num=0))=true then (decide (p0.text=[])) else false))>>=fun y1=>some y1) else (if (decide (p0.kind=1))=true then (some (decide (p0.text=[]))) else (if (decide (p0.kind=2))=true then ((some (if (decide (p0.num=0))=true then (decide ((p0.text.length:Int)≤200)) else false))>>=fun y2=>some y2) else (if (decide (p0.kind=3))=true then ((some (if (decide (p0.num=0))=true then true else (decide (p0.num=1))))>>=fun y3=>(some (if y3=true then (decide (p0.text=[])) else false))>>=fun y4=>some y4) else (some false))))
def aHv (p0:aA) (p1:Int):Option Bool :=
  (qI p0)>>=fun y1=>(if (true&&(y1==true))=true then some (if (decide (p0.kind=0))=true then true else (decide (p0.kind=p1))) else some default)>>=fun y2=>(some (if y1=true then y2 else false))>>=fun y3=>some y3
def K6 (p1:List Int) (p0:List aA) (x14:Int):Option Bool :=
  if (decide (x14<(p0.length:Int)))=true then ((idx p0 x14)>>=fun y1=>(idx p1 x14)>>=fun y2=>(aHv y1 y2)>>=fun y3=>if (!y3)=true then (some false) else (K6 p1 p0 (QA .i64 (x14+1)))) else (some true)
  partial_fixpoint
def aHu (p0:List aA) (p1:List Int):Option Bool :=
  if (!decide ((p0.length:Int)=(p1.length:Int)))=true then (some false) else (K6 p1 p0 0)
def aKw (p0:List aA) (c0_0:List Int):Option Bool :=
  (aHu p0 c0_0)>>=fun y1=>some (!y1)
def W9 (p0:List (List aA)) (c0_0:List Int) (x8:Int):Option Int :=
  if (decide (x8<(p0.length:Int)))=true then ((idx p0 x8)>>=fun y1=>(aKw y1 c0_0)>>=fun y2=>if y2=true then (some x8) else (W9 p0 c0_0 (QA .i64 (x8+1)))) else (some (-1))
  partial_fixpoint
def aL1 (p0:List (List aA)) (c0_0:List Int):Option Int :=
  W9 p0 c0_0 0
def aI3 (p0:List (List aA)) (c0_0:List Int):Option Bool :=
  (aL1 p0 c0_0)>>=fun y1=>some (decide (0≤y1))
def vV (p0:eD) (x3:List Int) (x10:Int):Option (List Int) :=
  if (decide (x10<(p0.cols.length:Int)))=true then ((idx p0.cols x10)>>=fun y1=>(appG 8 x3 ([y1.type]:List Int))>>=fun y2=>vV p0 y2 (QA .i64 (x10+1))) else (some x3)
  partial_fixpoint
def J5 (p0:eD):Option (List Int) :=
  vV p0 ([]:List Int) 0
def H8 (p1:GDb) (p0:aQ) (x23:Int):Option Bool :=
  if (decide (x23<(p1.tables.length:Int)))=true then ((idx p1.tables x23)>>=fun y3=>(idx p0.tables x23)>>=fun y4=>(J5 y4)>>=fun y5=>(if (true&&((decide (6<(y3.rows.length:Int)))==false))=true then aI3 y3.rows y5 else some (default:Bool))>>=fun y6=>(some (if (decide (6<(y3.rows.length:Int)))=true then true else y6))>>=fun y7=>if y7=true then (some false) else (H8 p1 p0 (QA .i64 (x23+1)))) else (some true)
  partial_fixpoint
def aE1 (p0:aQ) (p1:GDb):Option Bool :=
  (aDh p0)>>=fun y1=>(some (if (!y1)=true then true else (!decide ((p1.tables.length:Int)=(p0.tables.length:Int)))))>>=fun y2=>if y2=true then (some false) else (H8 p1 p0 0)
def aBl (p1:aQ) (p2:GDb) (p3:List (List aA)) (p0:List aJ) (x6:List bU) (x12:Int):Option (List bU) :=
  if (decide (x12<(p0.length:Int)))=true then ((idx p0 x12)>>=fun y1=>(appG 8 x6 ([(bU.mk p1 p2 p3 y1)]:List bU))>>=fun y2=>aBl p1 p2 p3 p0 y2 (QA .i64 (x12+1))) else (some x6)
  partial_fixpoint
def K4 (p0:List aJ) (p1:aQ) (p2:GDb) (p3:List (List aA)):Option (List bU) :=
  aBl p1 p2 p3 p0 ([]:List bU) 0
def wU (p0:List (List aA)) (x6:List aA) (x27:Int):Option (List aA) :=
  if (decide (x27<(p0.length:Int)))=true then ((idx p0 x27)>>=fun y3=>(appG 32 x6 y3)>>=fun y4=>wU p0 y4 (QA .i64 (x27+1))) else (some x6)
  partial_fixpoint
def aLo (p0:List aA) (p1:Int):Option (List aA) :=
  aJv 32 p0 p1
mutual
def aFw (p0:List (List aA)) (x3:Int) (y1:List aA) (x11:Int):Option (List aA) :=
  wZ p0 (QA .i64 (x3+(y1.length:Int))) (QA .i64 (x11+1))
  partial_fixpoint
def wZ (p0:List (List aA)) (x3:Int) (x11:Int):Option (List aA) :=
  if (decide (x11<(p0.length:Int)))=true then ((idx p0 x11)>>=fun y1=>if (decide ((QA .i64 (x3+(y1.length:Int)))<0))=true then (none) else (aFw p0 x3 y1 x11)) else ((aLo ([]:List aA) x3)>>=fun y2=>wU p0 y2 0)
  partial_fixpoint
end
def aHj (p0:List (List aA)):Option (List aA) :=
  wZ p0 0 0
def aI4 (p0:aA):Option Bool :=
  (some (if (decide (p0.kind=3))=true then (decide (p0.num=1)) else false))>>=fun y1=>some y1
def aDu (p0:Int) (p1:Int):Option (Int×Bool) :=
  (some (if (decide (0<p1))=true then (decide ((QA .i64 (9223372036854775807 - p1))<p0)) else false))>>=fun y1=>(if (true&&(y1==false))=true then some (if (decide (p1<0))=true then (decide (p0<(QA .i64 ((-9223372036854775808) - p1)))) else false) else some default)>>=fun y2=>(some (if y1=true then true else y2))>>=fun y3=>if y3=true then (some (0,false)) else (some ((QA .i64 (p0+p1)),true))
def I5 (p0:Int):Option aA :=
  some (aA.mk 1 p0 [])
def aDj (x8:Int) (x9:Bool):Option (aA×Int) :=
  if (!x9)=true then (some ((aA.mk 0 0 []),2)) else ((I5 x8)>>=fun y5=>some (y5,0))
def aM9 (p0:Int) (p1:Int) (p2:Int):Option (aA×Int) :=
  if (decide (p2=0))=true then (some ((aA.mk 0 0 []),3)) else (if (decide (p0=14))=true then ((xV p1 p2)>>=fun y1=>(I5 y1)>>=fun y2=>some (y2,0)) else ((some (if (decide (p1=(-9223372036854775808)))=true then (decide (p2=(-1))) else false))>>=fun y3=>if y3=true then (some ((aA.mk 0 0 []),2)) else ((wX .i64 p1 p2)>>=fun y4=>(I5 y4)>>=fun y5=>some (y5,0))))
def aGw (p0:Int) (p1:Int):Option (Int×Bool) :=
  (if (true&&((!decide (p0=0))==true))=true then wX .i64 (QA .i64 (p0 * p1)) p0 else some default)>>=fun y1=>(if ((true&&((!decide (p0=0))==true))&&((!decide (y1=p1))==false))=true then some (if (decide (p0=(-1)))=true then (decide (p1=(-9223372036854775808))) else false) else some default)>>=fun y2=>(if (true&&((!decide (p0=0))==true))=true then some (if (!decide (y1=p1))=true then true else y2) else some default)>>=fun y3=>(some (if (!decide (p0=0))=true then y3 else false))>>=fun y4=>if y4=true then (some (0,false)) else (some ((QA .i64 (p0 * p1)),true))
def aEz (p0:Int) (p1:Int):Option (Int×Bool) :=
  (some (if (decide (p1<0))=true then (decide ((QA .i64 (9223372036854775807+p1))<p0)) else false))>>=fun y1=>(if (true&&(y1==false))=true then some (if (decide (0<p1))=true then (decide (p0<(QA .i64 ((-9223372036854775808)+p1)))) else false) else some default)>>=fun y2=>(some (if y1=true then true else y2))>>=fun y3=>if y3=true then (some (0,false)) else (some ((QA .i64 (p0 - p1)),true))
def aDr (p0:Int) (p1:Int) (p2:Int):Option (aA×Int) :=
  if (decide (p0=10))=true then ((aDu p1 p2)>>=fun y1=>aDj y1.1 y1.2) else (if (decide (p0=11))=true then ((aEz p1 p2)>>=fun y2=>aDj y2.1 y2.2) else (if (decide (p0=12))=true then ((aGw p1 p2)>>=fun y3=>aDj y3.1 y3.2) else ((aM9 p0 p1 p2)>>=fun y4=>some (y4.1,y4.2))))
def aHf (p0:Int):Option Bool :=
  some (!decide (p0=p0))
def aF3 (p0:Int) (p1:Int):Option Int :=
  (aHf p0)>>=fun y1=>(aHf p1)>>=fun y2=>if y1=true then (if y2=true then (some 0) else (some (-1))) else (if y2=true then (some 1) else (if (decide (p0<p1))=true then (some (-1)) else (if (decide (p1<p0))=true then (some 1) else (some 0))))
def aGl (p0:List UInt8):Option Bool :=
  some (!decide (p0=p0))
def aJy (p0:List UInt8) (p1:List UInt8):Option Int :=
  (aGl p0)>>=fun y1=>(aGl p1)>>=fun y2=>if y1=true then (if y2=true then (some 0) else (some (-1))) else (if y2=true then (some 1) else (if (Op.bytesLess p0 p1)=true then (some (-1)) else (if (!(Op.bytesLess p0 p1||decide (p0=p1)))=true then (some 1) else (some 0))))
def zB (p0:List Int) (x8:Int):Option Int :=
  if (decide (x8<(p0.length:Int)))=true then ((idx p0 x8)>>=fun y1=>if (!decide (y1=0))=true then (some y1) else (zB p0 (QA .i64 (x8+1)))) else (some 0)
  partial_fixpoint
def aJc (p0:List Int):Option Int :=
  zB p0 0
def aEa (p0:aA) (p1:aA):Option Int :=
  (aF3 p0.kind p1.kind)>>=fun y1=>(aF3 p0.num p1.num)>>=fun y2=>(aJy p0.text p1.text)>>=fun y3=>(aJc ([y1,y2,y3]:List Int))>>=fun y4=>some y4
def aBa (p0:Int) (p1:aA) (p2:aA):Option aA :=
  (aEa p1 p2)>>=fun y1=>if (decide (p0=3))=true then ((oO (decide (y1=0)))>>=fun y2=>some y2) else (if (decide (p0=4))=true then ((oO (!decide (y1=0)))>>=fun y3=>some y3) else (if (decide (p0=5))=true then ((oO (decide (y1<0)))>>=fun y4=>some y4) else (if (decide (p0=6))=true then ((oO (decide (y1≤0)))>>=fun y5=>some y5) else (if (decide (p0=7))=true then ((oO (decide (0<y1)))>>=fun y6=>some y6) else ((oO (decide (0≤y1)))>>=fun y7=>some y7)))))
def L9 (p0:Int) (p1:aA):Option Bool :=
  (some (if (decide (p1.kind=0))=true then true else (decide (p0≤8))))>>=fun y1=>if y1=true then (some true) else (if (decide (p0=9))=true then (some (decide (p1.kind=2))) else (some (decide (p1.kind=1))))
def J9 (p0:Int) (p1:aA) (p2:aA) (x15:Int):Option (aA×Int) :=
  if (decide (x15<(([p1,p2]:List aA).length:Int)))=true then ((idx ([p1,p2]:List aA) x15)>>=fun y1=>(some (if (!decide (y1.kind=3))=true then (!decide (y1.kind=0)) else false))>>=fun y2=>if y2=true then (some ((aA.mk 0 0 []),1)) else (J9 p0 p1 p2 (QA .i64 (x15+1)))) else ((oO (decide (p0=1)))>>=fun y3=>(some (if ((decide (p1.kind=y3.kind))&&((decide (p1.num=y3.num))&&((decide (p1.text=y3.text))&&true)))=true then true else ((decide (p2.kind=y3.kind))&&((decide (p2.num=y3.num))&&((decide (p2.text=y3.text))&&true)))))>>=fun y4=>if y4=true then (some (y3,0)) else ((some (if (decide (p1.kind=0))=true then true else (decide (p2.kind=0))))>>=fun y5=>if y5=true then (some ((aA.mk 0 0 []),0)) else ((oO (decide (p0=2)))>>=fun y6=>some (y6,0))))
  partial_fixpoint
def aHr (p0:Int) (p1:aA) (p2:aA):Option (aA×Int) :=
  J9 p0 p1 p2 0
def aMf (p0:List UInt8):Option aA :=
  some (aA.mk 2 0 p0)
def rU (p0:Int) (p1:aA) (p2:aA):Option (aA×Int) :=
  (some (if (decide (p0<1))=true then true else (decide (14<p0))))>>=fun y1=>(if (true&&(y1==false))=true then qI p1 else some default)>>=fun y2=>(some (if y1=true then true else (!y2)))>>=fun y3=>(if (true&&(y3==false))=true then qI p2 else some default)>>=fun y4=>(some (if y3=true then true else (!y4)))>>=fun y5=>if y5=true then (some ((aA.mk 0 0 []),1)) else (if (decide (p0≤2))=true then ((aHr p0 p1 p2)>>=fun y6=>some (y6.1,y6.2)) else ((some (if (decide (p1.kind=0))=true then true else (decide (p2.kind=0))))>>=fun y7=>(L9 p0 p1)>>=fun y8=>(if (true&&((!y8)==false))=true then L9 p0 p2 else some default)>>=fun y9=>(some (if (!y8)=true then true else (!y9)))>>=fun y10=>(if (true&&(y10==false))=true then some (if (decide (p0≤8))=true then (!y7) else false) else some default)>>=fun y11=>(if (true&&(y10==false))=true then some (if y11=true then (!decide (p1.kind=p2.kind)) else false) else some default)>>=fun y12=>(some (if y10=true then true else y12))>>=fun y13=>if y13=true then (some ((aA.mk 0 0 []),1)) else (if y7=true then (some ((aA.mk 0 0 []),0)) else (if (decide (p0≤8))=true then ((aBa p0 p1 p2)>>=fun y14=>some (y14,0)) else (if (!decide (p0=9))=true then ((aDr p0 p1.num p2.num)>>=fun y15=>some (y15.1,y15.2)) else (if (decide (200<(QA .i64 ((p1.text.length:Int)+(p2.text.length:Int)))))=true then (some ((aA.mk 0 0 []),2)) else ((aA9 p1.text p2.text)>>=fun y16=>(aMf y16)>>=fun y17=>some (y17,0))))))))
def aIe (p0:aA) (p1:aA) (p2:aA):Option (aA×Int) :=
  (rU 8 p0 p1)>>=fun y1=>if (!decide (y1.2=0))=true then (some ((aA.mk 0 0 []),y1.2)) else ((rU 6 p0 p2)>>=fun y2=>if (!decide (y2.2=0))=true then (some ((aA.mk 0 0 []),y2.2)) else ((rU 2 y1.1 y2.1)>>=fun y3=>some (y3.1,y3.2)))
def I8 (p1:List aA) (p0:aA) (x14:Int) (iY:Int) (iQ:Int) (iX:List UInt8):Option (aA×Int) :=
  if (decide (x14<(p1.length:Int)))=true then ((idx p1 x14)>>=fun y2=>(rU 3 p0 y2)>>=fun y3=>if (!decide (y3.2=0))=true then (some ((aA.mk 0 0 []),y3.2)) else ((rU 1 (aA.mk iY iQ iX) y3.1)>>=fun y4=>if (!decide (y4.2=0))=true then (some ((aA.mk 0 0 []),y4.2)) else (I8 p1 p0 (QA .i64 (x14+1)) y4.1.kind y4.1.num y4.1.text))) else (some ((aA.mk iY iQ iX),0))
  partial_fixpoint
def aF1 (p0:aA) (p1:List aA):Option (aA×Int) :=
  (oO false)>>=fun y1=>I8 p1 p0 0 y1.kind y1.num y1.text
def zO (p0:oM) (x4:List aA) (x42:Int):Option (aA×Int) :=
  if (decide (x42<(p0.rows.length:Int)))=true then ((idx p0.rows x42)>>=fun y8=>if (decide ((y8.length:Int)=0))=true then (some ((aA.mk 0 0 []),4)) else ((idx y8 0)>>=fun y9=>(appG 32 x4 ([y9]:List aA))>>=fun y10=>zO p0 y10 (QA .i64 (x42+1)))) else ((idx p0.kids 0)>>=fun y11=>(aF1 y11 x4)>>=fun y12=>some (y12.1,y12.2))
  partial_fixpoint
def aEn (p0:oM):Option (aA×Int) :=
  if (decide (p0.kind=6))=true then ((idx p0.kids 0)>>=fun y1=>(idx p0.kids 1)>>=fun y2=>(idx p0.kids 2)>>=fun y3=>(aIe y1 y2 y3)>>=fun y4=>some (y4.1,y4.2)) else (if (decide (p0.kind=7))=true then ((idx p0.kids 0)>>=fun y5=>(iW p0.kids 1 (p0.kids.length:Int))>>=fun y6=>(aF1 y5 y6)>>=fun y7=>some (y7.1,y7.2)) else (zO p0 ([]:List aA) 0))
def aBd (p0:Int) (p1:aA):Option (aA×Int) :=
  (qI p1)>>=fun y1=>(if (true&&((!y1)==false))=true then some (if (!decide (p0=15))=true then (!decide (p0=16)) else false) else some default)>>=fun y2=>(some (if (!y1)=true then true else y2))>>=fun y3=>if y3=true then (some ((aA.mk 0 0 []),1)) else (if (decide (p1.kind=0))=true then (some ((aA.mk 0 0 []),0)) else ((some (if (decide (p0=15))=true then (decide (p1.kind=3)) else false))>>=fun y4=>if y4=true then ((oO (decide (p1.num=0)))>>=fun y5=>some (y5,0)) else ((some (if (decide (p0=16))=true then (decide (p1.kind=1)) else false))>>=fun y6=>if y6=true then ((aDr 11 0 p1.num)>>=fun y7=>some (y7.1,y7.2)) else (some ((aA.mk 0 0 []),1)))))
def aI2 (p0:oM):Option (aA×Int) :=
  if (decide (p0.kind=1))=true then (some (p0.value,0)) else (if (decide (p0.kind=3))=true then ((idx p0.kids 0)>>=fun y1=>(aBd p0.op y1)>>=fun y2=>some (y2.1,y2.2)) else (if (decide (p0.kind=4))=true then ((idx p0.kids 0)>>=fun y3=>(idx p0.kids 1)>>=fun y4=>(rU p0.op y3 y4)>>=fun y5=>some (y5.1,y5.2)) else (if (decide (p0.kind=5))=true then ((idx p0.kids 0)>>=fun y6=>(oO (!((decide (y6.kind=0))==p0.not_)))>>=fun y7=>some (y7,0)) else (if (decide (p0.kind=9))=true then ((oO (decide (0<(p0.rows.length:Int))))>>=fun y8=>some (y8,0)) else ((aEn p0)>>=fun y9=>if (!decide (y9.2=0))=true then (some ((aA.mk 0 0 []),y9.2)) else (if p0.not_=true then ((aBd 15 y9.1)>>=fun y10=>some (y10.1,y10.2)) else (some (y9.1,0))))))))
def aCr (p0:aA):Option Bool :=
  (qI p0)>>=fun y1=>(if (true&&(y1==true))=true then some (if (!decide (p0.kind=1))=true then true else (decide (0≤p0.num))) else some default)>>=fun y2=>(some (if y1=true then y2 else false))>>=fun y3=>(some (if y3=true then (decide ((p0.text.length:Int)≤40)) else false))>>=fun y4=>some y4
def zK (p0:eO):Option (kM×Bool) :=
  if (decide (p0.kind=1))=true then ((aCr p0.value)>>=fun y1=>some ((kM.mk false false true false 0 0 0),y1)) else (if (decide (p0.kind=2))=true then ((qX p0.name)>>=fun y2=>(if ((true&&(y2==true))&&((decide (p0.qual=[]))==false))=true then qX p0.qual else some default)>>=fun y3=>(if (true&&(y2==true))=true then some (if (decide (p0.qual=[]))=true then true else y3) else some default)>>=fun y4=>(some (if y2=true then y4 else false))>>=fun y5=>some ((kM.mk false false false true 0 0 0),y5)) else (if (decide (p0.kind=3))=true then ((some (if (decide (p0.op=15))=true then true else (decide (p0.op=16))))>>=fun y6=>some ((kM.mk true false false false 1 1 0),y6)) else (if (decide (p0.kind=4))=true then ((some (if (decide (1≤p0.op))=true then (decide (p0.op≤14)) else false))>>=fun y7=>some ((kM.mk true false false false 2 2 0),y7)) else (if (decide (p0.kind=5))=true then (some ((kM.mk false true false false 1 1 0),true)) else (if (decide (p0.kind=6))=true then (some ((kM.mk false true false false 3 3 0),true)) else (if (decide (p0.kind=7))=true then (some ((kM.mk false true false false 2 9 0),true)) else (if (decide (p0.kind=8))=true then (some ((kM.mk false true false false 1 1 1),true)) else (if (decide (p0.kind=9))=true then (some ((kM.mk false false false false 0 0 1),true)) else (some ((kM.mk false false false false 0 0 0),false))))))))))
def aK1 (p0:Int) (aA1:Int):Option (kM×Bool) :=
  (zK (eO.mk p0 aA1 false (aA.mk 0 0 []) [] [120] ([]:List eO) ([]:List jJ)))>>=fun y1=>some (y1.1,y1.2)
def aO1 (p0:Int):Option (kM×Bool) :=
  if (decide (p0=4))=true then (aK1 p0 1) else (aK1 p0 15)
def aJg (p0:Int) (p1:Int) (p2:Int):Option Bool :=
  (aO1 p0)>>=fun y1=>(some (if y1.2=true then (decide (y1.1.least≤p1)) else false))>>=fun y2=>(some (if y2=true then (decide (p1≤y1.1.most)) else false))>>=fun y3=>(some (if y3=true then (decide (p2=y1.1.subs)) else false))>>=fun y4=>some y4
def aK8 (p0:List aA):Option (List aA) :=
  if (decide ((p0.length:Int)=0))=true then (some ([]:List aA)) else ((appG 32 ([]:List aA) p0)>>=fun y1=>some y1)
def aA5 (p0:List aA) (p1:List aA) (x13:Int):Option Bool :=
  if (decide (x13<(p0.length:Int)))=true then ((idx p0 x13)>>=fun y1=>(idx p1 x13)>>=fun y2=>if (!((decide (y1.kind=y2.kind))&&((decide (y1.num=y2.num))&&((decide (y1.text=y2.text))&&true))))=true then (some false) else (aA5 p0 p1 (QA .i64 (x13+1)))) else (some true)
  partial_fixpoint
def aK0 (p0:List aA) (p1:List aA):Option Bool :=
  if (!decide ((p0.length:Int)=(p1.length:Int)))=true then (some false) else (aA5 p0 p1 0)
def aP4 (p0:List aA) (c0_0:List aA):Option Bool :=
  (aK0 c0_0 p0)>>=fun y1=>some y1
def R4 (p0:List (List aA)) (c0_0:List aA) (x8:Int):Option Int :=
  if (decide (x8<(p0.length:Int)))=true then ((idx p0 x8)>>=fun y1=>(aP4 y1 c0_0)>>=fun y2=>if y2=true then (some x8) else (R4 p0 c0_0 (QA .i64 (x8+1)))) else (some (-1))
  partial_fixpoint
def aOr (p0:List (List aA)) (c0_0:List aA):Option Int :=
  R4 p0 c0_0 0
def aHo (p0:List (List aA)) (c0_0:List aA):Option Bool :=
  (aOr p0 c0_0)>>=fun y1=>some (decide (0≤y1))
mutual
def aB1 (p0:List (List aA)) (x9:Int) (qN:List (List aA)):Option (List (List aA)) :=
  aCy p0 qN (QA .i64 (x9+1))
  partial_fixpoint
def aCy (p0:List (List aA)) (x3:List (List aA)) (x9:Int):Option (List (List aA)) :=
  if (decide (x9<(p0.length:Int)))=true then ((idx p0 x9)>>=fun y1=>(aHo x3 y1)>>=fun y2=>if (!y2)=true then ((aK8 y1)>>=fun y3=>(appG 24 x3 ([y3]:List (List aA)))>>=fun y4=>aB1 p0 x9 y4) else (aB1 p0 x9 x3)) else (some x3)
  partial_fixpoint
end
def aCk (p0:List (List aA)):Option (List (List aA)) :=
  aCy p0 ([]:List (List aA)) 0
def aH7 (Z6:List (List aA)):Option ((List (List aA))×Int) :=
  some (Z6,0)
def wY (p0:eT) (vP:List (List aA)):Option ((List (List aA))×Int) :=
  (some (if (decide (0≤p0.limit))=true then (decide (p0.limit<(vP.length:Int))) else false))>>=fun y8=>if y8=true then ((iW vP 0 p0.limit)>>=fun y9=>aH7 y9) else (aH7 vP)
mutual
def aAh (p2:eT) (x12:Int) (p0:aU) (p1:aU) (x8:Int):Option Int :=
  if (!decide (x8=0))=true then (some x8) else (aAz p2 p0 p1 (QA .i64 (x12+1)))
  partial_fixpoint
def aAz (p2:eT) (p0:aU) (p1:aU) (x12:Int):Option Int :=
  if (decide (x12<(p2.order.length:Int)))=true then ((idx p2.order x12)>>=fun y1=>(idx p0.keys x12)>>=fun y2=>(idx p1.keys x12)>>=fun y3=>(aEa y2 y3)>>=fun y4=>if y1.desc=true then (aAh p2 x12 p0 p1 (QA .i64 (0 - y4))) else (aAh p2 x12 p0 p1 y4)) else (some 0)
  partial_fixpoint
end
def vD (p0:aU) (p1:aU) (p2:eT):Option Int :=
  aAz p2 p0 p1 0
mutual
def Z8 (p1:Int) (p2:Int) (p3:eX) (x8:Int) (x9:Int) (fC:List aU):Option (List aU) :=
  (if (true&&((decide (p1<x9))==true))=true then idx fC x9 else some default)>>=fun y2=>(if (true&&((decide (p1<x9))==true))=true then idx fC x9 else some default)>>=fun y3=>(if (true&&((decide (p1<x9))==true))=true then idx fC (QA .i64 (x9 - 1)) else some default)>>=fun y4=>(if (true&&((decide (p1<x9))==true))=true then idx fC (QA .i64 (x9 - 1)) else some default)>>=fun y5=>(if (true&&((decide (p1<x9))==true))=true then vD y3 y5 p3.c0 else some default)>>=fun y6=>(some (if (decide (p1<x9))=true then (decide (y6<0)) else false))>>=fun y7=>if y7=true then ((idx fC (QA .i64 (x9 - 1)))>>=fun y8=>(idx fC (QA .i64 (x9 - 1)))>>=fun y9=>(idx fC x9)>>=fun y10=>(idx fC x9)>>=fun y11=>(idx fC x9)>>=fun y12=>(pV fC x9 y9)>>=fun y13=>(idx y13 (QA .i64 (x9 - 1)))>>=fun y14=>(pV y13 (QA .i64 (x9 - 1)) y11)>>=fun y15=>Z8 p1 p2 p3 x8 (QA .i64 (x9 - 1)) y15) else (zX p1 p2 p3 (QA .i64 (x8+1)) fC)
  partial_fixpoint
def zX (p1:Int) (p2:Int) (p3:eX) (x8:Int) (bC:List aU):Option (List aU) :=
  if (decide (x8<p2))=true then (Z8 p1 p2 p3 x8 x8 bC) else (some bC)
  partial_fixpoint
end
def aEu (p0:List aU) (p1:Int) (p2:Int) (p3:eX):Option (List aU) :=
  zX p1 p2 p3 (QA .i64 (p1+1)) p0
def aHq (p1:Int) (p2:Int) (p3:Int) (x10:Int) (bC:List aU):Option (List aU) :=
  if (decide (x10<p3))=true then ((idx bC (QA .i64 (p2+x10)))>>=fun y1=>(idx bC (QA .i64 (p2+x10)))>>=fun y2=>(idx bC (QA .i64 (p1+x10)))>>=fun y3=>(idx bC (QA .i64 (p1+x10)))>>=fun y4=>(idx bC (QA .i64 (p1+x10)))>>=fun y5=>(pV bC (QA .i64 (p1+x10)) y2)>>=fun y6=>(idx y6 (QA .i64 (p2+x10)))>>=fun y7=>(pV y6 (QA .i64 (p2+x10)) y4)>>=fun y8=>aHq p1 p2 p3 (QA .i64 (x10+1)) y8) else (some bC)
  partial_fixpoint
def aJ7 (p0:List aU) (p1:Int) (p2:Int) (p3:Int) (p4:eX):Option (List aU) :=
  aHq p1 p2 p3 0 p0
def aEs (p2:Int) (p4:eX) (x10:Int) (x11:Int) (bC:List aU):Option (List aU) :=
  if (!decide (x10=x11))=true then (if (decide (x11<x10))=true then ((aJ7 bC (QA .i64 (p2 - x10)) p2 x11 p4)>>=fun y1=>aEs p2 p4 (QA .i64 (x10 - x11)) x11 y1) else ((aJ7 bC (QA .i64 (p2 - x10)) (QA .i64 ((QA .i64 (p2+x11)) - x10)) x10 p4)>>=fun y2=>aEs p2 p4 x10 (QA .i64 (x11 - x10)) y2)) else ((aJ7 bC (QA .i64 (p2 - x10)) p2 x10 p4)>>=fun y3=>some y3)
  partial_fixpoint
def aQw (p0:List aU) (p1:Int) (p2:Int) (p3:Int) (p4:eX):Option (List aU) :=
  aEs p2 p4 (QA .i64 (p2 - p1)) (QA .i64 (p3 - p2)) p0
def aIw (x10:Int) (x13:Int) (bC:List aU):Option (List aU) :=
  if (decide (x13<(QA .i64 (x10 - 1))))=true then ((idx bC (QA .i64 (x13+1)))>>=fun y14=>(idx bC (QA .i64 (x13+1)))>>=fun y15=>(idx bC x13)>>=fun y16=>(idx bC x13)>>=fun y17=>(idx bC x13)>>=fun y18=>(pV bC x13 y15)>>=fun y19=>(idx y19 (QA .i64 (x13+1)))>>=fun y20=>(pV y19 (QA .i64 (x13+1)) y17)>>=fun y21=>aIw x10 (QA .i64 (x13+1)) y21) else (some bC)
  partial_fixpoint
def aFi (p1:Int) (p4:eX) (p0:List aU) (x10:Int) (x11:Int):Option (List aU) :=
  if (decide (x10<x11))=true then ((idx p0 (QA .i64 (QB (QA .u64 (QA .i64 (x10+x11))) (2 ^ 1))))>>=fun y1=>(idx p0 (QA .i64 (QB (QA .u64 (QA .i64 (x10+x11))) (2 ^ 1))))>>=fun y2=>(idx p0 p1)>>=fun y3=>(idx p0 p1)>>=fun y4=>(vD y2 y4 p4.c0)>>=fun y5=>if (decide (y5<0))=true then (aFi p1 p4 p0 (QA .i64 ((QA .i64 (QB (QA .u64 (QA .i64 (x10+x11))) (2 ^ 1)))+1)) x11) else (aFi p1 p4 p0 x10 (QA .i64 (QB (QA .u64 (QA .i64 (x10+x11))) (2 ^ 1))))) else (aIw x10 p1 p0)
  partial_fixpoint
def aG3 (x14:Int) (x17:Int) (iL:List aU):Option (List aU) :=
  if (decide (x14<x17))=true then ((idx iL (QA .i64 (x17 - 1)))>>=fun y22=>(idx iL (QA .i64 (x17 - 1)))>>=fun y23=>(idx iL x17)>>=fun y24=>(idx iL x17)>>=fun y25=>(idx iL x17)>>=fun y26=>(pV iL x17 y23)>>=fun y27=>(idx y27 (QA .i64 (x17 - 1)))>>=fun y28=>(pV y27 (QA .i64 (x17 - 1)) y25)>>=fun y29=>aG3 x14 (QA .i64 (x17 - 1)) y29) else (some iL)
  partial_fixpoint
def aDq (p2:Int) (p4:eX) (p0:List aU) (x14:Int) (x15:Int):Option (List aU) :=
  if (decide (x14<x15))=true then ((idx p0 p2)>>=fun y6=>(idx p0 p2)>>=fun y7=>(idx p0 (QA .i64 (QB (QA .u64 (QA .i64 (x14+x15))) (2 ^ 1))))>>=fun y8=>(idx p0 (QA .i64 (QB (QA .u64 (QA .i64 (x14+x15))) (2 ^ 1))))>>=fun y9=>(vD y7 y9 p4.c0)>>=fun y10=>if (!(decide (y10<0)))=true then (aDq p2 p4 p0 (QA .i64 ((QA .i64 (QB (QA .u64 (QA .i64 (x14+x15))) (2 ^ 1)))+1)) x15) else (aDq p2 p4 p0 x14 (QA .i64 (QB (QA .u64 (QA .i64 (x14+x15))) (2 ^ 1))))) else (aG3 x14 p2 p0)
  partial_fixpoint
mutual
def aGz (p3:Int) (p4:eX) (p1:Int) (p2:Int) (dF:Int) (pW:List aU):Option (List aU) :=
  (some (if (decide ((QA .i64 (QB (QA .u64 (QA .i64 (p1+p3))) (2 ^ 1)))<(QA .i64 ((QA .i64 ((QA .i64 (QB (QA .u64 (QA .i64 (p1+p3))) (2 ^ 1)))+p2)) - dF))))=true then (decide ((QA .i64 ((QA .i64 ((QA .i64 (QB (QA .u64 (QA .i64 (p1+p3))) (2 ^ 1)))+p2)) - dF))<p3)) else false))>>=fun y41=>if y41=true then ((aEq pW (QA .i64 (QB (QA .u64 (QA .i64 (p1+p3))) (2 ^ 1))) (QA .i64 ((QA .i64 ((QA .i64 (QB (QA .u64 (QA .i64 (p1+p3))) (2 ^ 1)))+p2)) - dF)) p3 p4)>>=fun y42=>some y42) else (some pW)
  partial_fixpoint
def aNr (p1:Int) (p3:Int) (p4:eX) (dF:Int) (p2:Int) (pR:List aU):Option (List aU) :=
  (some (if (decide (p1<dF))=true then (decide (dF<(QA .i64 (QB (QA .u64 (QA .i64 (p1+p3))) (2 ^ 1))))) else false))>>=fun y38=>if y38=true then ((aEq pR p1 dF (QA .i64 (QB (QA .u64 (QA .i64 (p1+p3))) (2 ^ 1))) p4)>>=fun y39=>aGz p3 p4 p1 p2 dF y39) else (aGz p3 p4 p1 p2 dF pR)
  partial_fixpoint
def aIk (p1:Int) (p2:Int) (p3:Int) (p4:eX) (p0:List aU) (dF:Int) (iI:Int):Option (List aU) :=
  if (decide (dF<iI))=true then ((idx p0 (QA .i64 ((QA .i64 ((QA .i64 ((QA .i64 (QB (QA .u64 (QA .i64 (p1+p3))) (2 ^ 1)))+p2)) - 1)) - (QA .i64 (QB (QA .u64 (QA .i64 (dF+iI))) (2 ^ 1))))))>>=fun y30=>(idx p0 (QA .i64 ((QA .i64 ((QA .i64 ((QA .i64 (QB (QA .u64 (QA .i64 (p1+p3))) (2 ^ 1)))+p2)) - 1)) - (QA .i64 (QB (QA .u64 (QA .i64 (dF+iI))) (2 ^ 1))))))>>=fun y31=>(idx p0 (QA .i64 (QB (QA .u64 (QA .i64 (dF+iI))) (2 ^ 1))))>>=fun y32=>(idx p0 (QA .i64 (QB (QA .u64 (QA .i64 (dF+iI))) (2 ^ 1))))>>=fun y33=>(vD y31 y33 p4.c0)>>=fun y34=>if (!(decide (y34<0)))=true then (aIk p1 p2 p3 p4 p0 (QA .i64 ((QA .i64 (QB (QA .u64 (QA .i64 (dF+iI))) (2 ^ 1)))+1)) iI) else (aIk p1 p2 p3 p4 p0 dF (QA .i64 (QB (QA .u64 (QA .i64 (dF+iI))) (2 ^ 1))))) else ((some (if (decide (dF<p2))=true then (decide (p2<(QA .i64 ((QA .i64 ((QA .i64 (QB (QA .u64 (QA .i64 (p1+p3))) (2 ^ 1)))+p2)) - dF)))) else false))>>=fun y35=>if y35=true then ((aQw p0 dF p2 (QA .i64 ((QA .i64 ((QA .i64 (QB (QA .u64 (QA .i64 (p1+p3))) (2 ^ 1)))+p2)) - dF)) p4)>>=fun y36=>aNr p1 p3 p4 dF p2 y36) else (aNr p1 p3 p4 dF p2 p0))
  partial_fixpoint
def aO4 (p1:Int) (p2:Int) (p3:Int) (p4:eX) (p0:List aU) (x20:Int) (x21:Int):Option (List aU) :=
  aIk p1 p2 p3 p4 p0 x20 x21
  partial_fixpoint
def aEq (p0:List aU) (p1:Int) (p2:Int) (p3:Int) (p4:eX):Option (List aU) :=
  if (decide ((QA .i64 (p2 - p1))=1))=true then (aFi p1 p4 p0 p2 p3) else (if (decide ((QA .i64 (p3 - p2))=1))=true then (aDq p2 p4 p0 p1 p2) else (if (decide ((QA .i64 (QB (QA .u64 (QA .i64 (p1+p3))) (2 ^ 1)))<p2))=true then (aO4 p1 p2 p3 p4 p0 (QA .i64 ((QA .i64 ((QA .i64 (QB (QA .u64 (QA .i64 (p1+p3))) (2 ^ 1)))+p2)) - p3)) (QA .i64 (QB (QA .u64 (QA .i64 (p1+p3))) (2 ^ 1)))) else (aO4 p1 p2 p3 p4 p0 p1 p2)))
  partial_fixpoint
end
mutual
def aHs (p1:Int) (p2:eX) (x6:Int) (qV:List aU):Option (List aU) :=
  aIn p1 p2 (QA .i64 (x6 * 2)) qV
  partial_fixpoint
def aP7 (p1:Int) (p2:eX) (x6:Int) (nE:Int) (nL:Int) (oJ:List aU):Option (List aU) :=
  if (decide (nL≤p1))=true then ((aEq oJ nE (QA .i64 (nE+x6)) nL p2)>>=fun y7=>aP7 p1 p2 x6 nL (QA .i64 (nL+(QA .i64 (2 * x6)))) y7) else (if (decide ((QA .i64 (nE+x6))<p1))=true then ((aEq oJ nE (QA .i64 (nE+x6)) p1 p2)>>=fun y8=>aHs p1 p2 x6 y8) else (aHs p1 p2 x6 oJ))
  partial_fixpoint
def aIn (p1:Int) (p2:eX) (x6:Int) (pM:List aU):Option (List aU) :=
  if (decide (x6<p1))=true then (aP7 p1 p2 x6 0 (QA .i64 (2 * x6)) pM) else (some pM)
  partial_fixpoint
end
def aFf (p1:Int) (p2:eX) (x7:Int) (x8:Int) (bC:List aU):Option (List aU) :=
  if (decide (x8≤p1))=true then ((aEu bC x7 x8 p2)>>=fun y1=>aFf p1 p2 x8 (QA .i64 (x8+20)) y1) else ((aEu bC x7 p1 p2)>>=fun y2=>aIn p1 p2 20 y2)
  partial_fixpoint
def aP9 (p0:List aU) (p1:Int) (p2:eX):Option (List aU) :=
  aFf p1 p2 0 20 p0
def aGt (p0:List aU) (p1:eX):Option (List aU) :=
  (aP9 p0 (p0.length:Int) p1)>>=fun y1=>some y1
def Y0 (y2:List aU) (x14:List (List aA)) (x60:Int):Option ((List (List aA))×Int) :=
  if (decide (x60<(y2.length:Int)))=true then ((idx y2 x60)>>=fun y7=>(idx y2 x60)>>=fun y8=>(appG 24 x14 ([y8.row]:List (List aA)))>>=fun y9=>Y0 y2 y9 (QA .i64 (x60+1))) else (some (x14,0))
  partial_fixpoint
mutual
def aBr (y1:List aA) (p1:List (List aA)) (x20:Int) (p0:eT) (gY:List aU) (x9:List aA) (x28:Int):Option ((List (List aA))×Int) :=
  if (decide (x28<(p0.order.length:Int)))=true then ((idx p0.order x28)>>=fun y3=>(nM y1 y3.eval.c0 y3.eval.c1 y3.eval.c2 y3.eval.c3)>>=fun y4=>if (!decide (y4.2=0))=true then (some (([]:List (List aA)),y4.2)) else ((appG 32 x9 ([y4.1]:List aA))>>=fun y5=>aBr y1 p1 x20 p0 gY y5 (QA .i64 (x28+1)))) else ((appG 48 gY ([(aU.mk y1 x9)]:List aU))>>=fun y6=>U2 p1 p0 (QA .i64 (x20+1)) y6)
  partial_fixpoint
def U2 (p1:List (List aA)) (p0:eT) (x20:Int) (gY:List aU):Option ((List (List aA))×Int) :=
  if (decide (x20<(p1.length:Int)))=true then ((idx p1 x20)>>=fun y1=>aBr y1 p1 x20 p0 gY ([]:List aA) 0) else ((aGt gY (eX.mk p0))>>=fun y2=>Y0 y2 ([]:List (List aA)) 0)
  partial_fixpoint
def aHx (p0:eT) (p1:List (List aA)):Option ((List (List aA))×Int) :=
  U2 p1 p0 0 ([]:List aU)
  partial_fixpoint
def aFn (p1:List aA) (p0:List bU) (x6:List aA) (x14:Int):Option ((List aA)×Int) :=
  if (decide (x14<(p0.length:Int)))=true then ((idx p0 x14)>>=fun y1=>(nM p1 y1.c0 y1.c1 y1.c2 y1.c3)>>=fun y2=>if (!decide (y2.2=0))=true then (some (([]:List aA),y2.2)) else ((appG 32 x6 ([y2.1]:List aA))>>=fun y3=>aFn p1 p0 y3 (QA .i64 (x14+1)))) else (some (x6,0))
  partial_fixpoint
def aKz (p0:List bU) (p1:List aA):Option ((List aA)×Int) :=
  aFn p1 p0 ([]:List aA) 0
  partial_fixpoint
def aEh (p0:List aA) (p1:List bU):Option ((List aA)×Int) :=
  (aKz p1 p0)>>=fun y1=>some (y1.1,y1.2)
  partial_fixpoint
def aD5 (y2:(List (List aA))×Int) (p0:eT) (x6:List (List aA)) (x31:Int):Option ((List (List aA))×Int) :=
  if (decide (x31<(y2.1.length:Int)))=true then ((idx y2.1 x31)>>=fun y3=>(aEh y3 p0.items.c0)>>=fun y4=>if (!decide (y4.2=0))=true then (some (([]:List (List aA)),y4.2)) else ((appG 24 x6 ([y4.1]:List (List aA)))>>=fun y5=>aD5 y2 p0 y5 (QA .i64 (x31+1)))) else (if p0.distinct=true then ((aCk x6)>>=fun y6=>wY p0 y6) else (wY p0 x6))
  partial_fixpoint
def F7 (p2:List (List aA)) (p3:aJ) (p0:aQ) (p1:GDb) (gK:List aA) (oG:Int) (qJ:List (List aA)):Option (aA×Int) :=
  if (decide (oG<(p3.sub.length:Int)))=true then ((idx p3.sub oG)>>=fun y11=>(xX p0 p1 p2 y11)>>=fun y12=>if (!decide (y12.2=0))=true then (some ((aA.mk 0 0 []),y12.2)) else (F7 p2 p3 p0 p1 gK (QA .i64 (oG+1)) y12.1)) else ((aI2 (oM.mk p3.kind p3.op p3.not_ p3.value gK qJ))>>=fun y13=>some (y13.1,y13.2))
  partial_fixpoint
def aBg (p2:List (List aA)) (p3:aJ) (p0:aQ) (p1:GDb) (x81:Int) (gK:List aA):Option (aA×Int) :=
  if (decide (x81<(p3.kids.length:Int)))=true then ((idx p3.kids x81)>>=fun y8=>(uT p0 p1 p2 y8)>>=fun y9=>if (!decide (y9.2=0))=true then (some ((aA.mk 0 0 []),y9.2)) else ((appG 32 gK ([y9.1]:List aA))>>=fun y10=>aBg p2 p3 p0 p1 (QA .i64 (x81+1)) y10)) else (F7 p2 p3 p0 p1 gK 0 ([]:List (List aA)))
  partial_fixpoint
def uT (p0:aQ) (p1:GDb) (p2:List (List aA)) (p3:aJ):Option (aA×Int) :=
  (aJg p3.kind (p3.kids.length:Int) (p3.sub.length:Int))>>=fun y1=>if (!y1)=true then (some ((aA.mk 0 0 []),4)) else (if (decide (p3.kind=2))=true then ((some (if (decide (p3.up<0))=true then true else (decide ((p2.length:Int)≤p3.up))))>>=fun y2=>(some (if y2=true then true else (decide (p3.at_<0))))>>=fun y3=>(if (true&&(y3==false))=true then idx p2 p3.up else some default)>>=fun y4=>(some (if y3=true then true else (decide ((y4.length:Int)≤p3.at_))))>>=fun y5=>if y5=true then (some ((aA.mk 0 0 []),4)) else ((idx p2 p3.up)>>=fun y6=>(idx y6 p3.at_)>>=fun y7=>some (y7,0))) else (aBg p2 p3 p0 p1 0 ([]:List aA)))
  partial_fixpoint
def nM (p0:List aA) (p1:aQ) (p2:GDb) (p3:List (List aA)) (p4:aJ):Option (aA×Int) :=
  (appG 24 ([p0]:List (List aA)) p3)>>=fun y1=>(uT p1 p2 y1 p4)>>=fun y2=>some (y2.1,y2.2)
  partial_fixpoint
def aDk (y1:bU) (p1:List bU) (x15:Int) (x0:List (List aA)) (x22:Int) (qM:List (List aA)):Option ((List (List aA))×Int) :=
  X8 y1 p1 x15 x0 qM (QA .i64 (x22+1))
  partial_fixpoint
def X8 (y1:bU) (p1:List bU) (x15:Int) (x0:List (List aA)) (x8:List (List aA)) (x22:Int):Option ((List (List aA))×Int) :=
  if (decide (x22<(x0.length:Int)))=true then ((idx x0 x22)>>=fun y2=>(nM y2 y1.c0 y1.c1 y1.c2 y1.c3)>>=fun y3=>if (!decide (y3.2=0))=true then (some (([]:List (List aA)),y3.2)) else ((aI4 y3.1)>>=fun y4=>if y4=true then ((appG 24 x8 ([y2]:List (List aA)))>>=fun y5=>aDk y1 p1 x15 x0 x22 y5) else (aDk y1 p1 x15 x0 x22 x8))) else (Q7 p1 x8 (QA .i64 (x15+1)))
  partial_fixpoint
def Q7 (p1:List bU) (x0:List (List aA)) (x15:Int):Option ((List (List aA))×Int) :=
  if (decide (x15<(p1.length:Int)))=true then ((idx p1 x15)>>=fun y1=>X8 y1 p1 x15 x0 ([]:List (List aA)) 0) else (some (x0,0))
  partial_fixpoint
def aBo (p0:List (List aA)) (p1:List bU):Option ((List (List aA))×Int) :=
  Q7 p1 p0 0
  partial_fixpoint
def aBq (x19:Int) (y1:List (List aA)) (y3:List aA) (p0:eT) (x4:List (List aA)) (x27:Int) (mH:(List (List aA))×Int):Option ((List (List aA))×Int) :=
  if (decide (mH.2<(y1.length:Int)))=true then ((idx y1 mH.2)>>=fun y7=>(aHj ([y3,y7]:List (List aA)))>>=fun y8=>(appG 24 mH.1 ([y8]:List (List aA)))>>=fun y9=>aBq x19 y1 y3 p0 x4 x27 (y9,(QA .i64 (mH.2+1)))) else (K5 x19 y1 p0 x4 mH.1 (QA .i64 (x27+1)))
  partial_fixpoint
def K5 (x19:Int) (y1:List (List aA)) (p0:eT) (x4:List (List aA)) (x7:List (List aA)) (x27:Int):Option ((List (List aA))×Int) :=
  if (decide (x27<(x4.length:Int)))=true then ((idx x4 x27)>>=fun y3=>aBq x19 y1 y3 p0 x4 x27 (x7,0)) else ((idx p0.on_ x19)>>=fun y5=>(aBo x7 y5)>>=fun y6=>if (!decide (y6.2=0))=true then (some (([]:List (List aA)),y6.2)) else (R7 p0 y6.1 (QA .i64 (x19+1))))
  partial_fixpoint
def R7 (p0:eT) (x4:List (List aA)) (x19:Int):Option ((List (List aA))×Int) :=
  if (decide (x19<(p0.tables.length:Int)))=true then ((idx p0.tables x19)>>=fun y1=>K5 x19 y1 p0 x4 ([]:List (List aA)) 0) else ((aBo x4 p0.where_)>>=fun y2=>some (y2.1,y2.2))
  partial_fixpoint
def aO5 (p0:eT):Option ((List (List aA))×Int) :=
  R7 p0 ([([]:List aA)]:List (List aA)) 0
  partial_fixpoint
def aA6 (p0:eT):Option ((List (List aA))×Int) :=
  (aO5 p0)>>=fun y1=>if (!decide (y1.2=0))=true then (some (([]:List (List aA)),y1.2)) else ((aHx p0 y1.1)>>=fun y2=>if (!decide (y2.2=0))=true then (some (([]:List (List aA)),y2.2)) else (aD5 y2 p0 ([]:List (List aA)) 0))
  partial_fixpoint
def aAw (p0:aQ) (p1:GDb) (p2:List (List aA)) (p3:aP) (eH:List (List (List aA))) (gU:List (List bU)) (ky9:(List bU)×Int×(List mU)):Option ((List (List aA))×Int) :=
  if (decide (ky9.2.1<(p3.order.length:Int)))=true then ((idx p3.order ky9.2.1)>>=fun y10=>(K4 ([y10.expr]:List aJ) ((nS.mk p0 p1 p2).c0) ((nS.mk p0 p1 p2).c1) ((nS.mk p0 p1 p2).c2))>>=fun y11=>(idx y11 0)>>=fun y12=>(appG 16 ky9.2.2 ([(mU.mk y12 y10.desc)]:List mU))>>=fun y13=>aAw p0 p1 p2 p3 eH gU (ky9.1,(QA .i64 (ky9.2.1+1)),y13)) else ((K4 p3.items ((nS.mk p0 p1 p2).c0) ((nS.mk p0 p1 p2).c1) ((nS.mk p0 p1 p2).c2))>>=fun y14=>(aA6 (eT.mk eH gU ky9.1 ky9.2.2 (O8.mk y14) p3.distinct p3.limit))>>=fun y15=>some (y15.1,y15.2))
  partial_fixpoint
def P8 (p0:aQ) (p1:GDb) (p2:List (List aA)) (p3:aP) (eH:List (List (List aA))) (x69:Int) (gU:List (List bU)):Option ((List (List aA))×Int) :=
  if (decide (x69<(p3.on_.length:Int)))=true then ((idx p3.on_ x69)>>=fun y6=>(K4 y6 ((nS.mk p0 p1 p2).c0) ((nS.mk p0 p1 p2).c1) ((nS.mk p0 p1 p2).c2))>>=fun y7=>(appG 24 gU ([y7]:List (List bU)))>>=fun y8=>P8 p0 p1 p2 p3 eH (QA .i64 (x69+1)) y8) else ((K4 p3.where_ ((nS.mk p0 p1 p2).c0) ((nS.mk p0 p1 p2).c1) ((nS.mk p0 p1 p2).c2))>>=fun y9=>aAw p0 p1 p2 p3 eH gU (y9,0,([]:List mU)))
  partial_fixpoint
def aB8 (p3:aP) (p0:aQ) (p1:GDb) (p2:List (List aA)) (x40:Int) (eH:List (List (List aA))):Option ((List (List aA))×Int) :=
  if (decide (x40<(p3.tables.length:Int)))=true then ((idx p3.tables x40)>>=fun y2=>(some (if (decide (y2<0))=true then true else (decide ((p1.tables.length:Int)≤y2))))>>=fun y3=>if y3=true then (some (([]:List (List aA)),4)) else ((idx p1.tables y2)>>=fun y4=>(appG 24 eH ([y4.rows]:List (List (List aA))))>>=fun y5=>aB8 p3 p0 p1 p2 (QA .i64 (x40+1)) y5)) else (P8 p0 p1 p2 p3 eH 0 ([]:List (List bU)))
  partial_fixpoint
def xX (p0:aQ) (p1:GDb) (p2:List (List aA)) (p3:aP):Option ((List (List aA))×Int) :=
  (some (if (decide ((p3.tables.length:Int)=0))=true then true else (!decide ((p3.on_.length:Int)=(p3.tables.length:Int)))))>>=fun y1=>if y1=true then (some (([]:List (List aA)),4)) else (aB8 p3 p0 p1 p2 0 ([]:List (List (List aA))))
  partial_fixpoint
end
def aPx (p0:Int) (p1:Int):Option Bool :=
  (some (if (decide (p0≤24))=true then (decide (p1≤200)) else false))>>=fun y1=>some y1
def yV (p0:aP) (eZ:List aJ) (x27:Int):Option (List aJ) :=
  if (decide (x27<(p0.order.length:Int)))=true then ((idx p0.order x27)>>=fun y5=>(appG 120 eZ ([y5.expr]:List aJ))>>=fun y6=>yV p0 y6 (QA .i64 (x27+1))) else ((appG 120 eZ p0.items)>>=fun y7=>some y7)
  partial_fixpoint
def aBh (p0:aP) (x3:List aJ) (x12:Int):Option (List aJ) :=
  if (decide (x12<(p0.on_.length:Int)))=true then ((idx p0.on_ x12)>>=fun y1=>(appG 120 x3 y1)>>=fun y2=>aBh p0 y2 (QA .i64 (x12+1))) else ((appG 120 x3 p0.where_)>>=fun y3=>yV p0 y3 0)
  partial_fixpoint
def aDn (p0:aP):Option (List aJ) :=
  aBh p0 ([]:List aJ) 0
mutual
def V4 (p0:aJ) (x3:Int) (x12:Int):Option Int :=
  if (decide (x12<(p0.sub.length:Int)))=true then ((idx p0.sub x12)>>=fun y2=>(wT y2)>>=fun y3=>V4 p0 (if y3>x3 then y3 else x3) (QA .i64 (x12+1))) else (some (QA .i64 (1+x3)))
  partial_fixpoint
def yL (p0:aJ):Option Int :=
  (F5 p0.kids)>>=fun y1=>V4 p0 y1 0
  partial_fixpoint
def U7 (p0:List aJ) (x3:Int) (x8:Int):Option Int :=
  if (decide (x8<(p0.length:Int)))=true then ((idx p0 x8)>>=fun y1=>(yL y1)>>=fun y2=>U7 p0 (if y2>x3 then y2 else x3) (QA .i64 (x8+1))) else (some x3)
  partial_fixpoint
def F5 (p0:List aJ):Option Int :=
  U7 p0 0 0
  partial_fixpoint
def wT (p0:aP):Option Int :=
  (aDn p0)>>=fun y1=>(F5 y1)>>=fun y2=>some y2
  partial_fixpoint
end
mutual
def Z5 (p0:aJ) (x3:Int) (x13:Int):Option Int :=
  if (decide (x13<(p0.sub.length:Int)))=true then ((idx p0.sub x13)>>=fun y2=>(wN y2)>>=fun y3=>Z5 p0 (QA .i64 (x3+y3)) (QA .i64 (x13+1))) else (some x3)
  partial_fixpoint
def yE (p0:aJ):Option Int :=
  (P7 p0.kids)>>=fun y1=>Z5 p0 (QA .i64 (1+y1)) 0
  partial_fixpoint
def aBf (p0:List aJ) (x3:Int) (x8:Int):Option Int :=
  if (decide (x8<(p0.length:Int)))=true then ((idx p0 x8)>>=fun y1=>(yE y1)>>=fun y2=>aBf p0 (QA .i64 (x3+y2)) (QA .i64 (x8+1))) else (some x3)
  partial_fixpoint
def P7 (p0:List aJ):Option Int :=
  aBf p0 0 0
  partial_fixpoint
def wN (p0:aP):Option Int :=
  (aDn p0)>>=fun y1=>(P7 y1)>>=fun y2=>some y2
  partial_fixpoint
end
def aHw (p0:List aJ):Option Bool :=
  some (decide (1<(p0.length:Int)))
def M3 (p0:List (List aJ)) (x8:Int):Option Int :=
  if (decide (x8<(p0.length:Int)))=true then ((idx p0 x8)>>=fun y1=>(aHw y1)>>=fun y2=>if y2=true then (some x8) else (M3 p0 (QA .i64 (x8+1)))) else (some (-1))
  partial_fixpoint
def aO2 (p0:List (List aJ)):Option Int :=
  M3 p0 0
def aGo (p0:List (List aJ)):Option Bool :=
  (aO2 p0)>>=fun y1=>some (decide (0≤y1))
def aJx (p0:List UInt8):Option Bool :=
  (qX p0)>>=fun y1=>some (!y1)
def X3 (p0:List (List UInt8)) (x8:Int):Option Int :=
  if (decide (x8<(p0.length:Int)))=true then ((idx p0 x8)>>=fun y1=>(aJx y1)>>=fun y2=>if y2=true then (some x8) else (X3 p0 (QA .i64 (x8+1)))) else (some (-1))
  partial_fixpoint
def aOt (p0:List (List UInt8)):Option Int :=
  X3 p0 0
def aIp (p0:List (List UInt8)):Option Bool :=
  (aOt p0)>>=fun y1=>some (decide (0≤y1))
def aGu (p0:aP):Option Bool :=
  (some (if (decide ((p0.tables.length:Int)<1))=true then true else (decide (3<(p0.tables.length:Int)))))>>=fun y1=>(some (if y1=true then true else (!decide ((p0.on_.length:Int)=(p0.tables.length:Int)))))>>=fun y2=>(if (true&&(y2==false))=true then idx p0.on_ 0 else some default)>>=fun y3=>(some (if y2=true then true else (decide (0<(y3.length:Int)))))>>=fun y4=>(some (if y4=true then true else (decide (1<(p0.where_.length:Int)))))>>=fun y5=>(some (if y5=true then true else (decide (12<(p0.order.length:Int)))))>>=fun y6=>if y6=true then (some false) else ((some (if (decide (1≤(p0.items.length:Int)))=true then (decide ((p0.items.length:Int)≤12)) else false))>>=fun y7=>(some (if y7=true then (decide ((p0.names.length:Int)=(p0.items.length:Int))) else false))>>=fun y8=>(some (if y8=true then (decide ((-1)≤p0.limit)) else false))>>=fun y9=>(if (true&&(y9==true))=true then aGo p0.on_ else some default)>>=fun y10=>(some (if y9=true then (!y10) else false))>>=fun y11=>(if (true&&(y11==true))=true then aIp p0.names else some default)>>=fun y12=>(some (if y11=true then (!y12) else false))>>=fun y13=>some y13)
def aB3 (p0:Int):Option Bool :=
  (some (if (decide (p0=0))=true then true else (decide (p0=3))))>>=fun y1=>some y1
def aD6 (p0:aJ):Option Bool :=
  (zK (eO.mk p0.kind p0.op false p0.value [] [120] ([]:List eO) ([]:List jJ)))>>=fun y1=>(if (true&&(y1.2==true))=true then some (if y1.1.op=true then true else (decide (p0.op=0))) else some default)>>=fun y2=>(some (if y1.2=true then y2 else false))>>=fun y3=>(if (true&&(y3==true))=true then some (if y1.1.not_=true then true else (!p0.not_)) else some default)>>=fun y4=>(some (if y3=true then y4 else false))>>=fun y5=>(if (true&&(y5==true))=true then some (if y1.1.value=true then true else ((decide (p0.value.kind=0))&&((decide (p0.value.num=0))&&((decide (p0.value.text=[]))&&true)))) else some default)>>=fun y6=>(some (if y5=true then y6 else false))>>=fun y7=>(if ((true&&(y7==true))&&(y1.1.name==false))=true then some (if (decide (p0.up=0))=true then (decide (p0.at_=0)) else false) else some default)>>=fun y8=>(if (true&&(y7==true))=true then some (if y1.1.name=true then true else y8) else some default)>>=fun y9=>(some (if y7=true then y9 else false))>>=fun y10=>(some (if y10=true then (decide (y1.1.least≤(p0.kids.length:Int))) else false))>>=fun y11=>(some (if y11=true then (decide ((p0.kids.length:Int)≤y1.1.most)) else false))>>=fun y12=>(some (if y12=true then (decide ((p0.sub.length:Int)=y1.1.subs)) else false))>>=fun y13=>some y13
def aCv (p0:Int) (p1:Int) (p2:Int):Option Bool :=
  (some (if (decide (p1=p0))=true then true else (decide (p1=0))))>>=fun y1=>(if (true&&(y1==true))=true then some (if (decide (p2=p0))=true then true else (decide (p2=0))) else some default)>>=fun y2=>(some (if y1=true then y2 else false))>>=fun y3=>some y3
def S9 (x8:Int) (x9:Bool):Option (Int×Bool) :=
  if (!x9)=true then (some (0,false)) else (some (x8,true))
def aIh (p0:Int):Option Bool :=
  (some (if (decide (0≤p0))=true then (decide (p0≤3)) else false))>>=fun y1=>some y1
def aEr (p0:Int) (p1:Int):Option (Int×Bool) :=
  (aIh p0)>>=fun y1=>(if (true&&((!y1)==false))=true then aIh p1 else some default)>>=fun y2=>(some (if (!y1)=true then true else (!y2)))>>=fun y3=>if y3=true then (some (0,false)) else (if (decide (p0=0))=true then (some (p1,true)) else ((some (if (decide (p1=0))=true then true else (decide (p0=p1))))>>=fun y4=>if y4=true then (some (p0,true)) else (some (0,false))))
def aJd (p0:Int) (p1:Int) (p2:Int):Option (Int×Bool) :=
  (some (if (decide (p0<1))=true then true else (decide (14<p0))))>>=fun y1=>if y1=true then (S9 0 false) else (if (decide (p0≤2))=true then ((aB3 p1)>>=fun y2=>(if (true&&(y2==true))=true then aB3 p2 else some default)>>=fun y3=>(some (if y2=true then y3 else false))>>=fun y4=>S9 3 y4) else (if (decide (p0≤8))=true then ((aEr p1 p2)>>=fun y5=>S9 3 y5.2) else (if (decide (p0=9))=true then ((aCv 2 p1 p2)>>=fun y6=>S9 2 y6) else ((aCv 1 p1 p2)>>=fun y7=>S9 1 y7))))
def aIc (p0:List Int):Option (List Int) :=
  if (decide ((p0.length:Int)=0))=true then (some ([]:List Int)) else ((appG 8 ([]:List Int) p0)>>=fun y1=>some y1)
def Y3 (p0:List Int) (x4:Int) (x11:Int):Option (Int×Bool) :=
  if (decide (x11<(p0.length:Int)))=true then ((idx p0 x11)>>=fun y1=>(aEr x4 y1)>>=fun y2=>if (!y2.2)=true then (some (0,false)) else (Y3 p0 y2.1 (QA .i64 (x11+1)))) else (some (x4,true))
  partial_fixpoint
def aKd (p0:List Int):Option (Int×Bool) :=
  Y3 p0 0 0
def V7 (p1:List Int) (p2:List Int) (x40:Bool):Option (Int×Bool) :=
  if x40=true then (some (3,true)) else ((aIc p1)>>=fun y6=>(appG 8 y6 p2)>>=fun y7=>(aKd y7)>>=fun y8=>if (!y8.2)=true then (some (0,false)) else (some (3,true)))
def aH6 (p0:Int) (p1:Int):Option (Int×Bool) :=
  (if (true&&((decide (p0=15))==true))=true then aB3 p1 else some default)>>=fun y1=>(some (if (decide (p0=15))=true then y1 else false))>>=fun y2=>if y2=true then (some (3,true)) else ((if (true&&((decide (p0=16))==true))=true then aCv 1 p1 p1 else some default)>>=fun y3=>(some (if (decide (p0=16))=true then y3 else false))>>=fun y4=>if y4=true then (some (1,true)) else (some (0,false)))
def wH (p0:aJ) (p1:List Int) (p2:List Int):Option (Int×Bool) :=
  if (decide (p0.kind=1))=true then (some (p0.value.kind,true)) else (if (decide (p0.kind=3))=true then ((idx p1 0)>>=fun y1=>(aH6 p0.op y1)>>=fun y2=>some (y2.1,y2.2)) else (if (decide (p0.kind=4))=true then ((idx p1 0)>>=fun y3=>(idx p1 1)>>=fun y4=>(aJd p0.op y3 y4)>>=fun y5=>some (y5.1,y5.2)) else (if (decide (p0.kind=5))=true then (V7 p1 p2 (decide (p0.kind=5))) else (V7 p1 p2 (decide (p0.kind=9))))))
def aFq (p0:List Int) (p1:List (List Int)):Option (List (List Int)) :=
  (appG 24 ([p0]:List (List Int)) p1)>>=fun y1=>some y1
def O7 (p1:List Int) (p0:aQ) (x6:List Int) (x12:Int):Option ((List Int)×Bool) :=
  if (decide (x12<(p1.length:Int)))=true then ((idx p1 x12)>>=fun y1=>(some (if (decide (y1<0))=true then true else (decide ((p0.tables.length:Int)≤y1))))>>=fun y2=>if y2=true then (some (([]:List Int),false)) else ((idx p0.tables y1)>>=fun y3=>(J5 y3)>>=fun y4=>(appG 8 x6 y4)>>=fun y5=>O7 p1 p0 y5 (QA .i64 (x12+1)))) else (some (x6,true))
  partial_fixpoint
def aDl (p0:aQ) (p1:List Int):Option ((List Int)×Bool) :=
  O7 p1 p0 ([]:List Int) 0
mutual
def A9 (y9:List (List Int)) (p2:aP) (p0:aQ) (x19:List Int) (x95:Int):Option ((List Int)×Bool) :=
  if (decide (x95<(p2.items.length:Int)))=true then ((idx p2.items x95)>>=fun y13=>(M9 p0 y9 y13)>>=fun y14=>if (!y14.2)=true then (some (([]:List Int),false)) else ((appG 8 x19 ([y14.1]:List Int))>>=fun y15=>A9 y9 p2 p0 y15 (QA .i64 (x95+1)))) else (some (x19,true))
  partial_fixpoint
def O3 (y9:List (List Int)) (p2:aP) (p0:aQ) (x76:Int):Option ((List Int)×Bool) :=
  if (decide (x76<(p2.order.length:Int)))=true then ((idx p2.order x76)>>=fun y11=>(M9 p0 y9 y11.expr)>>=fun y12=>if (!y12.2)=true then (some (([]:List Int),false)) else (O3 y9 p2 p0 (QA .i64 (x76+1)))) else (A9 y9 p2 p0 ([]:List Int) 0)
  partial_fixpoint
def D8 (p1:List (List Int)) (x8:List Int) (p2:aJ) (p0:aQ) (x9:List Int) (x85:Int):Option (Int×Bool) :=
  if (decide (x85<(p2.sub.length:Int)))=true then ((idx p2.sub x85)>>=fun y11=>(aFr p0 p1 y11)>>=fun y12=>(if (true&&((!y12.2)==false))=true then some (if (decide (p2.kind=8))=true then (!decide ((y12.1.length:Int)=1)) else false) else some default)>>=fun y13=>(some (if (!y12.2)=true then true else y13))>>=fun y14=>if y14=true then (some (0,false)) else (D8 p1 x8 p2 p0 y12.1 (QA .i64 (x85+1)))) else ((wH p2 x8 x9)>>=fun y15=>some (y15.1,y15.2))
  partial_fixpoint
def vJ (p1:List (List Int)) (p2:aJ) (p0:aQ) (x8:List Int) (x64:Int):Option (Int×Bool) :=
  if (decide (x64<(p2.kids.length:Int)))=true then ((idx p2.kids x64)>>=fun y8=>(M9 p0 p1 y8)>>=fun y9=>if (!y9.2)=true then (some (0,false)) else ((appG 8 x8 ([y9.1]:List Int))>>=fun y10=>vJ p1 p2 p0 y10 (QA .i64 (x64+1)))) else (D8 p1 x8 p2 p0 ([]:List Int) 0)
  partial_fixpoint
def M9 (p0:aQ) (p1:List (List Int)) (p2:aJ):Option (Int×Bool) :=
  (aD6 p2)>>=fun y1=>if (!y1)=true then (some (0,false)) else (if (decide (p2.kind=2))=true then ((some (if (decide (p2.up<0))=true then true else (decide ((p1.length:Int)≤p2.up))))>>=fun y2=>(some (if y2=true then true else (decide (p2.at_<0))))>>=fun y3=>(if (true&&(y3==false))=true then idx p1 p2.up else some default)>>=fun y4=>(some (if y3=true then true else (decide ((y4.length:Int)≤p2.at_))))>>=fun y5=>if y5=true then (some (0,false)) else ((idx p1 p2.up)>>=fun y6=>(idx y6 p2.at_)>>=fun y7=>some (y7,true))) else (vJ p1 p2 p0 ([]:List Int) 0))
  partial_fixpoint
def aKl (p0:aJ) (p1:aQ) (c1_0:List (List Int)):Option Bool :=
  (M9 p1 c1_0 p0)>>=fun y1=>(if (true&&((!y1.2)==false))=true then aB3 y1.1 else some default)>>=fun y2=>(some (if (!y1.2)=true then true else (!y2)))>>=fun y3=>some y3
  partial_fixpoint
def aAn (p0:List aJ) (c0:aQ) (c1_0:List (List Int)) (x8:Int):Option Int :=
  if (decide (x8<(p0.length:Int)))=true then ((idx p0 x8)>>=fun y1=>(aKl y1 c0 c1_0)>>=fun y2=>if y2=true then (some x8) else (aAn p0 c0 c1_0 (QA .i64 (x8+1)))) else (some (-1))
  partial_fixpoint
def aKu (p0:List aJ) (c0:aQ) (c1_0:List (List Int)):Option Int :=
  aAn p0 c0 c1_0 0
  partial_fixpoint
def aNw (p0:List aJ) (c0:aQ) (c1_0:List (List Int)):Option Bool :=
  (aKu p0 c0 c1_0)>>=fun y1=>some (decide (0≤y1))
  partial_fixpoint
def aD7 (p0:aQ) (p1:List (List Int)) (p2:List aJ):Option Bool :=
  (aNw p2 p0 p1)>>=fun y1=>some (!y1)
  partial_fixpoint
def aBy (p1:List (List Int)) (y1:(List Int)×Bool) (p2:aP) (p0:aQ) (x41:Int):Option ((List Int)×Bool) :=
  if (decide (x41<(p2.on_.length:Int)))=true then ((idx p2.on_ x41)>>=fun y4=>(iW p2.tables 0 (QA .i64 (x41+1)))>>=fun y5=>(aDl p0 y5)>>=fun y6=>(aFq y6.1 p1)>>=fun y7=>(aD7 p0 y7 y4)>>=fun y8=>if (!y8)=true then (some (([]:List Int),false)) else (aBy p1 y1 p2 p0 (QA .i64 (x41+1)))) else ((aFq y1.1 p1)>>=fun y9=>(aD7 p0 y9 p2.where_)>>=fun y10=>if (!y10)=true then (some (([]:List Int),false)) else (O3 y9 p2 p0 0))
  partial_fixpoint
def aFr (p0:aQ) (p1:List (List Int)) (p2:aP):Option ((List Int)×Bool) :=
  (aDl p0 p2.tables)>>=fun y1=>(if (true&&((!y1.2)==false))=true then aGu p2 else some default)>>=fun y2=>(some (if (!y1.2)=true then true else (!y2)))>>=fun y3=>if y3=true then (some (([]:List Int),false)) else (aBy p1 y1 p2 p0 0)
  partial_fixpoint
end
def aF8 (p0:aQ) (p1:aP):Option Bool :=
  (aDh p0)>>=fun y1=>(if (true&&((!y1)==false))=true then wT p1 else some default)>>=fun y2=>(if (true&&((!y1)==false))=true then wN p1 else some default)>>=fun y3=>(if (true&&((!y1)==false))=true then aPx y2 y3 else some default)>>=fun y4=>(some (if (!y1)=true then true else (!y4)))>>=fun y5=>if y5=true then (some false) else ((aFr p0 ([]:List (List Int)) p1)>>=fun y6=>some y6.2)
def aAv (p0:aQ) (p1:GDb) (p2:aP):Option ((List (List aA))×Int) :=
  (aF8 p0 p2)>>=fun y1=>(if (true&&((!y1)==false))=true then aE1 p0 p1 else some default)>>=fun y2=>(some (if (!y1)=true then true else (!y2)))>>=fun y3=>if y3=true then (some (([]:List (List aA)),4)) else ((xX p0 p1 ([]:List (List aA)) p2)>>=fun y4=>some (y4.1,y4.2))
def yY (p1:List UInt8) (p0:eD) (x5:Int):Option Int :=
  if (decide (x5<(p0.cols.length:Int)))=true then ((idx p0.cols x5)>>=fun y1=>if (decide (y1.name=p1))=true then (some x5) else (yY p1 p0 (QA .i64 (x5+1)))) else (some (-1))
  partial_fixpoint
def xL (p0:eD) (p1:List UInt8):Option Int :=
  yY p1 p0 0
def fI (p0:Int) (p1:Int) (p2:Int):Option Bool :=
  (some (if (decide (p1≤p0))=true then (decide (p0≤p2)) else false))>>=fun y1=>some y1
def nY (p0:List UInt8):Option Bool :=
  (fI (p0.length:Int) 1 20)>>=fun y1=>some y1
def N9 (p1:List UInt8) (p0:aQ) (x5:Int):Option Int :=
  if (decide (x5<(p0.tables.length:Int)))=true then ((idx p0.tables x5)>>=fun y1=>if (decide (y1.name=p1))=true then (some x5) else (N9 p1 p0 (QA .i64 (x5+1)))) else (some (-1))
  partial_fixpoint
def wE (p0:aQ) (p1:List UInt8):Option Int :=
  N9 p1 p0 0
mutual
def yZ (x3:Int) (p0:aQ) (y1:eD) (x5:Int):Option Bool :=
  if (decide (x5<(y1.cols.length:Int)))=true then ((idx y1.cols x5)>>=fun y7=>(nY y7.name)>>=fun y8=>(if (true&&((!y8)==false))=true then idx y1.cols x5 else some default)>>=fun y9=>(if (true&&((!y8)==false))=true then xL y1 y9.name else some default)>>=fun y10=>(some (if (!y8)=true then true else (!decide (y10=x5))))>>=fun y11=>(if (true&&(y11==false))=true then idx y1.cols x5 else some default)>>=fun y12=>(if (true&&(y11==false))=true then fI y12.type 1 3 else some default)>>=fun y13=>(some (if y11=true then true else (!y13)))>>=fun y14=>if y14=true then (some false) else (yZ x3 p0 y1 (QA .i64 (x5+1)))) else (U8 p0 (QA .i64 (x3+1)))
  partial_fixpoint
def U8 (p0:aQ) (x3:Int):Option Bool :=
  if (decide (x3<(p0.tables.length:Int)))=true then ((idx p0.tables x3)>>=fun y1=>(nY y1.name)>>=fun y2=>(if (true&&((!y2)==false))=true then wE p0 y1.name else some default)>>=fun y3=>(some (if (!y2)=true then true else (!decide (y3=x3))))>>=fun y4=>(if (true&&(y4==false))=true then fI (y1.cols.length:Int) 1 4 else some default)>>=fun y5=>(some (if y4=true then true else (!y5)))>>=fun y6=>if y6=true then (some false) else (yZ x3 p0 y1 0)) else (some true)
  partial_fixpoint
end
def aFe (p0:aQ):Option Bool :=
  if (decide (4<(p0.tables.length:Int)))=true then (some false) else (U8 p0 0)
def kW (p0:aA):Option Bool :=
  if (decide (p0.kind=0))=true then ((some (if (decide (p0.num=0))=true then (decide (p0.text=[])) else false))>>=fun y1=>some y1) else (if (decide (p0.kind=1))=true then (some (decide (p0.text=[]))) else (if (decide (p0.kind=2))=true then ((some (if (decide (p0.num=0))=true then (decide ((p0.text.length:Int)≤200)) else false))>>=fun y2=>some y2) else (if (decide (p0.kind=3))=true then ((fI p0.num 0 1)>>=fun y3=>(some (if y3=true then (decide (p0.text=[])) else false))>>=fun y4=>some y4) else (some false))))
def aE5 (p0:aA) (p1:Int):Option Bool :=
  (kW p0)>>=fun y1=>(if (true&&(y1==true))=true then some (if (decide (p0.kind=0))=true then true else (decide (p0.kind=p1))) else some default)>>=fun y2=>(some (if y1=true then y2 else false))>>=fun y3=>some y3
def K7 (p0:List aA) (p1:List Int) (x5:Int):Option Bool :=
  if (decide (x5<(p0.length:Int)))=true then ((idx p0 x5)>>=fun y1=>(idx p1 x5)>>=fun y2=>(aE5 y1 y2)>>=fun y3=>if (!y3)=true then (some false) else (K7 p0 p1 (QA .i64 (x5+1)))) else (some true)
  partial_fixpoint
def aFl (p0:List aA) (p1:List Int):Option Bool :=
  if (!decide ((p0.length:Int)=(p1.length:Int)))=true then (some false) else (K7 p0 p1 0)
def vU (p0:eD) (x3:List Int) (x4:Int):Option (List Int) :=
  if (decide (x4<(p0.cols.length:Int)))=true then ((idx p0.cols x4)>>=fun y1=>(appG 8 x3 ([y1.type]:List Int))>>=fun y2=>vU p0 y2 (QA .i64 (x4+1))) else (some x3)
  partial_fixpoint
def A7 (p0:eD):Option (List Int) :=
  vU p0 ([]:List Int) 0
mutual
def zF (x5:Int) (p0:aQ) (p1:GDb) (x6:Int):Option Bool :=
  (idx p1.tables x5)>>=fun y4=>if (decide (x6<(y4.rows.length:Int)))=true then ((idx p1.tables x5)>>=fun y5=>(idx y5.rows x6)>>=fun y6=>(idx p0.tables x5)>>=fun y7=>(A7 y7)>>=fun y8=>(aFl y6 y8)>>=fun y9=>if (!y9)=true then (some false) else (zF x5 p0 p1 (QA .i64 (x6+1)))) else (aAc p0 p1 (QA .i64 (x5+1)))
  partial_fixpoint
def aAc (p0:aQ) (p1:GDb) (x5:Int):Option Bool :=
  if (decide (x5<(p1.tables.length:Int)))=true then ((idx p1.tables x5)>>=fun y3=>if (decide (6<(y3.rows.length:Int)))=true then (some false) else (zF x5 p0 p1 0)) else (some true)
  partial_fixpoint
end
def H7 (p0:aQ) (p1:GDb):Option Bool :=
  (aFe p0)>>=fun y1=>(some (if (!y1)=true then true else (!decide ((p1.tables.length:Int)=(p0.tables.length:Int)))))>>=fun y2=>if y2=true then (some false) else (aAc p0 p1 0)
def aG7 (y1:aL×aQ×GDb×aP) (nI:List aJ) (zJ:List fJ):Option (aQ×GDb×aP) :=
  some (y1.2.1,(GDb.mk zJ),(aP.mk y1.2.2.2.tables y1.2.2.2.on_ y1.2.2.2.where_ y1.2.2.2.order nI y1.2.2.2.names y1.2.2.2.distinct y1.2.2.2.limit))
def aGj (p0:aL) (x3:Int) (dJ:Int):Option (Int×aL) :=
  some (x3,(aL.mk p0.b dJ (QA .i64 ((QA .i64 (p0.h * 6364136223846793005))+1442695040888963407))))
def H9 (p0:aL):Option (Int×aL) :=
  if (decide (p0.i<(p0.b.length:Int)))=true then ((idx p0.b p0.i)>>=fun y1=>aGj p0 (QA .i64 ((BitVec.ofInt (QC .i64) (QA .i64 ((QA .i64 ((BitVec.ofInt (QC .i64) (QA .i64 ((BitVec.ofInt (QC .i64) (QB (QA .i64 ((QA .i64 (p0.h * 6364136223846793005))+1442695040888963407)) (2 ^ 33)) ^^^ BitVec.ofInt (QC .i64) (QB (QA .i64 ((QA .i64 (p0.h * 6364136223846793005))+1442695040888963407)) (2 ^ 45))).toNat:Int)) &&& BitVec.ofInt (QC .i64) 255).toNat:Int))+(QA .i64 y1))) &&& BitVec.ofInt (QC .i64) 255).toNat:Int)) (QA .i64 (p0.i+1))) else (aGj p0 (QA .i64 ((BitVec.ofInt (QC .i64) (QA .i64 ((BitVec.ofInt (QC .i64) (QB (QA .i64 ((QA .i64 (p0.h * 6364136223846793005))+1442695040888963407)) (2 ^ 33)) ^^^ BitVec.ofInt (QC .i64) (QB (QA .i64 ((QA .i64 (p0.h * 6364136223846793005))+1442695040888963407)) (2 ^ 45))).toNat:Int)) &&& BitVec.ofInt (QC .i64) 255).toNat:Int)) p0.i)
def gZ (p0:aL) (p1:Int):Option (Int×aL) :=
  if (decide (p1≤0))=true then (some (0,p0)) else (if (decide (p1≤256))=true then ((H9 p0)>>=fun y1=>(xV y1.1 p1)>>=fun y2=>some (y2,y1.2)) else ((H9 p0)>>=fun y3=>(H9 y3.2)>>=fun y4=>(H9 y4.2)>>=fun y5=>(H9 y5.2)>>=fun y6=>(xV (QA .i64 ((QA .i64 ((QA .i64 ((QA .i64 (y3.1 * 16777216))+(QA .i64 (y4.1 * 65536))))+(QA .i64 (y5.1 * 256))))+y6.1)) p1)>>=fun y7=>some (y7,y6.2)))
def iC (p0:aL) (p1:Int):Option (Bool×aL) :=
  (gZ p0 p1)>>=fun y1=>some ((decide (y1.1=0)),y1.2)
def aDp (y1:aL×aQ×GDb×aP) (Q9:List Int) (U0:Int) (Y6:Int) (nI:List aJ):Option (aQ×GDb×aP) :=
  (iC (aL.mk Q9 U0 Y6) 12)>>=fun y5=>if y5.1=true then ((appG 24 y1.2.2.1.tables ([(fJ.mk ([]:List (List aA)))]:List fJ))>>=fun y6=>aG7 y1 nI y6) else (aG7 y1 nI y1.2.2.1.tables)
def wJ (p1:aJ) (bV:Int) (jS:Int) (nQ:Bool) (F6:Int) (yH:Int) (H6:List UInt8) (I4:Int) (nN:Int) (dV:List Int) (dJ:Int) (dU:Int) (G5:List aP):Option (aJ×aL) :=
  some ((aJ.mk bV jS nQ (aA.mk F6 yH H6) I4 nN p1.kids G5),(aL.mk dV dJ dU))
def O6 (p0:aL) (p1:List Int):Option (Int×aL) :=
  (gZ p0 (p1.length:Int))>>=fun y1=>(idx p1 y1.1)>>=fun y2=>some (y2,y1.2)
def wL (p0:aL):Option (Int×aL) :=
  (gZ p0 3)>>=fun y1=>if (decide (y1.1=0))=true then ((O6 y1.2 ([0,1,(-1),63,64,(-64),(-65),127,128,16383,16384,9223372036854775807,(-9223372036854775808),4611686018427387904]:List Int))>>=fun y2=>some (y2.1,y2.2)) else (if (decide (y1.1=1))=true then ((gZ y1.2 1000000)>>=fun y3=>some ((QA .i64 (y3.1 - 500000)),y3.2)) else ((gZ y1.2 20)>>=fun y4=>some (y4.1,y4.2)))
def tF (p0:aL) (p1:List (List UInt8)):Option ((List UInt8)×aL) :=
  (gZ p0 (p1.length:Int))>>=fun y1=>(idx p1 y1.1)>>=fun y2=>some (y2,y1.2)
def wP (bV:Int) (jS:Int) (nQ:List UInt8) (dV:List Int) (dJ:Int) (dU:Int):Option (aA×aL) :=
  some ((aA.mk bV jS nQ),(aL.mk dV dJ dU))
def P5 (y1:aA×aL) (nT:List UInt8) (uE:List Int) (uB:Int) (tZ:Int):Option (aA×aL) :=
  (iC (aL.mk uE uB tZ) 2)>>=fun y10=>(some (if y10.1=true then (decide ((nT.length:Int)<400)) else false))>>=fun y11=>if y11=true then ((aA9 nT nT)>>=fun y12=>(aA9 y12 [48,49,50,51,52,53,54,55,56,57])>>=fun y13=>P5 y1 y13 y10.2.b y10.2.i y10.2.h) else (wP y1.1.kind y1.1.num nT y10.2.b y10.2.i y10.2.h)
  partial_fixpoint
def qQ (p0:Bool):Option aA :=
  if p0=true then (some (aA.mk 3 1 [])) else (some (aA.mk 3 0 []))
def wI (p0:Int):Option aA :=
  some (aA.mk 1 p0 [])
def aEb (p0:List UInt8):Option aA :=
  some (aA.mk 2 0 p0)
def aI6 (p0:aL):Option (aA×aL) :=
  (gZ p0 6)>>=fun y1=>if (decide (y1.1=0))=true then (some ((aA.mk 0 0 []),y1.2)) else (if (decide (y1.1=1))=true then ((tF y1.2 ([[],[97],[98],[105,116,39,115],[97,98],[255]]:List (List UInt8)))>>=fun y2=>(aEb y2.1)>>=fun y3=>some (y3,y2.2)) else (if (decide (y1.1=2))=true then ((iC y1.2 2)>>=fun y4=>(qQ y4.1)>>=fun y5=>some (y5,y4.2)) else (if (decide (y1.1=3))=true then ((wL y1.2)>>=fun y6=>(wI y6.1)>>=fun y7=>some (y7,y6.2)) else ((gZ y1.2 7)>>=fun y8=>(wI (QA .i64 (y8.1 - 2)))>>=fun y9=>some (y9,y8.2)))))
def aJ8 (p0:aL):Option (aA×aL) :=
  (aI6 p0)>>=fun y1=>(gZ y1.2 14)>>=fun y2=>if (decide (y2.1=0))=true then ((gZ y2.2 6)>>=fun y3=>wP (QA .i64 (y3.1 - 1)) y1.1.num y1.1.text y3.2.b y3.2.i y3.2.h) else (if (decide (y2.1=1))=true then ((wL y2.2)>>=fun y4=>wP y1.1.kind y4.1 y1.1.text y4.2.b y4.2.i y4.2.h) else (if (decide (y2.1=2))=true then ((tF y2.2 ([[120],[],[108,111,110,103]]:List (List UInt8)))>>=fun y5=>P5 y1 y5.1 y5.2.b y5.2.i y5.2.h) else (wP y1.1.kind y1.1.num y1.1.text y2.2.b y2.2.i y2.2.h)))
def aC8 (p0:aL) (p1:aJ):Option (aJ×aL) :=
  (if (true&&((decide (0<(p1.kids.length:Int)))==true))=true then iC p0 2 else some ((default:Bool),p0))>>=fun y1=>(some (if (decide (0<(p1.kids.length:Int)))=true then y1.1 else false))>>=fun y2=>if y2=true then ((gZ y1.2 (p1.kids.length:Int))>>=fun y3=>(idx p1.kids y3.1)>>=fun y4=>(aC8 y3.2 y4)>>=fun y5=>some ((aJ.mk p1.kind p1.op p1.not_ p1.value p1.up p1.at_ (p1.kids.set (y3.1).toNat y5.1) p1.sub),y5.2)) else ((gZ y1.2 7)>>=fun y6=>if (decide (y6.1=0))=true then ((wL y6.2)>>=fun y7=>wJ p1 y7.1 p1.op p1.not_ p1.value.kind p1.value.num p1.value.text p1.up p1.at_ y7.2.b y7.2.i y7.2.h p1.sub) else (if (decide (y6.1=1))=true then ((wL y6.2)>>=fun y8=>wJ p1 p1.kind y8.1 p1.not_ p1.value.kind p1.value.num p1.value.text p1.up p1.at_ y8.2.b y8.2.i y8.2.h p1.sub) else (if (decide (y6.1=2))=true then ((wL y6.2)>>=fun y9=>wJ p1 p1.kind p1.op p1.not_ p1.value.kind p1.value.num p1.value.text y9.1 p1.at_ y9.2.b y9.2.i y9.2.h p1.sub) else (if (decide (y6.1=3))=true then ((wL y6.2)>>=fun y10=>wJ p1 p1.kind p1.op p1.not_ p1.value.kind p1.value.num p1.value.text p1.up y10.1 y10.2.b y10.2.i y10.2.h p1.sub) else (if (decide (y6.1=4))=true then ((aJ8 y6.2)>>=fun y11=>wJ p1 p1.kind p1.op p1.not_ y11.1.kind y11.1.num y11.1.text p1.up p1.at_ y11.2.b y11.2.i y11.2.h p1.sub) else (if (decide (y6.1=5))=true then (wJ p1 p1.kind p1.op (!p1.not_) p1.value.kind p1.value.num p1.value.text p1.up p1.at_ y6.2.b y6.2.i y6.2.h p1.sub) else ((appG 160 p1.sub ([(aP.mk ([]:List Int) ([]:List (List aJ)) ([]:List aJ) ([]:List dD) ([]:List aJ) ([]:List (List UInt8)) false 0)]:List aP))>>=fun y12=>wJ p1 p1.kind p1.op p1.not_ p1.value.kind p1.value.num p1.value.text p1.up p1.at_ y6.2.b y6.2.i y6.2.h y12)))))))
  partial_fixpoint
def O0 (p0:List Int) (x3:Int) (x4:Int):Option aL :=
  (some (if (decide (x4<(p0.length:Int)))=true then (decide (x4<4000)) else false))>>=fun y1=>if y1=true then ((idx p0 x4)>>=fun y2=>O0 p0 (QA .i64 ((BitVec.ofInt (QC .i64) (QA .i64 ((QA .i64 ((QA .i64 (x3 * 131))+(QA .i64 y2)))+7)) &&& BitVec.ofInt (QC .i64) 1073741823).toNat:Int)) (QA .i64 (x4+1))) else (some (aL.mk p0 0 x3))
  partial_fixpoint
def aJl (p0:List Int):Option aL :=
  O0 p0 (QA .i64 (28322+(p0.length:Int))) 0
def aIv (p0:List Int) (p1:Int):Option Int :=
  if (decide (p1<(QA .i64 (2+(QA .i64 (Int.tdiv (p0.length:Int) 20))))))=true then (some p1) else (some (QA .i64 (2+(QA .i64 (Int.tdiv (p0.length:Int) 20)))))
def aGn (p0:aL):Option ((List UInt8)×aL) :=
  (iC p0 6)>>=fun y1=>if y1.1=true then ((tF y1.2 ([[97,32,98],[102,114,111,109],[83,101,108,101,99,116],[49,120],[113,34,113],[0],[34],[105,116,39,115],[120,46,121],[45]]:List (List UInt8)))>>=fun y2=>some (y2.1,y2.2)) else ((tF y1.2 ([[97],[98],[99],[116],[117],[118],[105,100],[110,97,109,101],[65],[95,120,49]]:List (List UInt8)))>>=fun y3=>some (y3.1,y3.2))
mutual
def aCb (y1:Int×aL) (x6:Int) (y3:Int×aL) (x9:Int) (bV:List eD) (y2:List UInt8) (mV:(List Int)×Int×Int×(List gD)):Option (aQ×aL) :=
  aCc y1 x6 y3 bV y2 (QA .i64 (x9+1)) (mV.2.2.2,mV.1,mV.2.1,mV.2.2.1)
  partial_fixpoint
def aEt (y1:Int×aL) (x6:Int) (y3:Int×aL) (x9:Int) (bV:List eD) (y2:List UInt8) (pO:List gD) (ky8:(Int×aL)×(List UInt8)×(List Int)×Int×Int):Option (aQ×aL) :=
  (xL (eD.mk y2 pO) ky8.2.1)>>=fun y15=>if (decide (y15<0))=true then ((appG 24 pO ([(gD.mk ky8.2.1 ky8.1.1)]:List gD))>>=fun y16=>aCb y1 x6 y3 x9 bV y2 (ky8.2.2.1,ky8.2.2.2.1,ky8.2.2.2.2,y16)) else (aCb y1 x6 y3 x9 bV y2 (ky8.2.2.1,ky8.2.2.2.1,ky8.2.2.2.2,pO))
  partial_fixpoint
def aCc (y1:Int×aL) (x6:Int) (y3:Int×aL) (bV:List eD) (y2:List UInt8) (x9:Int) (jU:(List gD)×(List Int)×Int×Int):Option (aQ×aL) :=
  if (decide (x9<(QA .i64 (1+y3.1))))=true then ((tF (aL.mk jU.2.1 jU.2.2.1 jU.2.2.2) ([[97],[98],[99],[105,100],[110,97,109,101]]:List (List UInt8)))>>=fun y7=>(O6 y7.2 ([1,1,2,3]:List Int))>>=fun y8=>(iC y8.2 20)>>=fun y9=>if y9.1=true then ((aGn y9.2)>>=fun y10=>aEt y1 x6 y3 x9 bV y2 jU.1 (y8,y10.1,y10.2.b,y10.2.i,y10.2.h)) else (aEt y1 x6 y3 x9 bV y2 jU.1 (y8,y7.1,y9.2.b,y9.2.i,y9.2.h))) else ((appG 40 bV ([(eD.mk y2 jU.1)]:List eD))>>=fun y14=>M7 y1 (QA .i64 (x6+1)) y14 jU.2.1 jU.2.2.1 jU.2.2.2)
  partial_fixpoint
def M7 (y1:Int×aL) (x6:Int) (bV:List eD) (dV:List Int) (dJ:Int) (dU:Int):Option (aQ×aL) :=
  if (decide (x6<(QA .i64 (1+y1.1))))=true then ((idx ([[116],[117],[118]]:List (List UInt8)) x6)>>=fun y2=>(gZ (aL.mk dV dJ dU) 3)>>=fun y3=>aCc y1 x6 y3 bV y2 0 (([]:List gD),y3.2.b,y3.2.i,y3.2.h)) else (some ((aQ.mk bV),(aL.mk dV dJ dU)))
  partial_fixpoint
end
def aH5 (p0:aL):Option (aQ×aL) :=
  (gZ p0 3)>>=fun y1=>M7 y1 0 ([]:List eD) y1.2.b y1.2.i y1.2.h
def P6 (p0:List Int) (p1:List (List Int)):Option (List (List Int)) :=
  (appG 24 ([p0]:List (List Int)) p1)>>=fun y1=>some y1
def aDw (y1:Bool×aL) (nH:List dD) (nC:List aJ) (gJ:List (List UInt8)) (gI:List aJ) (gG:List (List aJ)) (gH:List Int) (zQ:Int) (zH:List Int) (I1:Int) (yK:Int):Option (aP×aL) :=
  some ((aP.mk gH gG nC nH gI gJ y1.1 zQ),(aL.mk zH I1 yK))
def J7 (y1:Bool×aL) (nC:List aJ) (gJ:List (List UInt8)) (gI:List aJ) (gG:List (List aJ)) (gH:List Int) (aA3:List Int) (X4:Int) (Y9:Int) (nH:List dD):Option (aP×aL) :=
  (iC (aL.mk aA3 X4 Y9) 4)>>=fun y38=>if y38.1=true then ((gZ y38.2 4)>>=fun y39=>aDw y1 nH nC gJ gI gG gH y39.1 y39.2.b y39.2.i y39.2.h) else (aDw y1 nH nC gJ gI gG gH (-1) y38.2.b y38.2.i y38.2.h)
mutual
def K9 (p1:List (List Int)) (p2:Int) (x9:Int) (x10:Int) (uI:Int) (tH:Int) (uF:Int) (tC:Int) (kX:(List UInt8)×Int×Int×(List Int)×Int×Int):Option (aJ×aL) :=
  aAx p1 p2 x9 uI (QA .i64 (x10+1)) tH uF tC (kX.1,kX.2.1,kX.2.2.1,kX.2.2.2.1,kX.2.2.2.2.1,kX.2.2.2.2.2)
  partial_fixpoint
def aAx (p1:List (List Int)) (p2:Int) (x9:Int) (oI:Int) (x10:Int) (qB:Int) (rA:Int) (rF:Int) (gL:(List UInt8)×Int×Int×(List Int)×Int×Int):Option (aJ×aL) :=
  (idx p1 x9)>>=fun y12=>if (decide (x10<(y12.length:Int)))=true then ((idx p1 x9)>>=fun y13=>(idx y13 x10)>>=fun y14=>if (decide (y14=p2))=true then ((iC (aL.mk gL.2.2.2.1 gL.2.2.2.2.1 gL.2.2.2.2.2) (QA .i64 (oI+1)))>>=fun y15=>if y15.1=true then (K9 p1 p2 x9 x10 (QA .i64 (oI+1)) 2 0 0 ([],x9,x10,y15.2.b,y15.2.i,y15.2.h)) else (K9 p1 p2 x9 x10 (QA .i64 (oI+1)) qB rA rF (gL.1,gL.2.1,gL.2.2.1,y15.2.b,y15.2.i,y15.2.h))) else (K9 p1 p2 x9 x10 oI qB rA rF (gL.1,gL.2.1,gL.2.2.1,gL.2.2.2.1,gL.2.2.2.2.1,gL.2.2.2.2.2))) else (aAq p1 p2 oI (QA .i64 (x9+1)) qB rA rF (gL.1,gL.2.1,gL.2.2.1,gL.2.2.2.1,gL.2.2.2.2.1,gL.2.2.2.2.2))
  partial_fixpoint
def aAq (p1:List (List Int)) (p2:Int) (x7:Int) (x9:Int) (qW:Int) (qZ:Int) (pY:Int) (gN:(List UInt8)×Int×Int×(List Int)×Int×Int):Option (aJ×aL) :=
  if (decide (x9<(p1.length:Int)))=true then (aAx p1 p2 x9 x7 0 qW qZ pY (gN.1,gN.2.1,gN.2.2.1,gN.2.2.2.1,gN.2.2.2.2.1,gN.2.2.2.2.2)) else (some ((aJ.mk qW 0 false (aA.mk qZ pY gN.1) gN.2.1 gN.2.2.1 ([]:List aJ) ([]:List aP)),(aL.mk gN.2.2.2.1 gN.2.2.2.2.1 gN.2.2.2.2.2)))
  partial_fixpoint
end
def aG6 (y1:aA×aL) (aAb:Int) (dV:List Int) (dJ:Int) (dU:Int):Option (aA×aL) :=
  some ((aA.mk y1.1.kind aAb y1.1.text),(aL.mk dV dJ dU))
def aEy (p0:aL) (p1:Int):Option (aA×aL) :=
  (iC p0 6)>>=fun y1=>if y1.1=true then (some ((aA.mk 0 0 []),y1.2)) else (if (decide (p1=2))=true then ((tF y1.2 ([[],[97],[98],[97,98]]:List (List UInt8)))>>=fun y2=>(aEb y2.1)>>=fun y3=>some (y3,y2.2)) else (if (decide (p1=3))=true then ((iC y1.2 2)>>=fun y4=>(qQ y4.1)>>=fun y5=>some (y5,y4.2)) else ((wL y1.2)>>=fun y6=>(wI y6.1)>>=fun y7=>some (y7,y6.2))))
def aB5 (p0:aL) (p1:Int):Option (aA×aL) :=
  (aEy p0 p1)>>=fun y1=>if (decide (y1.1.kind=1))=true then ((O6 y1.2 ([0,1,2,3,5,1,2,9223372036854775807]:List Int))>>=fun y2=>aG6 y1 y2.1 y2.2.b y2.2.i y2.2.h) else (aG6 y1 y1.1.num y1.2.b y1.2.i y1.2.h)
def aD8 (p0:aL) (p1:List (List Int)) (p2:Int):Option (aJ×aL) :=
  (aB5 p0 p2)>>=fun y1=>aAq p1 p2 0 0 1 y1.1.kind y1.1.num (y1.1.text,0,0,y1.2.b,y1.2.i,y1.2.h)
def L8 (p1:List Int) (p0:aQ) (x6:List Int) (x7:Int):Option ((List Int)×Bool) :=
  if (decide (x7<(p1.length:Int)))=true then ((idx p1 x7)>>=fun y1=>(fI y1 0 (QA .i64 ((p0.tables.length:Int) - 1)))>>=fun y2=>if (!y2)=true then (some (([]:List Int),false)) else ((idx p1 x7)>>=fun y3=>(idx p0.tables y3)>>=fun y4=>(A7 y4)>>=fun y5=>(appG 8 x6 y5)>>=fun y6=>L8 p1 p0 y6 (QA .i64 (x7+1)))) else (some (x6,true))
  partial_fixpoint
def yQ (p0:aQ) (p1:List Int):Option ((List Int)×Bool) :=
  L8 p1 p0 ([]:List Int) 0
mutual
def xC (p2:List (List Int)) (p3:Int) (p4:Int) (p5:Int) (p1:aQ) (x14:Int) (jE:(List Int)×Int×Int×(List aJ)):Option ((List aJ)×aL) :=
  if (decide (x14<p5))=true then ((qG (aL.mk jE.1 jE.2.1 jE.2.2.1) p1 p2 p3 (QA .i64 (p4 - 1)))>>=fun y1=>(appG 120 jE.2.2.2 ([y1.1]:List aJ))>>=fun y2=>xC p2 p3 p4 p5 p1 (QA .i64 (x14+1)) (y1.2.b,y1.2.i,y1.2.h,y2)) else (some (jE.2.2.2,(aL.mk jE.1 jE.2.1 jE.2.2.1)))
  partial_fixpoint
def nR (p0:aL) (p1:aQ) (p2:List (List Int)) (p3:Int) (p4:Int) (p5:Int):Option ((List aJ)×aL) :=
  xC p2 p3 p4 p5 p1 0 (p0.b,p0.i,p0.h,([]:List aJ))
  partial_fixpoint
def aCj (p2:List (List Int)) (p3:Int) (y1:Int×aL) (p1:aQ) (y3:Int×aL):Option (aJ×aL) :=
  (gZ y3.2 6)>>=fun y14=>(nR y14.2 p1 p2 (QA .i64 (1+y1.1)) p3 2)>>=fun y15=>some ((aJ.mk 4 (QA .i64 (3+y14.1)) false (aA.mk 0 0 []) 0 0 y15.1 ([]:List aP)),y15.2)
  partial_fixpoint
def aDb (p2:List (List Int)) (p3:Int) (y1:Int×aL) (y2:Bool×aL) (y3:Int×aL) (p1:aQ) (x18:Bool):Option (aJ×aL) :=
  if x18=true then ((gZ y3.2 2)>>=fun y4=>(nR y4.2 p1 p2 3 p3 2)>>=fun y5=>some ((aJ.mk 4 (QA .i64 (1+y4.1)) false (aA.mk 0 0 []) 0 0 y5.1 ([]:List aP)),y5.2)) else (if (decide (y3.1=2))=true then ((nR y3.2 p1 p2 3 p3 1)>>=fun y6=>some ((aJ.mk 3 15 false (aA.mk 0 0 []) 0 0 y6.1 ([]:List aP)),y6.2)) else (if (decide (y3.1=3))=true then ((nR y3.2 p1 p2 (QA .i64 (1+y1.1)) p3 1)>>=fun y7=>some ((aJ.mk 5 0 y2.1 (aA.mk 0 0 []) 0 0 y7.1 ([]:List aP)),y7.2)) else (if (decide (y3.1=4))=true then ((nR y3.2 p1 p2 (QA .i64 (1+y1.1)) p3 3)>>=fun y8=>some ((aJ.mk 6 0 y2.1 (aA.mk 0 0 []) 0 0 y8.1 ([]:List aP)),y8.2)) else (if (decide (y3.1=5))=true then ((gZ y3.2 3)>>=fun y9=>(nR y9.2 p1 p2 (QA .i64 (1+y1.1)) p3 (QA .i64 (2+y9.1)))>>=fun y10=>some ((aJ.mk 7 0 y2.1 (aA.mk 0 0 []) 0 0 y10.1 ([]:List aP)),y10.2)) else (if (decide (y3.1=6))=true then (if (decide (1<p3))=true then ((nR y3.2 p1 p2 (QA .i64 (1+y1.1)) p3 1)>>=fun y11=>(xN y11.2 p1 p2 ([(QA .i64 (1+y1.1))]:List Int) (QA .i64 (p3 - 2)))>>=fun y12=>some ((aJ.mk 8 0 y2.1 (aA.mk 0 0 []) 0 0 y11.1 ([y12.1]:List aP)),y12.2)) else (aCj p2 p3 y1 p1 y3)) else (if (decide (y3.1=7))=true then (if (decide (1<p3))=true then ((xN y3.2 p1 p2 ([(QA .i64 (1+y1.1))]:List Int) (QA .i64 (p3 - 2)))>>=fun y13=>some ((aJ.mk 9 0 false (aA.mk 0 0 []) 0 0 ([]:List aJ) ([y13.1]:List aP)),y13.2)) else (aCj p2 p3 y1 p1 y3)) else (aCj p2 p3 y1 p1 y3)))))))
  partial_fixpoint
def aPt (p0:aL) (p1:aQ) (p2:List (List Int)) (p3:Int):Option (aJ×aL) :=
  (gZ p0 3)>>=fun y1=>(iC y1.2 3)>>=fun y2=>(gZ y2.2 10)>>=fun y3=>if (decide (y3.1=0))=true then (aDb p2 p3 y1 y2 y3 p1 (decide (y3.1=0))) else (aDb p2 p3 y1 y2 y3 p1 (decide (y3.1=1)))
  partial_fixpoint
def qG (p0:aL) (p1:aQ) (p2:List (List Int)) (p3:Int) (p4:Int):Option (aJ×aL) :=
  (if (true&&((decide (p4≤0))==false))=true then iC p0 4 else some ((default:Bool),p0))>>=fun y1=>(some (if (decide (p4≤0))=true then true else y1.1))>>=fun y2=>if y2=true then ((iC y1.2 3)>>=fun y3=>if y3.1=true then ((aB5 y3.2 p3)>>=fun y4=>some ((aJ.mk 1 0 false y4.1 0 0 ([]:List aJ) ([]:List aP)),y4.2)) else ((aD8 y3.2 p2 p3)>>=fun y5=>some (y5.1,y5.2))) else (if (decide (p3=1))=true then ((iC y1.2 5)>>=fun y6=>if y6.1=true then ((nR y6.2 p1 p2 p3 p4 1)>>=fun y7=>some ((aJ.mk 3 16 false (aA.mk 0 0 []) 0 0 y7.1 ([]:List aP)),y7.2)) else ((gZ y6.2 5)>>=fun y8=>(nR y8.2 p1 p2 p3 p4 2)>>=fun y9=>some ((aJ.mk 4 (QA .i64 (10+y8.1)) false (aA.mk 0 0 []) 0 0 y9.1 ([]:List aP)),y9.2))) else (if (decide (p3=2))=true then ((nR y1.2 p1 p2 p3 p4 2)>>=fun y10=>some ((aJ.mk 4 9 false (aA.mk 0 0 []) 0 0 y10.1 ([]:List aP)),y10.2)) else ((aPt y1.2 p1 p2 p4)>>=fun y11=>some (y11.1,y11.2))))
  partial_fixpoint
def Q8 (p4:Int) (y15:List (List Int)) (p1:aQ) (y1:Bool×aL) (gJ:List (List UInt8)) (gI:List aJ) (jM:(List (List aJ))×(List Int)×(List Int)×Int×Int×(List aJ)):Option (aP×aL) :=
  (iC (aL.mk jM.2.2.1 jM.2.2.2.1 jM.2.2.2.2.1) 3)>>=fun y30=>if y30.1=true then ((gZ y30.2 3)>>=fun y31=>(qG y31.2 p1 y15 (QA .i64 (1+y31.1)) p4)>>=fun y32=>(iC y32.2 2)>>=fun y33=>(appG 128 ([]:List dD) ([(dD.mk y32.1 y33.1)]:List dD))>>=fun y34=>J7 y1 jM.2.2.2.2.2 gJ gI jM.1 jM.2.1 y33.2.b y33.2.i y33.2.h y34) else (J7 y1 jM.2.2.2.2.2 gJ gI jM.1 jM.2.1 y30.2.b y30.2.i y30.2.h ([]:List dD))
  partial_fixpoint
def xB (p3:List Int) (p4:Int) (y15:List (List Int)) (p1:aQ) (y1:Bool×aL) (gG:List (List aJ)) (gH:List Int) (kx20:Int×(List Int)×Int×Int×(((List (List UInt8))×(List aJ)))):Option (aP×aL) :=
  if (decide (kx20.1<(p3.length:Int)))=true then ((idx p3 kx20.1)>>=fun y20=>(qG (aL.mk kx20.2.1 kx20.2.2.1 kx20.2.2.2.1) p1 y15 y20 p4)>>=fun y21=>(appG 120 kx20.2.2.2.2.2 ([y21.1]:List aJ))>>=fun y22=>(tF y21.2 ([[97],[98],[99],[120],[121,32,122],[99,49]]:List (List UInt8)))>>=fun y23=>(appG 16 kx20.2.2.2.2.1 ([y23.1]:List (List UInt8)))>>=fun y24=>xB p3 p4 y15 p1 y1 gG gH ((QA .i64 (kx20.1+1)),y23.2.b,y23.2.i,y23.2.h,y24,y22)) else ((iC (aL.mk kx20.2.1 kx20.2.2.1 kx20.2.2.2.1) 2)>>=fun y25=>if y25.1=true then ((qG y25.2 p1 y15 3 p4)>>=fun y26=>Q8 p4 y15 p1 y1 kx20.2.2.2.2.1 kx20.2.2.2.2.2 (gG,gH,y26.2.b,y26.2.i,y26.2.h,([y26.1]:List aJ))) else (Q8 p4 y15 p1 y1 kx20.2.2.2.2.1 kx20.2.2.2.2.2 (gG,gH,y25.2.b,y25.2.i,y25.2.h,([]:List aJ))))
  partial_fixpoint
def M8 (p2:List (List Int)) (p3:List Int) (p4:Int) (y2:Int×aL) (x13:Int) (p1:aQ) (y1:Bool×aL) (ky4:(List Int)×(((List (List aJ))×(List Int)×Int×Int×(List aJ)))):Option (aP×aL) :=
  (appG 24 ky4.2.1 ([ky4.2.2.2.2.2]:List (List aJ)))>>=fun y19=>uQ p2 p3 p4 y2 p1 y1 ((QA .i64 (x13+1)),ky4.2.2.1,ky4.2.2.2.1,ky4.2.2.2.2.1,y19,ky4.1)
  partial_fixpoint
def uQ (p2:List (List Int)) (p3:List Int) (p4:Int) (y2:Int×aL) (p1:aQ) (y1:Bool×aL) (kx13:Int×(List Int)×Int×Int×(((List (List aJ))×(List Int)))):Option (aP×aL) :=
  if (decide (kx13.1<(QA .i64 (1+y2.1))))=true then ((gZ (aL.mk kx13.2.1 kx13.2.2.1 kx13.2.2.2.1) (p1.tables.length:Int))>>=fun y3=>(appG 8 kx13.2.2.2.2.2 ([y3.1]:List Int))>>=fun y4=>(yQ p1 y4)>>=fun y5=>(if (true&&((decide (0<kx13.1))==true))=true then iC y3.2 2 else some ((default:Bool),y3.2))>>=fun y6=>(some (if (decide (0<kx13.1))=true then y6.1 else false))>>=fun y7=>if y7=true then ((P6 y5.1 p2)>>=fun y8=>(qG y6.2 p1 y8 3 p4)>>=fun y9=>(appG 120 ([]:List aJ) ([y9.1]:List aJ))>>=fun y10=>M8 p2 p3 p4 y2 kx13.1 p1 y1 (y4,kx13.2.2.2.2.1,y9.2.b,y9.2.i,y9.2.h,y10)) else (M8 p2 p3 p4 y2 kx13.1 p1 y1 (y4,kx13.2.2.2.2.1,y6.2.b,y6.2.i,y6.2.h,([]:List aJ)))) else ((yQ p1 kx13.2.2.2.2.2)>>=fun y14=>(P6 y14.1 p2)>>=fun y15=>xB p3 p4 y15 p1 y1 kx13.2.2.2.2.1 kx13.2.2.2.2.2 (0,kx13.2.1,kx13.2.2.1,kx13.2.2.2.1,([]:List (List UInt8)),([]:List aJ)))
  partial_fixpoint
def xN (p0:aL) (p1:aQ) (p2:List (List Int)) (p3:List Int) (p4:Int):Option (aP×aL) :=
  (iC p0 4)>>=fun y1=>(gZ y1.2 2)>>=fun y2=>uQ p2 p3 p4 y2 p1 y1 (0,y2.2.b,y2.2.i,y2.2.h,([]:List (List aJ)),([]:List Int))
  partial_fixpoint
end
def aEw (p1:Int) (y1:aQ×aL) (x7:List Int) (dV:List Int) (dJ:Int) (dU:Int):Option (aQ×aP×aL) :=
  (xN (aL.mk dV dJ dU) y1.1 ([]:List (List Int)) x7 p1)>>=fun y6=>some (y1.1,y6.1,y6.2)
def aJw (p0:aL) (p1:Int):Option (aQ×aP×aL) :=
  (aH5 p0)>>=fun y1=>(gZ y1.2 3)>>=fun y2=>(iC y2.2 2)>>=fun y3=>if y3.1=true then ((gZ y3.2 3)>>=fun y4=>(appG 8 ([(QA .i64 (1+y2.1))]:List Int) ([(QA .i64 (1+y4.1))]:List Int))>>=fun y5=>aEw p1 y1 y5 y4.2.b y4.2.i y4.2.h) else (aEw p1 y1 ([(QA .i64 (1+y2.1))]:List Int) y3.2.b y3.2.i y3.2.h)
def aGg (p0:aL) (p1:Int):Option (aA×aL) :=
  (if (true&&((decide (p1=1))==true))=true then iC p0 12 else some ((default:Bool),p0))>>=fun y1=>(some (if (decide (p1=1))=true then (!y1.1) else false))>>=fun y2=>if y2=true then ((gZ y1.2 5)>>=fun y3=>(wI (QA .i64 (y3.1 - 1)))>>=fun y4=>some (y4,y3.2)) else ((aEy y1.2 p1)>>=fun y5=>some (y5.1,y5.2))
mutual
def Z7 (x6:Int) (y1:Int×aL) (x9:Int) (p1:aQ) (fV:List (List aA)) (eU:List fJ) (x10:List aA) (kx11:Int×(List Int)×Int×Int):Option (GDb×aL) :=
  (idx p1.tables x6)>>=fun y9=>if (decide (kx11.1<(y9.cols.length:Int)))=true then ((idx p1.tables x6)>>=fun y10=>(idx y10.cols kx11.1)>>=fun y11=>(aGg (aL.mk kx11.2.1 kx11.2.2.1 kx11.2.2.2) y11.type)>>=fun y12=>(appG 32 x10 ([y12.1]:List aA))>>=fun y13=>Z7 x6 y1 x9 p1 fV eU y13 ((QA .i64 (kx11.1+1)),y12.2.b,y12.2.i,y12.2.h)) else ((appG 24 fV ([x10]:List (List aA)))>>=fun y14=>J6 x6 y1 p1 eU (QA .i64 (x9+1)) y14 (kx11.2.1,kx11.2.2.1,kx11.2.2.2))
  partial_fixpoint
def J6 (x6:Int) (y1:Int×aL) (p1:aQ) (eU:List fJ) (x9:Int) (fV:List (List aA)) (lK:(List Int)×Int×Int):Option (GDb×aL) :=
  if (decide (x9<y1.1))=true then (Z7 x6 y1 x9 p1 fV eU ([]:List aA) (0,lK.1,lK.2.1,lK.2.2)) else ((appG 24 eU ([(fJ.mk fV)]:List fJ))>>=fun y8=>aCe p1 (QA .i64 (x6+1)) lK.1 lK.2.1 lK.2.2 y8)
  partial_fixpoint
def aCe (p1:aQ) (x6:Int) (dV:List Int) (dJ:Int) (dU:Int) (eU:List fJ):Option (GDb×aL) :=
  if (decide (x6<(p1.tables.length:Int)))=true then ((gZ (aL.mk dV dJ dU) 5)>>=fun y1=>J6 x6 y1 p1 eU 0 ([]:List (List aA)) (y1.2.b,y1.2.i,y1.2.h)) else (some ((GDb.mk eU),(aL.mk dV dJ dU)))
  partial_fixpoint
end
def aGm (p0:aL) (p1:aQ):Option (GDb×aL) :=
  aCe p1 0 p0.b p0.i p0.h ([]:List fJ)
def aJi (p0:List Int):Option (aL×aQ×GDb×aP) :=
  (aJl p0)>>=fun y1=>(aIv p0 4)>>=fun y2=>(gZ y1 y2)>>=fun y3=>(aJw y3.2 y3.1)>>=fun y4=>(aGm y4.2.2 y4.1)>>=fun y5=>some (y5.2,y4.1,y5.1,y4.2.1)
def aKb (p0:List Int):Option (aQ×GDb×aP) :=
  (aJi p0)>>=fun y1=>(iC y1.1 8)>>=fun y2=>if y2.1=true then ((idx y1.2.2.2.items 0)>>=fun y3=>(aC8 y2.2 y3)>>=fun y4=>aDp y1 y4.2.b y4.2.i y4.2.h (y1.2.2.2.items.set (0:Int).toNat y4.1)) else (aDp y1 y2.2.b y2.2.i y2.2.h y1.2.2.2.items)
def aAr (p0:List aA):Option (List aA) :=
  (appG 32 ([]:List aA) p0)>>=fun y1=>some y1
def aP6 (p0:Int) (p1:Int):Option (Int×Bool) :=
  (some (if (decide (0<p1))=true then (decide ((QA .i64 (9223372036854775807 - p1))<p0)) else false))>>=fun y1=>(if (true&&(y1==false))=true then some (if (decide (p1<0))=true then (decide (p0<(QA .i64 ((-9223372036854775808) - p1)))) else false) else some default)>>=fun y2=>(some (if y1=true then true else y2))>>=fun y3=>if y3=true then (some (0,false)) else (some ((QA .i64 (p0+p1)),true))
def aCw (p0:Int) (p1:Int):Option Bool :=
  if (decide (p0=3))=true then (some (decide (p1=0))) else (if (decide (p0=4))=true then (some (!decide (p1=0))) else (if (decide (p0=5))=true then (some (decide (p1<0))) else (if (decide (p0=6))=true then (some (decide (p1≤0))) else (if (decide (p0=7))=true then (some (decide (0<p1))) else (some (decide (0≤p1)))))))
def D5 (p0:Int) (p1:Bool):Option (aA×Int) :=
  if (!p1)=true then (some ((aA.mk 0 0 []),2)) else ((wI p0)>>=fun y1=>some (y1,0))
def aFx (p0:Int) (p1:Int):Option (Int×Bool) :=
  (some (if (decide (p1<0))=true then (decide ((QA .i64 (9223372036854775807+p1))<p0)) else false))>>=fun y1=>(if (true&&(y1==false))=true then some (if (decide (0<p1))=true then (decide (p0<(QA .i64 ((-9223372036854775808)+p1)))) else false) else some default)>>=fun y2=>(some (if y1=true then true else y2))>>=fun y3=>if y3=true then (some (0,false)) else (some ((QA .i64 (p0 - p1)),true))
def aIz (p0:Int) (p1:Int) (p2:Int):Option (aA×Int) :=
  if (decide (p2=0))=true then (some ((aA.mk 0 0 []),3)) else (if (decide (p2=(-1)))=true then (if (decide (p0=14))=true then ((wI 0)>>=fun y1=>some (y1,0)) else ((aFx 0 p1)>>=fun y2=>(D5 y2.1 y2.2)>>=fun y3=>some (y3.1,y3.2))) else (if (decide (p0=14))=true then ((xV p1 p2)>>=fun y4=>(wI y4)>>=fun y5=>some (y5,0)) else ((wX .i64 p1 p2)>>=fun y6=>(wI y6)>>=fun y7=>some (y7,0))))
def vM (p0:aA) (p1:aA):Option Int :=
  if (decide (p0.kind<p1.kind))=true then (some (-1)) else (if (decide (p1.kind<p0.kind))=true then (some 1) else (if (decide (p0.num<p1.num))=true then (some (-1)) else (if (decide (p1.num<p0.num))=true then (some 1) else (if (Op.bytesLess p0.text p1.text)=true then (some (-1)) else (if (!(Op.bytesLess p0.text p1.text||decide (p0.text=p1.text)))=true then (some 1) else (some 0))))))
def aF4 (p0:Int) (p1:aA) (p2:aA) (aA7:Bool):Option (aA×Int) :=
  if aA7=true then ((aIz p0 p1.num p2.num)>>=fun y19=>some (y19.1,y19.2)) else ((vM p1 p2)>>=fun y20=>(aCw p0 y20)>>=fun y21=>(qQ y21)>>=fun y22=>some (y22,0))
def vT (p0:aA):Option Bool :=
  some (decide (p0.kind=0))
def vF (p0:aA) (p1:Int):Option Bool :=
  (if (true&&((decide (p0.kind=p1))==false))=true then vT p0 else some default)>>=fun y1=>(some (if (decide (p0.kind=p1))=true then true else y1))>>=fun y2=>some y2
def aHa (p0:Int) (p1:aA) (p2:aA):Option (aA×Int) :=
  (vF p1 3)>>=fun y1=>(if (true&&((!y1)==false))=true then vF p2 3 else some default)>>=fun y2=>(some (if (!y1)=true then true else (!y2)))>>=fun y3=>if y3=true then (some ((aA.mk 0 0 []),1)) else ((qQ (decide (p0=1)))>>=fun y4=>(some (if ((decide (p1.kind=y4.kind))&&((decide (p1.num=y4.num))&&((decide (p1.text=y4.text))&&true)))=true then true else ((decide (p2.kind=y4.kind))&&((decide (p2.num=y4.num))&&((decide (p2.text=y4.text))&&true)))))>>=fun y5=>if y5=true then (some (y4,0)) else ((vT p1)>>=fun y6=>(if (true&&(y6==false))=true then vT p2 else some default)>>=fun y7=>(some (if y6=true then true else y7))>>=fun y8=>if y8=true then (some ((aA.mk 0 0 []),0)) else ((qQ (decide (p0=2)))>>=fun y9=>some (y9,0))))
def aFd (p0:Int) (p1:aA) (p2:aA):Option Bool :=
  if (decide (p0=9))=true then ((vF p1 2)>>=fun y1=>(if (true&&(y1==true))=true then vF p2 2 else some default)>>=fun y2=>(some (if y1=true then y2 else false))>>=fun y3=>some y3) else (if (decide (10≤p0))=true then ((vF p1 1)>>=fun y4=>(if (true&&(y4==true))=true then vF p2 1 else some default)>>=fun y5=>(some (if y4=true then y5 else false))>>=fun y6=>some y6) else ((if (true&&((decide (p1.kind=p2.kind))==false))=true then vT p1 else some default)>>=fun y7=>(some (if (decide (p1.kind=p2.kind))=true then true else y7))>>=fun y8=>(if (true&&(y8==false))=true then vT p2 else some default)>>=fun y9=>(some (if y8=true then true else y9))>>=fun y10=>some y10))
def aIm (p0:Int) (p1:Int):Option (Int×Bool) :=
  (some (if (decide (p0=0))=true then true else (decide (p1=0))))>>=fun y1=>if y1=true then (some (0,true)) else ((some (if (decide (p0=(-1)))=true then (decide (p1=(-9223372036854775808))) else false))>>=fun y2=>(if (true&&(y2==false))=true then some (if (decide (p1=(-1)))=true then (decide (p0=(-9223372036854775808))) else false) else some default)>>=fun y3=>(some (if y2=true then true else y3))>>=fun y4=>if y4=true then (some (0,false)) else ((wX .i64 (QA .i64 (p0 * p1)) p1)>>=fun y5=>if (!decide (y5=p0))=true then (some (0,false)) else (some ((QA .i64 (p0 * p1)),true))))
def qR (p0:Int) (p1:aA) (p2:aA):Option (aA×Int) :=
  (fI p0 1 14)>>=fun y1=>(if (true&&((!y1)==false))=true then kW p1 else some default)>>=fun y2=>(some (if (!y1)=true then true else (!y2)))>>=fun y3=>(if (true&&(y3==false))=true then kW p2 else some default)>>=fun y4=>(some (if y3=true then true else (!y4)))>>=fun y5=>if y5=true then (some ((aA.mk 0 0 []),1)) else (if (decide (p0≤2))=true then ((aHa p0 p1 p2)>>=fun y6=>some (y6.1,y6.2)) else ((aFd p0 p1 p2)>>=fun y7=>if (!y7)=true then (some ((aA.mk 0 0 []),1)) else ((vT p1)>>=fun y8=>(if (true&&(y8==false))=true then vT p2 else some default)>>=fun y9=>(some (if y8=true then true else y9))>>=fun y10=>if y10=true then (some ((aA.mk 0 0 []),0)) else (if (decide (p0=9))=true then (if (decide (200<(QA .i64 ((p1.text.length:Int)+(p2.text.length:Int)))))=true then (some ((aA.mk 0 0 []),2)) else ((aA9 p1.text p2.text)>>=fun y11=>(aEb y11)>>=fun y12=>some (y12,0))) else (if (decide (p0=10))=true then ((aP6 p1.num p2.num)>>=fun y13=>(D5 y13.1 y13.2)>>=fun y14=>some (y14.1,y14.2)) else (if (decide (p0=11))=true then ((aFx p1.num p2.num)>>=fun y15=>(D5 y15.1 y15.2)>>=fun y16=>some (y16.1,y16.2)) else (if (decide (p0=12))=true then ((aIm p1.num p2.num)>>=fun y17=>(D5 y17.1 y17.2)>>=fun y18=>some (y18.1,y18.2)) else (if (decide (p0=13))=true then (aF4 p0 p1 p2 (decide (p0=13))) else (aF4 p0 p1 p2 (decide (p0=14)))))))))))
def aJ5 (p0:aA) (p1:aA) (p2:aA):Option (aA×Int) :=
  (qR 8 p0 p1)>>=fun y1=>if (!decide (y1.2=0))=true then (some ((aA.mk 0 0 []),y1.2)) else ((qR 6 p0 p2)>>=fun y2=>if (!decide (y2.2=0))=true then (some ((aA.mk 0 0 []),y2.2)) else ((qR 2 y1.1 y2.1)>>=fun y3=>some (y3.1,y3.2)))
def aDz (p0:Int) (p1:aA):Option (aA×Int) :=
  (kW p1)>>=fun y1=>if (!y1)=true then (some ((aA.mk 0 0 []),1)) else (if (decide (p0=15))=true then ((vF p1 3)>>=fun y2=>if (!y2)=true then (some ((aA.mk 0 0 []),1)) else ((vT p1)>>=fun y3=>if y3=true then (some (p1,0)) else ((qQ (decide (p1.num=0)))>>=fun y4=>some (y4,0)))) else (if (decide (p0=16))=true then ((vF p1 1)>>=fun y5=>if (!y5)=true then (some ((aA.mk 0 0 []),1)) else ((vT p1)>>=fun y6=>if y6=true then (some (p1,0)) else ((aFx 0 p1.num)>>=fun y7=>(D5 y7.1 y7.2)>>=fun y8=>some (y8.1,y8.2)))) else (some ((aA.mk 0 0 []),1))))
def aBb (p0:aJ) (p1:aA) (p2:Int):Option (aA×Int) :=
  if (!decide (p2=0))=true then (some ((aA.mk 0 0 []),p2)) else (if p0.not_=true then ((aDz 15 p1)>>=fun y1=>some (y1.1,y1.2)) else (some (p1,0)))
def R8 (p1:List aA) (p0:aA) (x7:Int) (iY:Int) (iQ:Int) (iX:List UInt8):Option (aA×Int) :=
  if (decide (x7<(p1.length:Int)))=true then ((idx p1 x7)>>=fun y2=>(qR 3 p0 y2)>>=fun y3=>if (!decide (y3.2=0))=true then (some ((aA.mk 0 0 []),y3.2)) else ((qR 1 (aA.mk iY iQ iX) y3.1)>>=fun y4=>R8 p1 p0 (QA .i64 (x7+1)) y4.1.kind y4.1.num y4.1.text)) else (some ((aA.mk iY iQ iX),0))
  partial_fixpoint
def aDc (p0:aA) (p1:List aA):Option (aA×Int) :=
  (qQ false)>>=fun y1=>R8 p1 p0 0 y1.kind y1.num y1.text
def yX (x10:List aA) (x14:List (List aA)) (p3:aJ) (x21:List aA) (x22:Int):Option (aA×Int) :=
  if (decide (x22<(x14.length:Int)))=true then ((idx x14 x22)>>=fun y30=>if (decide ((y30.length:Int)=0))=true then (some ((aA.mk 0 0 []),4)) else ((idx x14 x22)>>=fun y31=>(idx y31 0)>>=fun y32=>(appG 32 x21 ([y32]:List aA))>>=fun y33=>yX x10 x14 p3 y33 (QA .i64 (x22+1)))) else ((idx x10 0)>>=fun y34=>(aDc y34 x21)>>=fun y35=>(aBb p3 y35.1 y35.2)>>=fun y36=>some (y36.1,y36.2))
  partial_fixpoint
def uH (p2:List (List aA)) (x10:List aA) (p3:aJ) (x14:List (List aA)):Option (aA×Int) :=
  if (decide (p3.kind=1))=true then (some (p3.value,0)) else (if (decide (p3.kind=2))=true then ((fI p3.up 0 (QA .i64 ((p2.length:Int) - 1)))>>=fun y7=>(if (true&&((!y7)==false))=true then idx p2 p3.up else some default)>>=fun y8=>(if (true&&((!y7)==false))=true then fI p3.at_ 0 (QA .i64 ((y8.length:Int) - 1)) else some default)>>=fun y9=>(some (if (!y7)=true then true else (!y9)))>>=fun y10=>if y10=true then (some ((aA.mk 0 0 []),4)) else ((idx p2 p3.up)>>=fun y11=>(idx y11 p3.at_)>>=fun y12=>some (y12,0))) else (if (decide (p3.kind=3))=true then ((idx x10 0)>>=fun y13=>(aDz p3.op y13)>>=fun y14=>some (y14.1,y14.2)) else (if (decide (p3.kind=4))=true then ((idx x10 0)>>=fun y15=>(idx x10 1)>>=fun y16=>(qR p3.op y15 y16)>>=fun y17=>some (y17.1,y17.2)) else (if (decide (p3.kind=5))=true then ((idx x10 0)>>=fun y18=>(qQ (!((decide (y18.kind=0))==p3.not_)))>>=fun y19=>some (y19,0)) else (if (decide (p3.kind=6))=true then ((idx x10 0)>>=fun y20=>(idx x10 1)>>=fun y21=>(idx x10 2)>>=fun y22=>(aJ5 y20 y21 y22)>>=fun y23=>(aBb p3 y23.1 y23.2)>>=fun y24=>some (y24.1,y24.2)) else (if (decide (p3.kind=7))=true then ((idx x10 0)>>=fun y25=>(iW x10 1 (x10.length:Int))>>=fun y26=>(aDc y25 y26)>>=fun y27=>(aBb p3 y27.1 y27.2)>>=fun y28=>some (y28.1,y28.2)) else (if (decide (p3.kind=9))=true then ((qQ (decide (0<(x14.length:Int))))>>=fun y29=>some (y29,0)) else (yX x10 x14 p3 ([]:List aA) 0))))))))
def aIb (p0:aJ) (x20:Bool):Option Bool :=
  if x20=true then ((some (if (decide ((p0.kids.length:Int)=1))=true then (decide ((p0.sub.length:Int)=0)) else false))>>=fun y1=>some y1) else (if (decide (p0.kind=4))=true then ((some (if (decide ((p0.kids.length:Int)=2))=true then (decide ((p0.sub.length:Int)=0)) else false))>>=fun y2=>some y2) else (if (decide (p0.kind=6))=true then ((some (if (decide ((p0.kids.length:Int)=3))=true then (decide ((p0.sub.length:Int)=0)) else false))>>=fun y3=>some y3) else (if (decide (p0.kind=7))=true then ((fI (p0.kids.length:Int) 2 9)>>=fun y4=>(some (if y4=true then (decide ((p0.sub.length:Int)=0)) else false))>>=fun y5=>some y5) else (if (decide (p0.kind=8))=true then ((some (if (decide ((p0.kids.length:Int)=1))=true then (decide ((p0.sub.length:Int)=1)) else false))>>=fun y6=>some y6) else (if (decide (p0.kind=9))=true then ((some (if (decide ((p0.kids.length:Int)=0))=true then (decide ((p0.sub.length:Int)=1)) else false))>>=fun y7=>some y7) else (some false))))))
def aHg (p0:aJ) (x13:Bool):Option Bool :=
  if x13=true then (some (decide ((QA .i64 ((p0.kids.length:Int)+(p0.sub.length:Int)))=0))) else (if (decide (p0.kind=3))=true then (aIb p0 (decide (p0.kind=3))) else (aIb p0 (decide (p0.kind=5))))
def aEg (p0:aJ):Option Bool :=
  if (decide (p0.kind=1))=true then (aHg p0 (decide (p0.kind=1))) else (aHg p0 (decide (p0.kind=2)))
def aGv (p0:aA):Option Bool :=
  (some (if (decide (p0.kind=3))=true then (decide (p0.num=1)) else false))>>=fun y1=>some y1
def aBx (p0:List aA) (p1:List (List aA)):Option (List (List aA)) :=
  (appG 24 ([p0]:List (List aA)) p1)>>=fun y1=>some y1
def aAa (p0:GDb) (p1:aP) (x5:Int):Option Bool :=
  if (decide (x5<(p1.tables.length:Int)))=true then ((idx p1.tables x5)>>=fun y2=>(fI y2 0 (QA .i64 ((p0.tables.length:Int) - 1)))>>=fun y3=>if (!y3)=true then (some false) else (aAa p0 p1 (QA .i64 (x5+1)))) else (some true)
  partial_fixpoint
def aI8 (p0:GDb) (p1:aP):Option Bool :=
  (some (if (decide ((p1.tables.length:Int)=0))=true then true else (!decide ((p1.on_.length:Int)=(p1.tables.length:Int)))))>>=fun y1=>if y1=true then (some false) else (aAa p0 p1 0)
mutual
def aBe (p0:List aA) (p1:List aA) (p2:List dD) (x7:Int) (x8:Int):Option Bool :=
  if (!decide (x8=0))=true then (some (decide (x8<0))) else (aBk p0 p1 p2 (QA .i64 (x7+1)))
  partial_fixpoint
def aBk (p0:List aA) (p1:List aA) (p2:List dD) (x7:Int):Option Bool :=
  if (decide (x7<(p2.length:Int)))=true then ((idx p0 x7)>>=fun y1=>(idx p1 x7)>>=fun y2=>(vM y1 y2)>>=fun y3=>(idx p2 x7)>>=fun y4=>if y4.desc=true then (aBe p0 p1 p2 x7 (QA .i64 (0 - y3))) else (aBe p0 p1 p2 x7 y3)) else (some false)
  partial_fixpoint
end
def aH4 (p0:List aA) (p1:List aA) (p2:List dD):Option Bool :=
  aBk p0 p1 p2 0
def U6 (p0:List aA) (p1:List aA) (x5:Int):Option Bool :=
  if (decide (x5<(p0.length:Int)))=true then ((idx p0 x5)>>=fun y1=>(idx p1 x5)>>=fun y2=>if (!((decide (y1.kind=y2.kind))&&((decide (y1.num=y2.num))&&((decide (y1.text=y2.text))&&true))))=true then (some false) else (U6 p0 p1 (QA .i64 (x5+1)))) else (some true)
  partial_fixpoint
def aDm (p0:List aA) (p1:List aA):Option Bool :=
  if (!decide ((p0.length:Int)=(p1.length:Int)))=true then (some false) else (U6 p0 p1 0)
mutual
def yR (p0:List (List aA)) (x4:Int) (uL:List (List aA)):Option (List (List aA)) :=
  aAk p0 uL (QA .i64 (x4+1))
  partial_fixpoint
def aCg (p0:List (List aA)) (x3:List (List aA)) (x4:Int) (x5:Bool) (x6:Int):Option (List (List aA)) :=
  if (decide (x6<(x3.length:Int)))=true then ((if (true&&(x5==false))=true then idx x3 x6 else some default)>>=fun y1=>(if (true&&(x5==false))=true then idx p0 x4 else some default)>>=fun y2=>(if (true&&(x5==false))=true then aDm y1 y2 else some default)>>=fun y3=>(some (if x5=true then true else y3))>>=fun y4=>aCg p0 x3 x4 y4 (QA .i64 (x6+1))) else (if (!x5)=true then ((idx p0 x4)>>=fun y5=>(aAr y5)>>=fun y6=>(appG 24 x3 ([y6]:List (List aA)))>>=fun y7=>yR p0 x4 y7) else (yR p0 x4 x3))
  partial_fixpoint
def aAk (p0:List (List aA)) (x3:List (List aA)) (x4:Int):Option (List (List aA)) :=
  if (decide (x4<(p0.length:Int)))=true then (aCg p0 x3 x4 false 0) else (some x3)
  partial_fixpoint
end
def aDd (p0:List (List aA)):Option (List (List aA)) :=
  aAk p0 ([]:List (List aA)) 0
def aK6 (X6:List (List aA)):Option ((List (List aA))×Int) :=
  some (X6,0)
def R9 (p3:aP) (vO:List (List aA)):Option ((List (List aA))×Int) :=
  (some (if (decide (0≤p3.limit))=true then (decide (p3.limit<(vO.length:Int))) else false))>>=fun y8=>if y8=true then ((iW vO 0 p3.limit)>>=fun y9=>aK6 y9) else (aK6 vO)
mutual
def aAj (p2:List (List aA)) (p3:List (List aA)) (p4:List aJ) (x12:List (List aA)) (x13:Int) (p0:aQ) (kp1:GDb×(List aA)×Int):Option ((List (List aA))×Int) :=
  if (decide (kp1.2.2<(p4.length:Int)))=true then ((idx p3 x13)>>=fun y1=>(aBx y1 p2)>>=fun y2=>(idx p4 kp1.2.2)>>=fun y3=>(fE p0 kp1.1 y2 y3)>>=fun y4=>if (!decide (y4.2=0))=true then (some (([]:List (List aA)),y4.2)) else ((appG 32 kp1.2.1 ([y4.1]:List aA))>>=fun y5=>aAj p2 p3 p4 x12 x13 p0 (kp1.1,y5,(QA .i64 (kp1.2.2+1))))) else ((appG 24 x12 ([kp1.2.1]:List (List aA)))>>=fun y6=>N8 p2 p3 p4 p0 kp1.1 y6 (QA .i64 (x13+1)))
  partial_fixpoint
def N8 (p2:List (List aA)) (p3:List (List aA)) (p4:List aJ) (p0:aQ) (p1:GDb) (x12:List (List aA)) (x13:Int):Option ((List (List aA))×Int) :=
  if (decide (x13<(p3.length:Int)))=true then (aAj p2 p3 p4 x12 x13 p0 (p1,([]:List aA),0)) else (some (x12,0))
  partial_fixpoint
def aGy (p0:aQ) (p1:GDb) (p2:List (List aA)) (p3:List (List aA)) (p4:List aJ):Option ((List (List aA))×Int) :=
  N8 p2 p3 p4 p0 p1 ([]:List (List aA)) 0
  partial_fixpoint
def aEm (p2:List (List aA)) (p0:aQ) (p1:GDb) (p3:aP) (x11:List (List aA)):Option ((List (List aA))×Int) :=
  (aGy p0 p1 p2 x11 p3.items)>>=fun y5=>if (!decide (y5.2=0))=true then (some (([]:List (List aA)),y5.2)) else (if p3.distinct=true then ((aDd y5.1)>>=fun y6=>R9 p3 y6) else (R9 p3 y5.1))
  partial_fixpoint
def aA0 (p2:List (List aA)) (p3:List (List aA)) (p4:List dD) (x12:List (List aA)) (x13:List (List aA)) (x14:Int) (kx15q:(List aA)×aQ×GDb×Int):Option ((List (List aA))×Int) :=
  (if (true&&((decide (0<kx15q.2.2.2))==true))=true then idx x13 (QA .i64 (kx15q.2.2.2 - 1)) else some default)>>=fun y6=>(if (true&&((decide (0<kx15q.2.2.2))==true))=true then aH4 kx15q.1 y6 p4 else some default)>>=fun y7=>(some (if (decide (0<kx15q.2.2.2))=true then y7 else false))>>=fun y8=>if y8=true then (aA0 p2 p3 p4 x12 x13 x14 (kx15q.1,kx15q.2.1,kx15q.2.2.1,(QA .i64 (kx15q.2.2.2 - 1)))) else ((iW x12 0 kx15q.2.2.2)>>=fun y9=>(appG 24 ([]:List (List aA)) y9)>>=fun y10=>(idx p3 x14)>>=fun y11=>(appG 24 y10 ([y11]:List (List aA)))>>=fun y12=>(iW x12 kx15q.2.2.2 (x12.length:Int))>>=fun y13=>(appG 24 y12 y13)>>=fun y14=>(iW x13 0 kx15q.2.2.2)>>=fun y15=>(appG 24 ([]:List (List aA)) y15)>>=fun y16=>(appG 24 y16 ([kx15q.1]:List (List aA)))>>=fun y17=>(iW x13 kx15q.2.2.2 (x13.length:Int))>>=fun y18=>(appG 24 y17 y18)>>=fun y19=>xH p2 p3 p4 kx15q.2.1 kx15q.2.2.1 y14 (y19,(QA .i64 (x14+1))))
  partial_fixpoint
def aFv (p2:List (List aA)) (p3:List (List aA)) (p4:List dD) (x12:List (List aA)) (x13:List (List aA)) (x14:Int) (kp0q:aQ×GDb×(List aA)×Int):Option ((List (List aA))×Int) :=
  if (decide (kp0q.2.2.2<(p4.length:Int)))=true then ((idx p3 x14)>>=fun y1=>(aBx y1 p2)>>=fun y2=>(idx p4 kp0q.2.2.2)>>=fun y3=>(fE kp0q.1 kp0q.2.1 y2 y3.expr)>>=fun y4=>if (!decide (y4.2=0))=true then (some (([]:List (List aA)),y4.2)) else ((appG 32 kp0q.2.2.1 ([y4.1]:List aA))>>=fun y5=>aFv p2 p3 p4 x12 x13 x14 (kp0q.1,kp0q.2.1,y5,(QA .i64 (kp0q.2.2.2+1))))) else (aA0 p2 p3 p4 x12 x13 x14 (kp0q.2.2.1,kp0q.1,kp0q.2.1,(x12.length:Int)))
  partial_fixpoint
def xH (p2:List (List aA)) (p3:List (List aA)) (p4:List dD) (p0:aQ) (p1:GDb) (x12:List (List aA)) (kx13:(List (List aA))×Int):Option ((List (List aA))×Int) :=
  if (decide (kx13.2<(p3.length:Int)))=true then (aFv p2 p3 p4 x12 kx13.1 kx13.2 (p0,p1,([]:List aA),0)) else (some (x12,0))
  partial_fixpoint
def aIo (p0:aQ) (p1:GDb) (p2:List (List aA)) (p3:List (List aA)) (p4:List dD):Option ((List (List aA))×Int) :=
  xH p2 p3 p4 p0 p1 ([]:List (List aA)) (([]:List (List aA)),0)
  partial_fixpoint
def aDo (p2:List (List aA)) (x3:List (List aA)) (p4:List aJ) (x12:Int) (x14:Int) (p0:aQ) (kp1:GDb×(List (List aA))):Option ((List (List aA))×Int) :=
  aBn p2 x3 p4 x12 p0 kp1.1 (kp1.2,(QA .i64 (x14+1)))
  partial_fixpoint
def V6 (p2:List (List aA)) (p0:aQ) (p1:GDb) (p3:aJ) (x10:List aA) (x11:Int):Option (aA×Int) :=
  if (decide (x11<(p3.kids.length:Int)))=true then ((idx p3.kids x11)>>=fun y2=>(fE p0 p1 p2 y2)>>=fun y3=>if (!decide (y3.2=0))=true then (some ((aA.mk 0 0 []),y3.2)) else ((appG 32 x10 ([y3.1]:List aA))>>=fun y4=>V6 p2 p0 p1 p3 y4 (QA .i64 (x11+1)))) else (if (decide (0<(p3.sub.length:Int)))=true then ((idx p3.sub 0)>>=fun y5=>(uU p0 p1 p2 y5)>>=fun y6=>if (!decide (y6.2=0))=true then (some ((aA.mk 0 0 []),y6.2)) else (uH p2 x10 p3 y6.1)) else (uH p2 x10 p3 ([]:List (List aA))))
  partial_fixpoint
def fE (p0:aQ) (p1:GDb) (p2:List (List aA)) (p3:aJ):Option (aA×Int) :=
  (aEg p3)>>=fun y1=>if (!y1)=true then (some ((aA.mk 0 0 []),4)) else (V6 p2 p0 p1 p3 ([]:List aA) 0)
  partial_fixpoint
def aBn (p2:List (List aA)) (x3:List (List aA)) (p4:List aJ) (x12:Int) (p0:aQ) (p1:GDb) (kx13:(List (List aA))×Int):Option ((List (List aA))×Int) :=
  if (decide (kx13.2<(x3.length:Int)))=true then ((idx x3 kx13.2)>>=fun y1=>(aBx y1 p2)>>=fun y2=>(idx p4 x12)>>=fun y3=>(fE p0 p1 y2 y3)>>=fun y4=>if (!decide (y4.2=0))=true then (some (([]:List (List aA)),y4.2)) else ((aGv y4.1)>>=fun y5=>if y5=true then ((idx x3 kx13.2)>>=fun y6=>(appG 24 kx13.1 ([y6]:List (List aA)))>>=fun y7=>aDo p2 x3 p4 x12 kx13.2 p0 (p1,y7)) else (aDo p2 x3 p4 x12 kx13.2 p0 (p1,kx13.1)))) else (R6 p2 p4 p0 p1 kx13.1 (QA .i64 (x12+1)))
  partial_fixpoint
def R6 (p2:List (List aA)) (p4:List aJ) (p0:aQ) (p1:GDb) (x3:List (List aA)) (x12:Int):Option ((List (List aA))×Int) :=
  if (decide (x12<(p4.length:Int)))=true then (aBn p2 x3 p4 x12 p0 p1 (([]:List (List aA)),0)) else (some (x3,0))
  partial_fixpoint
def aCl (p0:aQ) (p1:GDb) (p2:List (List aA)) (p3:List (List aA)) (p4:List aJ):Option ((List (List aA))×Int) :=
  R6 p2 p4 p0 p1 p3 0
  partial_fixpoint
def aBm (p2:List (List aA)) (x10:List (List aA)) (x11:Int) (y2:fJ) (x14:Int) (p0:aQ) (kp1:GDb×aP×(((List (List aA))×Int))):Option ((List (List aA))×Int) :=
  if (decide (kp1.2.2.2<(y2.rows.length:Int)))=true then ((idx x10 x14)>>=fun y6=>(aAr y6)>>=fun y7=>(idx y2.rows kp1.2.2.2)>>=fun y8=>(appG 32 y7 y8)>>=fun y9=>(appG 24 kp1.2.2.1 ([y9]:List (List aA)))>>=fun y10=>aBm p2 x10 x11 y2 x14 p0 (kp1.1,kp1.2.1,y10,(QA .i64 (kp1.2.2.2+1)))) else (V5 p2 x10 x11 y2 p0 kp1.1 (kp1.2.1,kp1.2.2.1,(QA .i64 (x14+1))))
  partial_fixpoint
def V5 (p2:List (List aA)) (x10:List (List aA)) (x11:Int) (y2:fJ) (p0:aQ) (p1:GDb) (kp3q:aP×(((List (List aA))×Int))):Option ((List (List aA))×Int) :=
  if (decide (kp3q.2.2<(x10.length:Int)))=true then (aBm p2 x10 x11 y2 kp3q.2.2 p0 (p1,kp3q.1,kp3q.2.1,0)) else ((idx kp3q.1.on_ x11)>>=fun y4=>(aCl p0 p1 p2 kp3q.2.1 y4)>>=fun y5=>if (!decide (y5.2=0))=true then (some (([]:List (List aA)),y5.2)) else (Y7 p2 p0 p1 kp3q.1 y5.1 (QA .i64 (x11+1))))
  partial_fixpoint
def Y7 (p2:List (List aA)) (p0:aQ) (p1:GDb) (p3:aP) (x10:List (List aA)) (x11:Int):Option ((List (List aA))×Int) :=
  if (decide (x11<(p3.tables.length:Int)))=true then ((idx p3.tables x11)>>=fun y1=>(idx p1.tables y1)>>=fun y2=>V5 p2 x10 x11 y2 p0 p1 (p3,([]:List (List aA)),0)) else (some (x10,0))
  partial_fixpoint
def aM1 (p0:aQ) (p1:GDb) (p2:List (List aA)) (p3:aP):Option ((List (List aA))×Int) :=
  Y7 p2 p0 p1 p3 ([([]:List aA)]:List (List aA)) 0
  partial_fixpoint
def uU (p0:aQ) (p1:GDb) (p2:List (List aA)) (p3:aP):Option ((List (List aA))×Int) :=
  (aI8 p1 p3)>>=fun y1=>if (!y1)=true then (some (([]:List (List aA)),4)) else ((aM1 p0 p1 p2 p3)>>=fun y2=>if (!decide (y2.2=0))=true then (some (([]:List (List aA)),y2.2)) else ((aCl p0 p1 p2 y2.1 p3.where_)>>=fun y3=>if (!decide (y3.2=0))=true then (some (([]:List (List aA)),y3.2)) else (if (decide (0<(p3.order.length:Int)))=true then ((aIo p0 p1 p2 y3.1 p3.order)>>=fun y4=>if (!decide (y4.2=0))=true then (some (([]:List (List aA)),y4.2)) else (aEm p2 p0 p1 p3 y4.1)) else (aEm p2 p0 p1 p3 y3.1))))
  partial_fixpoint
end
def yU (p0:aP) (eZ:List aJ) (x5:Int):Option (List aJ) :=
  if (decide (x5<(p0.order.length:Int)))=true then ((idx p0.order x5)>>=fun y5=>(appG 120 eZ ([y5.expr]:List aJ))>>=fun y6=>yU p0 y6 (QA .i64 (x5+1))) else ((appG 120 eZ p0.items)>>=fun y7=>some y7)
  partial_fixpoint
def aCu (p0:aP) (x3:List aJ) (x4:Int):Option (List aJ) :=
  if (decide (x4<(p0.on_.length:Int)))=true then ((idx p0.on_ x4)>>=fun y1=>(appG 120 x3 y1)>>=fun y2=>aCu p0 y2 (QA .i64 (x4+1))) else ((appG 120 x3 p0.where_)>>=fun y3=>yU p0 y3 0)
  partial_fixpoint
def aE7 (p0:aP):Option (List aJ) :=
  aCu p0 ([]:List aJ) 0
def xG (p0:Int) (p1:Int):Option Int :=
  if (decide (p1<p0))=true then (some p0) else (some p1)
mutual
def V3 (p0:aJ) (eZ:Int) (x5:Int):Option Int :=
  if (decide (x5<(p0.sub.length:Int)))=true then ((idx p0.sub x5)>>=fun y5=>(aAy y5)>>=fun y6=>(xG eZ y6)>>=fun y7=>V3 p0 y7 (QA .i64 (x5+1))) else (some (QA .i64 (eZ+1)))
  partial_fixpoint
def aDs (p0:aJ) (x3:Int) (x4:Int):Option Int :=
  if (decide (x4<(p0.kids.length:Int)))=true then ((idx p0.kids x4)>>=fun y1=>(H5 y1)>>=fun y2=>(xG x3 y2)>>=fun y3=>aDs p0 y3 (QA .i64 (x4+1))) else (V3 p0 x3 0)
  partial_fixpoint
def H5 (p0:aJ):Option Int :=
  aDs p0 0 0
  partial_fixpoint
def aCq (y1:List aJ) (x3:Int) (x5:Int):Option Int :=
  if (decide (x5<(y1.length:Int)))=true then ((idx y1 x5)>>=fun y2=>(H5 y2)>>=fun y3=>(xG x3 y3)>>=fun y4=>aCq y1 y4 (QA .i64 (x5+1))) else (some x3)
  partial_fixpoint
def aAy (p0:aP):Option Int :=
  (aE7 p0)>>=fun y1=>aCq y1 0 0
  partial_fixpoint
end
mutual
def Q5 (p0:aJ) (sF:Int) (x5:Int):Option Int :=
  if (decide (x5<(p0.sub.length:Int)))=true then ((idx p0.sub x5)>>=fun y4=>(aBw y4)>>=fun y5=>Q5 p0 (QA .i64 (sF+y5)) (QA .i64 (x5+1))) else (some sF)
  partial_fixpoint
def aEc (p0:aJ) (x3:Int) (x4:Int):Option Int :=
  if (decide (x4<(p0.kids.length:Int)))=true then ((idx p0.kids x4)>>=fun y1=>(E8 y1)>>=fun y2=>aEc p0 (QA .i64 (x3+y2)) (QA .i64 (x4+1))) else (Q5 p0 x3 0)
  partial_fixpoint
def E8 (p0:aJ):Option Int :=
  aEc p0 1 0
  partial_fixpoint
def aCm (y1:List aJ) (x3:Int) (x5:Int):Option Int :=
  if (decide (x5<(y1.length:Int)))=true then ((idx y1 x5)>>=fun y2=>(E8 y2)>>=fun y3=>aCm y1 (QA .i64 (x3+y3)) (QA .i64 (x5+1))) else (some x3)
  partial_fixpoint
def aBw (p0:aP):Option Int :=
  (aE7 p0)>>=fun y1=>aCm y1 0 0
  partial_fixpoint
end
def qU (p0:aQ) (p1:aP) (x6:Int):Option Bool :=
  if (decide (x6<(p1.names.length:Int)))=true then ((idx p1.names x6)>>=fun y12=>(nY y12)>>=fun y13=>if (!y13)=true then (some false) else (qU p0 p1 (QA .i64 (x6+1)))) else ((yQ p0 p1.tables)>>=fun y14=>some y14.2)
  partial_fixpoint
def rG (p0:aQ) (p1:aP) (x5:Int):Option Bool :=
  if (decide (x5<(p1.on_.length:Int)))=true then ((idx p1.on_ x5)>>=fun y11=>if (decide (1<(y11.length:Int)))=true then (some false) else (rG p0 p1 (QA .i64 (x5+1)))) else (qU p0 p1 0)
  partial_fixpoint
def I9 (p0:aQ) (p1:aP):Option Bool :=
  (fI (p1.tables.length:Int) 1 3)>>=fun y1=>(some (if (!y1)=true then true else (!decide ((p1.on_.length:Int)=(p1.tables.length:Int)))))>>=fun y2=>(if (true&&(y2==false))=true then idx p1.on_ 0 else some default)>>=fun y3=>(some (if y2=true then true else (decide (0<(y3.length:Int)))))>>=fun y4=>(some (if y4=true then true else (decide (1<(p1.where_.length:Int)))))>>=fun y5=>(some (if y5=true then true else (decide (12<(p1.order.length:Int)))))>>=fun y6=>(if (true&&(y6==false))=true then fI (p1.items.length:Int) 1 12 else some default)>>=fun y7=>(some (if y6=true then true else (!y7)))>>=fun y8=>(some (if y8=true then true else (!decide ((p1.names.length:Int)=(p1.items.length:Int)))))>>=fun y9=>(some (if y9=true then true else (decide (p1.limit<(-1)))))>>=fun y10=>if y10=true then (some false) else (rG p0 p1 0)
def yJ (p0:Int):Option Bool :=
  (some (if (decide (p0=0))=true then true else (decide (p0=3))))>>=fun y1=>some y1
def R3 (p0:aA):Option Bool :=
  (kW p0)>>=fun y1=>(if (true&&(y1==true))=true then some (if (!decide (p0.kind=1))=true then true else (decide (0≤p0.num))) else some default)>>=fun y2=>(some (if y1=true then y2 else false))>>=fun y3=>(some (if y3=true then (decide ((p0.text.length:Int)≤40)) else false))>>=fun y4=>some y4
def A8 (p0:List UInt8):Option Bool :=
  (if (true&&((decide (p0=[]))==false))=true then nY p0 else some default)>>=fun y1=>(some (if (decide (p0=[]))=true then true else y1))>>=fun y2=>some y2
def aAs (p0:eO):Option Bool :=
  (if (true&&((!decide (p0.kind=2))==true))=true then some (if (!decide (p0.qual=[]))=true then true else (!decide (p0.name=[]))) else some default)>>=fun y1=>(some (if (!decide (p0.kind=2))=true then y1 else false))>>=fun y2=>(if (true&&(y2==false))=true then some (if (!decide (p0.kind=1))=true then (!((decide (p0.value.kind=0))&&((decide (p0.value.num=0))&&((decide (p0.value.text=[]))&&true)))) else false) else some default)>>=fun y3=>(some (if y2=true then true else y3))>>=fun y4=>if y4=true then (some false) else ((some (if (!decide (p0.kind=3))=true then (!decide (p0.kind=4)) else false))>>=fun y5=>(some (if y5=true then (!decide (p0.op=0)) else false))>>=fun y6=>(if ((true&&(y6==false))&&(p0.not_==true))=true then fI p0.kind 5 8 else some default)>>=fun y7=>(if (true&&(y6==false))=true then some (if p0.not_=true then (!y7) else false) else some default)>>=fun y8=>(some (if y6=true then true else y8))>>=fun y9=>if y9=true then (some false) else (if (decide (p0.kind=1))=true then ((R3 p0.value)>>=fun y10=>(some (if y10=true then (decide ((QA .i64 ((p0.kids.length:Int)+(p0.sub.length:Int)))=0)) else false))>>=fun y11=>some y11) else (if (decide (p0.kind=2))=true then ((nY p0.name)>>=fun y12=>(if (true&&(y12==true))=true then A8 p0.qual else some default)>>=fun y13=>(some (if y12=true then y13 else false))>>=fun y14=>(some (if y14=true then (decide ((QA .i64 ((p0.kids.length:Int)+(p0.sub.length:Int)))=0)) else false))>>=fun y15=>some y15) else (if (decide (p0.kind=3))=true then ((some (if (decide (p0.op=15))=true then true else (decide (p0.op=16))))>>=fun y16=>(some (if y16=true then (decide ((p0.kids.length:Int)=1)) else false))>>=fun y17=>(some (if y17=true then (decide ((p0.sub.length:Int)=0)) else false))>>=fun y18=>some y18) else (if (decide (p0.kind=4))=true then ((fI p0.op 1 14)>>=fun y19=>(some (if y19=true then (decide ((p0.kids.length:Int)=2)) else false))>>=fun y20=>(some (if y20=true then (decide ((p0.sub.length:Int)=0)) else false))>>=fun y21=>some y21) else (if (decide (p0.kind=5))=true then ((some (if (decide ((p0.kids.length:Int)=1))=true then (decide ((p0.sub.length:Int)=0)) else false))>>=fun y22=>some y22) else (if (decide (p0.kind=6))=true then ((some (if (decide ((p0.kids.length:Int)=3))=true then (decide ((p0.sub.length:Int)=0)) else false))>>=fun y23=>some y23) else (if (decide (p0.kind=7))=true then ((fI (p0.kids.length:Int) 2 9)>>=fun y24=>(some (if y24=true then (decide ((p0.sub.length:Int)=0)) else false))>>=fun y25=>some y25) else (if (decide (p0.kind=8))=true then ((some (if (decide ((p0.kids.length:Int)=1))=true then (decide ((p0.sub.length:Int)=1)) else false))>>=fun y26=>some y26) else (if (decide (p0.kind=9))=true then ((some (if (decide ((p0.kids.length:Int)=0))=true then (decide ((p0.sub.length:Int)=1)) else false))>>=fun y27=>some y27) else (some false)))))))))))
def aGx (p0:aJ) (y3:List eO) (y4:List jJ) (nN:List UInt8):Option Bool :=
  (aAs (eO.mk p0.kind p0.op p0.not_ p0.value [] nN y3 y4))>>=fun y5=>some y5
def aAf (p0:aJ):Option Bool :=
  (if (true&&((!decide (p0.kind=2))==true))=true then some (if (!decide (p0.up=0))=true then true else (!decide (p0.at_=0))) else some default)>>=fun y1=>(some (if (!decide (p0.kind=2))=true then y1 else false))>>=fun y2=>if y2=true then (some false) else ((mkG 136 (p0.kids.length:Int) ((eO.mk 0 0 false (aA.mk 0 0 []) [] [] ([]:List eO) ([]:List jJ)):eO))>>=fun y3=>(mkG 112 (p0.sub.length:Int) ((jJ.mk false ([]:List pE) ([]:List oZ) ([]:List eO) ([]:List oU) 0):jJ))>>=fun y4=>if (decide (p0.kind=2))=true then (aGx p0 y3 y4 [97]) else (aGx p0 y3 y4 []))
def sI (p0:Int) (p1:Bool):Option (Int×Bool) :=
  if (!p1)=true then (some (0,false)) else (some (p0,true))
def aC0 (p0:Int) (p1:Int):Option Bool :=
  (some (if (decide (p0=0))=true then true else (decide (p0=p1))))>>=fun y1=>some y1
def aHy (p1:Int) (p2:Int) (x10:Int):Option (Int×Bool) :=
  (aC0 p1 x10)>>=fun y12=>(if (true&&(y12==true))=true then aC0 p2 x10 else some default)>>=fun y13=>(some (if y12=true then y13 else false))>>=fun y14=>(sI x10 y14)>>=fun y15=>some (y15.1,y15.2)
def zR (p0:Int):Option Bool :=
  (fI p0 0 3)>>=fun y1=>some y1
def U3 (p0:Int) (p1:Int):Option (Int×Bool) :=
  (zR p0)>>=fun y1=>(if (true&&((!y1)==false))=true then zR p1 else some default)>>=fun y2=>(some (if (!y1)=true then true else (!y2)))>>=fun y3=>if y3=true then (some (0,false)) else (if (decide (p0=0))=true then (some (p1,true)) else ((some (if (decide (p1=0))=true then true else (decide (p0=p1))))>>=fun y4=>if y4=true then (some (p0,true)) else (some (0,false))))
def aGp (p0:Int) (p1:Int) (p2:Int):Option (Int×Bool) :=
  (fI p0 1 14)>>=fun y1=>(if (true&&((!y1)==false))=true then zR p1 else some default)>>=fun y2=>(some (if (!y1)=true then true else (!y2)))>>=fun y3=>(if (true&&(y3==false))=true then zR p2 else some default)>>=fun y4=>(some (if y3=true then true else (!y4)))>>=fun y5=>if y5=true then (some (0,false)) else (if (decide (p0≤2))=true then ((yJ p1)>>=fun y6=>(if (true&&(y6==true))=true then yJ p2 else some default)>>=fun y7=>(some (if y6=true then y7 else false))>>=fun y8=>(sI 3 y8)>>=fun y9=>some (y9.1,y9.2)) else (if (decide (p0≤8))=true then ((U3 p1 p2)>>=fun y10=>(sI 3 y10.2)>>=fun y11=>some (y11.1,y11.2)) else (if (decide (p0=9))=true then (aHy p1 p2 2) else (aHy p1 p2 1))))
def D7 (p0:List Int) (x3:Int) (x4:Int):Option Bool :=
  if (decide (x4<(p0.length:Int)))=true then ((idx p0 x4)>>=fun y1=>(U3 x3 y1)>>=fun y2=>if (!y2.2)=true then (some false) else (D7 p0 y2.1 (QA .i64 (x4+1)))) else (some true)
  partial_fixpoint
def O4 (p0:List Int):Option Bool :=
  D7 p0 0 0
def yG (p2:aJ) (O1:List Int):Option (Int×Bool) :=
  if (decide (p2.kind=5))=true then (some (3,true)) else ((O4 O1)>>=fun y23=>(sI 3 y23)>>=fun y24=>some (y24.1,y24.2))
def aI1 (p0:Int) (p1:Int):Option (Int×Bool) :=
  if (decide (p0=15))=true then ((yJ p1)>>=fun y1=>(sI 3 y1)>>=fun y2=>some (y2.1,y2.2)) else (if (decide (p0=16))=true then ((aC0 p1 1)>>=fun y3=>(sI 1 y3)>>=fun y4=>some (y4.1,y4.2)) else (some (0,false)))
mutual
def qP (y8:List (List Int)) (p0:aQ) (p2:aP) (x17:List Int) (x18:Int):Option ((List Int)×Bool) :=
  if (decide (x18<(p2.items.length:Int)))=true then ((idx p2.items x18)>>=fun y12=>(yF p0 y8 y12)>>=fun y13=>if (!y13.2)=true then (some (([]:List Int),false)) else ((appG 8 x17 ([y13.1]:List Int))>>=fun y14=>qP y8 p0 p2 y14 (QA .i64 (x18+1)))) else (some (x17,true))
  partial_fixpoint
def rY (y8:List (List Int)) (p0:aQ) (p2:aP) (x14:Int):Option ((List Int)×Bool) :=
  if (decide (x14<(p2.order.length:Int)))=true then ((idx p2.order x14)>>=fun y10=>(yF p0 y8 y10.expr)>>=fun y11=>if (!y11.2)=true then (some (([]:List Int),false)) else (rY y8 p0 p2 (QA .i64 (x14+1)))) else (qP y8 p0 p2 ([]:List Int) 0)
  partial_fixpoint
def oV (p1:List (List Int)) (p0:aQ) (p2:aJ) (x8:List Int) (x9:Int):Option (Int×Bool) :=
  if (decide (x9<(p2.kids.length:Int)))=true then ((idx p2.kids x9)>>=fun y2=>(yF p0 p1 y2)>>=fun y3=>if (!y3.2)=true then (some (0,false)) else ((appG 8 x8 ([y3.1]:List Int))>>=fun y4=>oV p1 p0 p2 y4 (QA .i64 (x9+1)))) else (if (decide (p2.kind=1))=true then (some (p2.value.kind,true)) else (if (decide (p2.kind=2))=true then ((fI p2.up 0 (QA .i64 ((p1.length:Int) - 1)))>>=fun y5=>(if (true&&((!y5)==false))=true then idx p1 p2.up else some default)>>=fun y6=>(if (true&&((!y5)==false))=true then fI p2.at_ 0 (QA .i64 ((y6.length:Int) - 1)) else some default)>>=fun y7=>(some (if (!y5)=true then true else (!y7)))>>=fun y8=>if y8=true then (some (0,false)) else ((idx p1 p2.up)>>=fun y9=>(idx y9 p2.at_)>>=fun y10=>some (y10,true))) else (if (decide (p2.kind=3))=true then ((idx x8 0)>>=fun y11=>(aI1 p2.op y11)>>=fun y12=>some (y12.1,y12.2)) else (if (decide (p2.kind=4))=true then ((idx x8 0)>>=fun y13=>(idx x8 1)>>=fun y14=>(aGp p2.op y13 y14)>>=fun y15=>some (y15.1,y15.2)) else (if (decide (0<(p2.sub.length:Int)))=true then ((idx p2.sub 0)>>=fun y16=>(uM p0 p1 y16)>>=fun y17=>(if (true&&((!y17.2)==false))=true then some (if (decide (p2.kind=8))=true then (!decide ((y17.1.length:Int)=1)) else false) else some default)>>=fun y18=>(some (if (!y17.2)=true then true else y18))>>=fun y19=>if y19=true then (some (0,false)) else (if (decide (p2.kind=8))=true then ((idx y17.1 0)>>=fun y20=>(appG 8 x8 ([y20]:List Int))>>=fun y21=>yG p2 y21) else (yG p2 x8))) else (yG p2 x8))))))
  partial_fixpoint
def yF (p0:aQ) (p1:List (List Int)) (p2:aJ):Option (Int×Bool) :=
  (aAf p2)>>=fun y1=>if (!y1)=true then (some (0,false)) else (oV p1 p0 p2 ([]:List Int) 0)
  partial_fixpoint
def vK (p1:List (List Int)) (p2:List aJ) (p0:aQ) (x7:Int):Option Bool :=
  if (decide (x7<(p2.length:Int)))=true then ((idx p2 x7)>>=fun y1=>(yF p0 p1 y1)>>=fun y2=>(if (true&&((!y2.2)==false))=true then yJ y2.1 else some default)>>=fun y3=>(some (if (!y2.2)=true then true else (!y3)))>>=fun y4=>if y4=true then (some false) else (vK p1 p2 p0 (QA .i64 (x7+1)))) else (some true)
  partial_fixpoint
def xJ (p0:aQ) (p1:List (List Int)) (p2:List aJ):Option Bool :=
  vK p1 p2 p0 0
  partial_fixpoint
def tJ (p1:List (List Int)) (p0:aQ) (p2:aP) (x8:Int):Option ((List Int)×Bool) :=
  if (decide (x8<(p2.on_.length:Int)))=true then ((iW p2.tables 0 (QA .i64 (x8+1)))>>=fun y2=>(yQ p0 y2)>>=fun y3=>(P6 y3.1 p1)>>=fun y4=>(idx p2.on_ x8)>>=fun y5=>(xJ p0 y4 y5)>>=fun y6=>if (!y6)=true then (some (([]:List Int),false)) else (tJ p1 p0 p2 (QA .i64 (x8+1)))) else ((yQ p0 p2.tables)>>=fun y7=>(P6 y7.1 p1)>>=fun y8=>(xJ p0 y8 p2.where_)>>=fun y9=>if (!y9)=true then (some (([]:List Int),false)) else (rY y8 p0 p2 0))
  partial_fixpoint
def uM (p0:aQ) (p1:List (List Int)) (p2:aP):Option ((List Int)×Bool) :=
  (I9 p0 p2)>>=fun y1=>if (!y1)=true then (some (([]:List Int),false)) else (tJ p1 p0 p2 0)
  partial_fixpoint
end
def xW (p0:aQ) (p1:aP):Option Bool :=
  (aFe p0)>>=fun y1=>(if (true&&((!y1)==false))=true then aAy p1 else some default)>>=fun y2=>(some (if (!y1)=true then true else (decide (24<y2))))>>=fun y3=>(if (true&&(y3==false))=true then aBw p1 else some default)>>=fun y4=>(some (if y3=true then true else (decide (200<y4))))>>=fun y5=>if y5=true then (some false) else ((uM p0 ([]:List (List Int)) p1)>>=fun y6=>some y6.2)
def aK2 (p0:aQ) (p1:GDb) (p2:aP):Option ((List (List aA))×Int) :=
  (xW p0 p2)>>=fun y1=>(if (true&&((!y1)==false))=true then H7 p0 p1 else some default)>>=fun y2=>(some (if (!y1)=true then true else (!y2)))>>=fun y3=>if y3=true then (some (([]:List (List aA)),4)) else ((uU p0 p1 ([]:List (List aA)) p2)>>=fun y4=>some (y4.1,y4.2))
def O5 (p0:List (List aA)) (p1:List (List aA)) (x5:Int):Option Bool :=
  if (decide (x5<(p0.length:Int)))=true then ((idx p0 x5)>>=fun y1=>(idx p1 x5)>>=fun y2=>(aDm y1 y2)>>=fun y3=>if (!y3)=true then (some false) else (O5 p0 p1 (QA .i64 (x5+1)))) else (some true)
  partial_fixpoint
def aGb (p0:List (List aA)) (p1:List (List aA)):Option Bool :=
  if (!decide ((p0.length:Int)=(p1.length:Int)))=true then (some false) else (O5 p0 p1 0)
def aL6 (p0:List Int):Option Bool :=
  some (decide (1048576<(p0.length:Int)))
def aJe (p0:List Int):Option Bool :=
  (aL6 p0)>>=fun y1=>if y1=true then (some true) else ((aKb p0)>>=fun y2=>(aAv y2.1 y2.2.1 (aP.mk y2.2.2.tables y2.2.2.on_ ([]:List aJ) y2.2.2.order y2.2.2.items y2.2.2.names y2.2.2.distinct y2.2.2.limit))>>=fun y3=>(aK2 y2.1 y2.2.1 (aP.mk y2.2.2.tables y2.2.2.on_ ([]:List aJ) y2.2.2.order y2.2.2.items y2.2.2.names y2.2.2.distinct y2.2.2.limit))>>=fun y4=>(oO true)>>=fun y5=>(aAv y2.1 y2.2.1 (aP.mk y2.2.2.tables y2.2.2.on_ ([(aJ.mk 1 0 false y5 0 0 ([]:List aJ) ([]:List aP))]:List aJ) y2.2.2.order y2.2.2.items y2.2.2.names y2.2.2.distinct y2.2.2.limit))>>=fun y6=>(aAv y2.1 y2.2.1 (aP.mk y2.2.2.tables y2.2.2.on_ ([(aJ.mk 1 0 false (aA.mk 0 0 []) 0 0 ([]:List aJ) ([]:List aP))]:List aJ) y2.2.2.order y2.2.2.items y2.2.2.names y2.2.2.distinct y2.2.2.limit))>>=fun y7=>(if ((true&&((!decide (y3.2=y4.2))==false))&&((!decide (y6.2=y3.2))==true))=true then xW y2.1 (aP.mk y2.2.2.tables y2.2.2.on_ ([(aJ.mk 1 0 false (aA.mk 0 0 []) 0 0 ([]:List aJ) ([]:List aP))]:List aJ) y2.2.2.order y2.2.2.items y2.2.2.names y2.2.2.distinct y2.2.2.limit) else some default)>>=fun y8=>(if (true&&((!decide (y3.2=y4.2))==false))=true then some (if (!decide (y6.2=y3.2))=true then y8 else false) else some default)>>=fun y9=>(some (if (!decide (y3.2=y4.2))=true then true else y9))>>=fun y10=>if y10=true then (some false) else ((xW y2.1 (aP.mk y2.2.2.tables y2.2.2.on_ ([(aJ.mk 1 0 false (aA.mk 0 0 []) 0 0 ([]:List aJ) ([]:List aP))]:List aJ) y2.2.2.order y2.2.2.items y2.2.2.names y2.2.2.distinct y2.2.2.limit))>>=fun y11=>(if (true&&((!y11)==false))=true then H7 y2.1 y2.2.1 else some default)>>=fun y12=>(some (if (!y11)=true then true else (!y12)))>>=fun y13=>if y13=true then ((some (if (decide (y7.2=4))=true then (decide ((y7.1.length:Int)=0)) else false))>>=fun y14=>some y14) else ((aGb y3.1 y6.1)>>=fun y15=>(some (if y15=true then (decide ((y7.1.length:Int)=0)) else false))>>=fun y16=>(if (true&&(y16==true))=true then some (if (decide (y7.2=0))=true then true else (decide (y7.2=y3.2))) else some default)>>=fun y17=>(some (if y16=true then y17 else false))>>=fun y18=>some y18)))
end Go.Ab
