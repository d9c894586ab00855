/- The functions of the program,as Lean functions (printed by a program). -/
import Derived.Test.YthcemdafchcehaaGreatAbF2
import Derived.Test.YthcemdafchcehaaGreatAbF0
namespace Go.Ab
open Go
open Go.IntKind renaming wrap→QA,bits→QC
open _root_.Int renaming fdiv→QB
structure gG where
  name:(List UInt8)
  type:Int
instance:Inhabited gG:=⟨(gG.mk [] 0)⟩
structure eD where
  name:(List UInt8)
  cols:(List gG)
instance:Inhabited eD:=⟨(eD.mk [] [])⟩
structure aP where
  tables:(List eD)
instance:Inhabited aP:=⟨(aP.mk [])⟩
structure aA where
  kind:Int
  num:Int
  text:(List UInt8)
instance:Inhabited aA:=⟨(aA.mk 0 0 [])⟩
structure fP where
  rows:(List (List aA))
instance:Inhabited fP:=⟨(fP.mk [])⟩
structure GDb where
  tables:(List fP)
instance:Inhabited GDb:=⟨(GDb.mk [])⟩
mutual
structure aJ where
  kind:Int
  op:Int
  not_:Bool
  value:aA
  up:Int
  at_:Int
  kids:(List aJ)
  sub:(List aQ)
structure dI where
  expr:aJ
  desc:Bool
structure aQ where
  tables:(List Int)
  on_:(List (List aJ))
  where_:(List aJ)
  order:(List dI)
  items:(List aJ)
  names:(List (List UInt8))
  distinct:Bool
  limit:Int
end
instance:Inhabited aJ:=⟨(aJ.mk 0 0 false (aA.mk 0 0 []) 0 0 [] [])⟩
instance:Inhabited dI:=⟨(dI.mk (aJ.mk 0 0 false (aA.mk 0 0 []) 0 0 [] []) false)⟩
instance:Inhabited aQ:=⟨(aQ.mk [] [] [] [] [] [] false 0)⟩
mutual
structure eP where
  kind:Int
  op:Int
  not_:Bool
  value:aA
  qual:(List UInt8)
  name:(List UInt8)
  kids:(List eP)
  sub:(List jL)
structure qA where
  star:Bool
  qual:(List UInt8)
  expr:eP
  as_:(List UInt8)
structure jL where
  distinct:Bool
  items:(List qA)
  from_:(List qC)
  where_:(List eP)
  order:(List pU)
  limit:Int
structure pU where
  expr:eP
  desc:Bool
structure qC where
  table:(List UInt8)
  as_:(List UInt8)
  on_:(List eP)
end
instance:Inhabited eP:=⟨(eP.mk 0 0 false (aA.mk 0 0 []) [] [] [] [])⟩
instance:Inhabited qA:=⟨(qA.mk false [] (eP.mk 0 0 false (aA.mk 0 0 []) [] [] [] []) [])⟩
instance:Inhabited jL:=⟨(jL.mk false [] [] [] [] 0)⟩
instance:Inhabited pU:=⟨(pU.mk (eP.mk 0 0 false (aA.mk 0 0 []) [] [] [] []) false)⟩
instance:Inhabited qC:=⟨(qC.mk [] [] [])⟩
structure kG where
  op:Bool
  not_:Bool
  value:Bool
  name:Bool
  least:Int
  most:Int
  subs:Int
instance:Inhabited kG:=⟨(kG.mk false false false false 0 0 0)⟩
structure bP where
  c0:aP
  c1:GDb
  c2:(List (List aA))
  c3:aJ
instance:Inhabited bP:=⟨(bP.mk (aP.mk []) (GDb.mk []) [] (aJ.mk 0 0 false (aA.mk 0 0 []) 0 0 [] []))⟩
structure mX where
  eval:bP
  desc:Bool
instance:Inhabited mX:=⟨(mX.mk (bP.mk (aP.mk []) (GDb.mk []) [] (aJ.mk 0 0 false (aA.mk 0 0 []) 0 0 [] [])) false)⟩
structure aAk where
  c0:(List bP)
instance:Inhabited aAk:=⟨(aAk.mk [])⟩
structure eQ where
  tables:(List (List (List aA)))
  on_:(List (List bP))
  where_:(List bP)
  order:(List mX)
  items:aAk
  distinct:Bool
  limit:Int
instance:Inhabited eQ:=⟨(eQ.mk [] [] [] [] (aAk.mk []) false 0)⟩
structure nR where
  c0:aP
  c1:GDb
  c2:(List (List aA))
instance:Inhabited nR:=⟨(nR.mk (aP.mk []) (GDb.mk []) [])⟩
structure aU where
  row:(List aA)
  keys:(List aA)
instance:Inhabited aU:=⟨(aU.mk [] [])⟩
structure eY where
  c0:eQ
instance:Inhabited eY:=⟨(eY.mk (eQ.mk [] [] [] [] (aAk.mk []) false 0))⟩
structure oW where
  kind:Int
  op:Int
  not_:Bool
  value:aA
  kids:(List aA)
  rows:(List (List aA))
instance:Inhabited oW:=⟨(oW.mk 0 0 false (aA.mk 0 0 []) [] [])⟩
structure aL where
  b:(List Int)
  i:Int
  h:Int
instance:Inhabited aL:=⟨(aL.mk [] 0 0)⟩
def okGCol (x:gG):Prop:=okS x.name∧okI x.type
def okGTable (x:eD):Prop:=okS x.name∧(okL okGCol) x.cols
def okGCatalog (x:aP):Prop:=(okL okGTable) x.tables
def okGValue (x:aA):Prop:=okI x.kind∧okI x.num∧okS x.text
def okGData (x:fP):Prop:=(okL (okL okGValue)) x.rows
def okGDb (x:GDb):Prop:=(okL okGData) x.tables
mutual
def okGPExpr:aJ→Prop
  | ⟨a0,a1,a2,a3,a4,a5,a6,a7⟩=>okI a0∧okI a1∧okB a2∧okGValue a3∧okI a4∧okI a5∧(a6.length≤9223372036854775807∧okLGPExpr a6)∧(a7.length≤9223372036854775807∧okLGPlan a7)
def okGPSort:dI→Prop
  | ⟨a0,a1⟩=>okGPExpr a0∧okB a1
def okGPlan:aQ→Prop
  | ⟨a0,a1,a2,a3,a4,a5,a6,a7⟩=>(okL okI) a0∧(a1.length≤9223372036854775807∧okLLGPExpr a1)∧(a2.length≤9223372036854775807∧okLGPExpr a2)∧(a3.length≤9223372036854775807∧okLGPSort a3)∧(a4.length≤9223372036854775807∧okLGPExpr a4)∧(okL okS) a5∧okB a6∧okI a7
def okLGPExpr:List aJ→Prop
  | []=>True
  | x::l=>okGPExpr x∧okLGPExpr l
def okLGPSort:List dI→Prop
  | []=>True
  | x::l=>okGPSort x∧okLGPSort l
def okLGPlan:List aQ→Prop
  | []=>True
  | x::l=>okGPlan x∧okLGPlan l
def okLLGPExpr:List (List aJ)→Prop
  | []=>True
  | x::l=>(x.length≤9223372036854775807∧okLGPExpr x)∧okLLGPExpr l
end
mutual
def okGExpr:eP→Prop
  | ⟨a0,a1,a2,a3,a4,a5,a6,a7⟩=>okI a0∧okI a1∧okB a2∧okGValue a3∧okS a4∧okS a5∧(a6.length≤9223372036854775807∧okLGExpr a6)∧(a7.length≤9223372036854775807∧okLGQuery a7)
def okGItem:qA→Prop
  | ⟨a0,a1,a2,a3⟩=>okB a0∧okS a1∧okGExpr a2∧okS a3
def okGQuery:jL→Prop
  | ⟨a0,a1,a2,a3,a4,a5⟩=>okB a0∧(a1.length≤9223372036854775807∧okLGItem a1)∧(a2.length≤9223372036854775807∧okLGSource a2)∧(a3.length≤9223372036854775807∧okLGExpr a3)∧(a4.length≤9223372036854775807∧okLGSortKey a4)∧okI a5
def okGSortKey:pU→Prop
  | ⟨a0,a1⟩=>okGExpr a0∧okB a1
def okGSource:qC→Prop
  | ⟨a0,a1,a2⟩=>okS a0∧okS a1∧(a2.length≤9223372036854775807∧okLGExpr a2)
def okLGExpr:List eP→Prop
  | []=>True
  | x::l=>okGExpr x∧okLGExpr l
def okLGItem:List qA→Prop
  | []=>True
  | x::l=>okGItem x∧okLGItem l
def okLGQuery:List jL→Prop
  | []=>True
  | x::l=>okGQuery x∧okLGQuery l
def okLGSortKey:List pU→Prop
  | []=>True
  | x::l=>okGSortKey x∧okLGSortKey l
def okLGSource:List qC→Prop
  | []=>True
  | x::l=>okGSource x∧okLGSource l
end
def okGForm (x:kG):Prop:=okB x.op∧okB x.not_∧okB x.value∧okB x.name∧okI x.least∧okI x.most∧okI x.subs
def okGSortBy (x:mX):Prop:=(fun _=>True) x.eval∧okB x.desc
def okGExecution (x:eQ):Prop:=(okL (okL (okL okGValue))) x.tables∧(okL (okL (fun _=>True))) x.on_∧(okL (fun _=>True)) x.where_∧(okL okGSortBy) x.order∧(fun _=>True) x.items∧okB x.distinct∧okI x.limit
def okGKeyed (x:aU):Prop:=(okL okGValue) x.row∧(okL okGValue) x.keys
def okGNode (x:oW):Prop:=okI x.kind∧okI x.op∧okB x.not_∧okGValue x.value∧(okL okGValue) x.kids∧(okL (okL okGValue)) x.rows
def okGL1Cur (x:aL):Prop:=(okL okU8) x.b∧okI x.i∧okI x.h
def aNm (p0:gG) (c0_0:List UInt8):Option Bool :=
  some (decide (p0.name=c0_0))
def R8 (p0:List gG) (c0_0:List UInt8) (x8:Int):Option Int :=
  if (decide (x8<(p0.length:Int)))=true then ((idx p0 x8)>>=fun y1=>(aNm y1 c0_0)>>=fun y2=>if y2=true then (some x8) else (R8 p0 c0_0 (QA .i64 (x8+1)))) else (some (-1))
  partial_fixpoint
def aMd (p0:List gG) (c0_0:List UInt8):Option Int :=
  R8 p0 c0_0 0
def aHt (p0:eD) (p1:List UInt8):Option Int :=
  (aMd p0.cols p1)>>=fun y1=>some y1
def rA (p0:List UInt8):Option Bool :=
  (some (if (decide (1≤(p0.length:Int)))=true then (decide ((p0.length:Int)≤20)) else false))>>=fun y1=>some y1
def M4 (p0:eD) (x8:Int):Option Bool :=
  if (decide (x8<(p0.cols.length:Int)))=true then ((idx p0.cols x8)>>=fun y1=>(rA y1.name)>>=fun y2=>(some (if (!y2)=true then true else (decide (y1.type<1))))>>=fun y3=>(some (if y3=true then true else (decide (3<y1.type))))>>=fun y4=>(if (true&&(y4==false))=true then aHt p0 y1.name else some default)>>=fun y5=>(some (if y4=true then true else (!decide (y5=x8))))>>=fun y6=>if y6=true then (some false) else (M4 p0 (QA .i64 (x8+1)))) else ((rA p0.name)>>=fun y7=>(some (if y7=true then (decide (1≤(p0.cols.length:Int))) else false))>>=fun y8=>(some (if y8=true then (decide ((p0.cols.length:Int)≤4)) else false))>>=fun y9=>some y9)
  partial_fixpoint
def aI2 (p0:eD):Option Bool :=
  M4 p0 0
def aN0 (p0:eD) (c0_0:List UInt8):Option Bool :=
  some (decide (p0.name=c0_0))
def U8 (p0:List eD) (c0_0:List UInt8) (x8:Int):Option Int :=
  if (decide (x8<(p0.length:Int)))=true then ((idx p0 x8)>>=fun y1=>(aN0 y1 c0_0)>>=fun y2=>if y2=true then (some x8) else (U8 p0 c0_0 (QA .i64 (x8+1)))) else (some (-1))
  partial_fixpoint
def aPf (p0:List eD) (c0_0:List UInt8):Option Int :=
  U8 p0 c0_0 0
def aHl (p0:aP) (p1:List UInt8):Option Int :=
  (aPf p0.tables p1)>>=fun y1=>some y1
def X8 (p0:aP) (x8:Int):Option Bool :=
  if (decide (x8<(p0.tables.length:Int)))=true then ((idx p0.tables x8)>>=fun y1=>(aI2 y1)>>=fun y2=>(if (true&&((!y2)==false))=true then aHl p0 y1.name else some default)>>=fun y3=>(some (if (!y2)=true then true else (!decide (y3=x8))))>>=fun y4=>if y4=true then (some false) else (X8 p0 (QA .i64 (x8+1)))) else (some (decide ((p0.tables.length:Int)≤4)))
  partial_fixpoint
def aCj (p0:aP):Option Bool :=
  X8 p0 0
def rP (p0:aA):Option Bool :=
  if (decide (p0.kind=0))=true then ((some (if (decide (p0.num=0))=true then (decide (p0.text=[])) else false))>>=fun y1=>some y1) else (if (decide (p0.kind=1))=true then (some (decide (p0.text=[]))) else (if (decide (p0.kind=2))=true then ((some (if (decide (p0.num=0))=true then (decide ((p0.text.length:Int)≤200)) else false))>>=fun y2=>some y2) else (if (decide (p0.kind=3))=true then ((some (if (decide (p0.num=0))=true then true else (decide (p0.num=1))))>>=fun y3=>(some (if y3=true then (decide (p0.text=[])) else false))>>=fun y4=>some y4) else (some false))))
def aJp (p0:aA) (p1:Int):Option Bool :=
  (rP p0)>>=fun y1=>(if (true&&(y1==true))=true then some (if (decide (p0.kind=0))=true then true else (decide (p0.kind=p1))) else some default)>>=fun y2=>(some (if y1=true then y2 else false))>>=fun y3=>some y3
def aAj (p1:List Int) (p0:List aA) (x14:Int):Option Bool :=
  if (decide (x14<(p0.length:Int)))=true then ((idx p0 x14)>>=fun y1=>(idx p1 x14)>>=fun y2=>(aJp y1 y2)>>=fun y3=>if (!y3)=true then (some false) else (aAj p1 p0 (QA .i64 (x14+1)))) else (some true)
  partial_fixpoint
def aC4 (p0:List aA) (p1:List Int):Option Bool :=
  if (!decide ((p0.length:Int)=(p1.length:Int)))=true then (some false) else (aAj p1 p0 0)
def aL2 (p0:List aA) (c0_0:List Int):Option Bool :=
  (aC4 p0 c0_0)>>=fun y1=>some (!y1)
def Q6 (p0:List (List aA)) (c0_0:List Int) (x8:Int):Option Int :=
  if (decide (x8<(p0.length:Int)))=true then ((idx p0 x8)>>=fun y1=>(aL2 y1 c0_0)>>=fun y2=>if y2=true then (some x8) else (Q6 p0 c0_0 (QA .i64 (x8+1)))) else (some (-1))
  partial_fixpoint
def aLs (p0:List (List aA)) (c0_0:List Int):Option Int :=
  Q6 p0 c0_0 0
def aHp (p0:List (List aA)) (c0_0:List Int):Option Bool :=
  (aLs p0 c0_0)>>=fun y1=>some (decide (0≤y1))
def wT (p0:eD) (x3:List Int) (x10:Int):Option (List Int) :=
  if (decide (x10<(p0.cols.length:Int)))=true then ((idx p0.cols x10)>>=fun y1=>(appG 8 x3 ([y1.type]:List Int))>>=fun y2=>wT p0 y2 (QA .i64 (x10+1))) else (some x3)
  partial_fixpoint
def V9 (p0:eD):Option (List Int) :=
  wT p0 ([]:List Int) 0
def H6 (p1:GDb) (p0:aP) (x23:Int):Option Bool :=
  if (decide (x23<(p1.tables.length:Int)))=true then ((idx p1.tables x23)>>=fun y3=>(idx p0.tables x23)>>=fun y4=>(V9 y4)>>=fun y5=>(if (true&&((decide (6<(y3.rows.length:Int)))==false))=true then aHp y3.rows y5 else some (default:Bool))>>=fun y6=>(some (if (decide (6<(y3.rows.length:Int)))=true then true else y6))>>=fun y7=>if y7=true then (some false) else (H6 p1 p0 (QA .i64 (x23+1)))) else (some true)
  partial_fixpoint
def aEj (p0:aP) (p1:GDb):Option Bool :=
  (aCj p0)>>=fun y1=>(some (if (!y1)=true then true else (!decide ((p1.tables.length:Int)=(p0.tables.length:Int)))))>>=fun y2=>if y2=true then (some false) else (H6 p1 p0 0)
def aBn (p1:aP) (p2:GDb) (p3:List (List aA)) (p0:List aJ) (x6:List bP) (x12:Int):Option (List bP) :=
  if (decide (x12<(p0.length:Int)))=true then ((idx p0 x12)>>=fun y1=>(appG 8 x6 ([(bP.mk p1 p2 p3 y1)]:List bP))>>=fun y2=>aBn p1 p2 p3 p0 y2 (QA .i64 (x12+1))) else (some x6)
  partial_fixpoint
def aAo (p0:List aJ) (p1:aP) (p2:GDb) (p3:List (List aA)):Option (List bP) :=
  aBn p1 p2 p3 p0 ([]:List bP) 0
def wI (p0:List (List aA)) (x6:List aA) (x27:Int):Option (List aA) :=
  if (decide (x27<(p0.length:Int)))=true then ((idx p0 x27)>>=fun y3=>(appG 32 x6 y3)>>=fun y4=>wI p0 y4 (QA .i64 (x27+1))) else (some x6)
  partial_fixpoint
def aL0 (p0:List aA) (p1:Int):Option (List aA) :=
  aKs 32 p0 p1
mutual
def aFc (p0:List (List aA)) (x3:Int) (y1:List aA) (x11:Int):Option (List aA) :=
  yE p0 (QA .i64 (x3+(y1.length:Int))) (QA .i64 (x11+1))
  partial_fixpoint
def yE (p0:List (List aA)) (x3:Int) (x11:Int):Option (List aA) :=
  if (decide (x11<(p0.length:Int)))=true then ((idx p0 x11)>>=fun y1=>if (decide ((QA .i64 (x3+(y1.length:Int)))<0))=true then (none) else (aFc p0 x3 y1 x11)) else ((aL0 ([]:List aA) x3)>>=fun y2=>wI p0 y2 0)
  partial_fixpoint
end
def aH4 (p0:List (List aA)):Option (List aA) :=
  yE p0 0 0
def aJy (p0:aA):Option Bool :=
  (some (if (decide (p0.kind=3))=true then (decide (p0.num=1)) else false))>>=fun y1=>some y1
def aN8 (jR:Int):Option aA :=
  some (aA.mk 3 jR [])
def rV (p0:Bool):Option aA :=
  if p0=true then (aN8 1) else (aN8 0)
def aF8 (p0:Int) (p1:Int):Option (Int×Bool) :=
  (some (if (decide (0<p1))=true then (decide ((QA .i64 (9223372036854775807 - p1))<p0)) else false))>>=fun y1=>(if (true&&(y1==false))=true then some (if (decide (p1<0))=true then (decide (p0<(QA .i64 ((-9223372036854775808) - p1)))) else false) else some default)>>=fun y2=>(some (if y1=true then true else y2))>>=fun y3=>if y3=true then (some (0,false)) else (some ((QA .i64 (p0+p1)),true))
def Z8 (p0:Int):Option aA :=
  some (aA.mk 1 p0 [])
def aG9 (x8:Int) (x9:Bool):Option (aA×Int) :=
  if (!x9)=true then (some ((aA.mk 0 0 []),2)) else ((Z8 x8)>>=fun y5=>some (y5,0))
def aPm (p0:Int) (p1:Int) (p2:Int):Option (aA×Int) :=
  if (decide (p2=0))=true then (some ((aA.mk 0 0 []),3)) else (if (decide (p0=14))=true then ((xX p1 p2)>>=fun y1=>(Z8 y1)>>=fun y2=>some (y2,0)) else ((some (if (decide (p1=(-9223372036854775808)))=true then (decide (p2=(-1))) else false))>>=fun y3=>if y3=true then (some ((aA.mk 0 0 []),2)) else ((xZ .i64 p1 p2)>>=fun y4=>(Z8 y4)>>=fun y5=>some (y5,0))))
def aHi (p0:Int) (p1:Int):Option (Int×Bool) :=
  (if (true&&((!decide (p0=0))==true))=true then xZ .i64 (QA .i64 (p0 * p1)) p0 else some default)>>=fun y1=>(if ((true&&((!decide (p0=0))==true))&&((!decide (y1=p1))==false))=true then some (if (decide (p0=(-1)))=true then (decide (p1=(-9223372036854775808))) else false) else some default)>>=fun y2=>(if (true&&((!decide (p0=0))==true))=true then some (if (!decide (y1=p1))=true then true else y2) else some default)>>=fun y3=>(some (if (!decide (p0=0))=true then y3 else false))>>=fun y4=>if y4=true then (some (0,false)) else (some ((QA .i64 (p0 * p1)),true))
def aF2 (p0:Int) (p1:Int):Option (Int×Bool) :=
  (some (if (decide (p1<0))=true then (decide ((QA .i64 (9223372036854775807+p1))<p0)) else false))>>=fun y1=>(if (true&&(y1==false))=true then some (if (decide (0<p1))=true then (decide (p0<(QA .i64 ((-9223372036854775808)+p1)))) else false) else some default)>>=fun y2=>(some (if y1=true then true else y2))>>=fun y3=>if y3=true then (some (0,false)) else (some ((QA .i64 (p0 - p1)),true))
def aE6 (p0:Int) (p1:Int) (p2:Int):Option (aA×Int) :=
  if (decide (p0=10))=true then ((aF8 p1 p2)>>=fun y1=>aG9 y1.1 y1.2) else (if (decide (p0=11))=true then ((aF2 p1 p2)>>=fun y2=>aG9 y2.1 y2.2) else (if (decide (p0=12))=true then ((aHi p1 p2)>>=fun y3=>aG9 y3.1 y3.2) else ((aPm p0 p1 p2)>>=fun y4=>some (y4.1,y4.2))))
def aHf (p0:Int):Option Bool :=
  some (!decide (p0=p0))
def aEq (p0:Int) (p1:Int):Option Int :=
  (aHf p0)>>=fun y1=>(aHf p1)>>=fun y2=>if y1=true then (if y2=true then (some 0) else (some (-1))) else (if y2=true then (some 1) else (if (decide (p0<p1))=true then (some (-1)) else (if (decide (p1<p0))=true then (some 1) else (some 0))))
def aIs (p0:List UInt8):Option Bool :=
  some (!decide (p0=p0))
def aIv (p0:List UInt8) (p1:List UInt8):Option Int :=
  (aIs p0)>>=fun y1=>(aIs p1)>>=fun y2=>if y1=true then (if y2=true then (some 0) else (some (-1))) else (if y2=true then (some 1) else (if (Op.bytesLess p0 p1)=true then (some (-1)) else (if (!(Op.bytesLess p0 p1||decide (p0=p1)))=true then (some 1) else (some 0))))
def zB (p0:List Int) (x8:Int):Option Int :=
  if (decide (x8<(p0.length:Int)))=true then ((idx p0 x8)>>=fun y1=>if (!decide (y1=0))=true then (some y1) else (zB p0 (QA .i64 (x8+1)))) else (some 0)
  partial_fixpoint
def aHw (p0:List Int):Option Int :=
  zB p0 0
def aFk (p0:aA) (p1:aA):Option Int :=
  (aEq p0.kind p1.kind)>>=fun y1=>(aEq p0.num p1.num)>>=fun y2=>(aIv p0.text p1.text)>>=fun y3=>(aHw ([y1,y2,y3]:List Int))>>=fun y4=>some y4
def aCs (p0:Int) (p1:aA) (p2:aA):Option aA :=
  (aFk p1 p2)>>=fun y1=>if (decide (p0=3))=true then ((rV (decide (y1=0)))>>=fun y2=>some y2) else (if (decide (p0=4))=true then ((rV (!decide (y1=0)))>>=fun y3=>some y3) else (if (decide (p0=5))=true then ((rV (decide (y1<0)))>>=fun y4=>some y4) else (if (decide (p0=6))=true then ((rV (decide (y1≤0)))>>=fun y5=>some y5) else (if (decide (p0=7))=true then ((rV (decide (0<y1)))>>=fun y6=>some y6) else ((rV (decide (0≤y1)))>>=fun y7=>some y7)))))
def R3 (p0:Int) (p1:aA):Option Bool :=
  (some (if (decide (p1.kind=0))=true then true else (decide (p0≤8))))>>=fun y1=>if y1=true then (some true) else (if (decide (p0=9))=true then (some (decide (p1.kind=2))) else (some (decide (p1.kind=1))))
def aAn (p0:Int) (p1:aA) (p2:aA) (x15:Int):Option (aA×Int) :=
  if (decide (x15<(([p1,p2]:List aA).length:Int)))=true then ((idx ([p1,p2]:List aA) x15)>>=fun y1=>(some (if (!decide (y1.kind=3))=true then (!decide (y1.kind=0)) else false))>>=fun y2=>if y2=true then (some ((aA.mk 0 0 []),1)) else (aAn p0 p1 p2 (QA .i64 (x15+1)))) else ((rV (decide (p0=1)))>>=fun y3=>(some (if ((decide (p1.kind=y3.kind))&&((decide (p1.num=y3.num))&&((decide (p1.text=y3.text))&&true)))=true then true else ((decide (p2.kind=y3.kind))&&((decide (p2.num=y3.num))&&((decide (p2.text=y3.text))&&true)))))>>=fun y4=>if y4=true then (some (y3,0)) else ((some (if (decide (p1.kind=0))=true then true else (decide (p2.kind=0))))>>=fun y5=>if y5=true then (some ((aA.mk 0 0 []),0)) else ((rV (decide (p0=2)))>>=fun y6=>some (y6,0))))
  partial_fixpoint
def aJb (p0:Int) (p1:aA) (p2:aA):Option (aA×Int) :=
  aAn p0 p1 p2 0
def aLb (p0:List UInt8):Option aA :=
  some (aA.mk 2 0 p0)
def tF (p0:Int) (p1:aA) (p2:aA):Option (aA×Int) :=
  (some (if (decide (p0<1))=true then true else (decide (14<p0))))>>=fun y1=>(if (true&&(y1==false))=true then rP p1 else some default)>>=fun y2=>(some (if y1=true then true else (!y2)))>>=fun y3=>(if (true&&(y3==false))=true then rP p2 else some default)>>=fun y4=>(some (if y3=true then true else (!y4)))>>=fun y5=>if y5=true then (some ((aA.mk 0 0 []),1)) else (if (decide (p0≤2))=true then ((aJb p0 p1 p2)>>=fun y6=>some (y6.1,y6.2)) else ((some (if (decide (p1.kind=0))=true then true else (decide (p2.kind=0))))>>=fun y7=>(R3 p0 p1)>>=fun y8=>(if (true&&((!y8)==false))=true then R3 p0 p2 else some default)>>=fun y9=>(some (if (!y8)=true then true else (!y9)))>>=fun y10=>(if (true&&(y10==false))=true then some (if (decide (p0≤8))=true then (!y7) else false) else some default)>>=fun y11=>(if (true&&(y10==false))=true then some (if y11=true then (!decide (p1.kind=p2.kind)) else false) else some default)>>=fun y12=>(some (if y10=true then true else y12))>>=fun y13=>if y13=true then (some ((aA.mk 0 0 []),1)) else (if y7=true then (some ((aA.mk 0 0 []),0)) else (if (decide (p0≤8))=true then ((aCs p0 p1 p2)>>=fun y14=>some (y14,0)) else (if (!decide (p0=9))=true then ((aE6 p0 p1.num p2.num)>>=fun y15=>some (y15.1,y15.2)) else (if (decide (200<(QA .i64 ((p1.text.length:Int)+(p2.text.length:Int)))))=true then (some ((aA.mk 0 0 []),2)) else ((Y6 p1.text p2.text)>>=fun y16=>(aLb y16)>>=fun y17=>some (y17,0))))))))
def aK1 (p0:aA) (p1:aA) (p2:aA):Option (aA×Int) :=
  (tF 8 p0 p1)>>=fun y1=>if (!decide (y1.2=0))=true then (some ((aA.mk 0 0 []),y1.2)) else ((tF 6 p0 p2)>>=fun y2=>if (!decide (y2.2=0))=true then (some ((aA.mk 0 0 []),y2.2)) else ((tF 2 y1.1 y2.1)>>=fun y3=>some (y3.1,y3.2)))
def O5 (p1:List aA) (p0:aA) (x14:Int) (jC:Int) (jA:Int) (jD:List UInt8):Option (aA×Int) :=
  if (decide (x14<(p1.length:Int)))=true then ((idx p1 x14)>>=fun y2=>(tF 3 p0 y2)>>=fun y3=>if (!decide (y3.2=0))=true then (some ((aA.mk 0 0 []),y3.2)) else ((tF 1 (aA.mk jC jA jD) y3.1)>>=fun y4=>if (!decide (y4.2=0))=true then (some ((aA.mk 0 0 []),y4.2)) else (O5 p1 p0 (QA .i64 (x14+1)) y4.1.kind y4.1.num y4.1.text))) else (some ((aA.mk jC jA jD),0))
  partial_fixpoint
def aG2 (p0:aA) (p1:List aA):Option (aA×Int) :=
  (rV false)>>=fun y1=>O5 p1 p0 0 y1.kind y1.num y1.text
def zG (p0:oW) (x4:List aA) (x42:Int):Option (aA×Int) :=
  if (decide (x42<(p0.rows.length:Int)))=true then ((idx p0.rows x42)>>=fun y8=>if (decide ((y8.length:Int)=0))=true then (some ((aA.mk 0 0 []),4)) else ((idx y8 0)>>=fun y9=>(appG 32 x4 ([y9]:List aA))>>=fun y10=>zG p0 y10 (QA .i64 (x42+1)))) else ((idx p0.kids 0)>>=fun y11=>(aG2 y11 x4)>>=fun y12=>some (y12.1,y12.2))
  partial_fixpoint
def aE0 (p0:oW):Option (aA×Int) :=
  if (decide (p0.kind=6))=true then ((idx p0.kids 0)>>=fun y1=>(idx p0.kids 1)>>=fun y2=>(idx p0.kids 2)>>=fun y3=>(aK1 y1 y2 y3)>>=fun y4=>some (y4.1,y4.2)) else (if (decide (p0.kind=7))=true then ((idx p0.kids 0)>>=fun y5=>(iP p0.kids 1 (p0.kids.length:Int))>>=fun y6=>(aG2 y5 y6)>>=fun y7=>some (y7.1,y7.2)) else (zG p0 ([]:List aA) 0))
def aB8 (p0:Int) (p1:aA):Option (aA×Int) :=
  (rP p1)>>=fun y1=>(if (true&&((!y1)==false))=true then some (if (!decide (p0=15))=true then (!decide (p0=16)) else false) else some default)>>=fun y2=>(some (if (!y1)=true then true else y2))>>=fun y3=>if y3=true then (some ((aA.mk 0 0 []),1)) else (if (decide (p1.kind=0))=true then (some ((aA.mk 0 0 []),0)) else ((some (if (decide (p0=15))=true then (decide (p1.kind=3)) else false))>>=fun y4=>if y4=true then ((rV (decide (p1.num=0)))>>=fun y5=>some (y5,0)) else ((some (if (decide (p0=16))=true then (decide (p1.kind=1)) else false))>>=fun y6=>if y6=true then ((aE6 11 0 p1.num)>>=fun y7=>some (y7.1,y7.2)) else (some ((aA.mk 0 0 []),1)))))
def aHd (p0:oW):Option (aA×Int) :=
  if (decide (p0.kind=1))=true then (some (p0.value,0)) else (if (decide (p0.kind=3))=true then ((idx p0.kids 0)>>=fun y1=>(aB8 p0.op y1)>>=fun y2=>some (y2.1,y2.2)) else (if (decide (p0.kind=4))=true then ((idx p0.kids 0)>>=fun y3=>(idx p0.kids 1)>>=fun y4=>(tF p0.op y3 y4)>>=fun y5=>some (y5.1,y5.2)) else (if (decide (p0.kind=5))=true then ((idx p0.kids 0)>>=fun y6=>(rV (!((decide (y6.kind=0))==p0.not_)))>>=fun y7=>some (y7,0)) else (if (decide (p0.kind=9))=true then ((rV (decide (0<(p0.rows.length:Int))))>>=fun y8=>some (y8,0)) else ((aE0 p0)>>=fun y9=>if (!decide (y9.2=0))=true then (some ((aA.mk 0 0 []),y9.2)) else (if p0.not_=true then ((aB8 15 y9.1)>>=fun y10=>some (y10.1,y10.2)) else (some (y9.1,0))))))))
def G7 (p0:aA):Option Bool :=
  (rP p0)>>=fun y1=>(if (true&&(y1==true))=true then some (if (!decide (p0.kind=1))=true then true else (decide (0≤p0.num))) else some default)>>=fun y2=>(some (if y1=true then y2 else false))>>=fun y3=>(some (if y3=true then (decide ((p0.text.length:Int)≤40)) else false))>>=fun y4=>some y4
def yM (p0:eP):Option (kG×Bool) :=
  if (decide (p0.kind=1))=true then ((G7 p0.value)>>=fun y1=>some ((kG.mk false false true false 0 0 0),y1)) else (if (decide (p0.kind=2))=true then ((rA p0.name)>>=fun y2=>(if ((true&&(y2==true))&&((decide (p0.qual=[]))==false))=true then rA p0.qual else some default)>>=fun y3=>(if (true&&(y2==true))=true then some (if (decide (p0.qual=[]))=true then true else y3) else some default)>>=fun y4=>(some (if y2=true then y4 else false))>>=fun y5=>some ((kG.mk false false false true 0 0 0),y5)) else (if (decide (p0.kind=3))=true then ((some (if (decide (p0.op=15))=true then true else (decide (p0.op=16))))>>=fun y6=>some ((kG.mk true false false false 1 1 0),y6)) else (if (decide (p0.kind=4))=true then ((some (if (decide (1≤p0.op))=true then (decide (p0.op≤14)) else false))>>=fun y7=>some ((kG.mk true false false false 2 2 0),y7)) else (if (decide (p0.kind=5))=true then (some ((kG.mk false true false false 1 1 0),true)) else (if (decide (p0.kind=6))=true then (some ((kG.mk false true false false 3 3 0),true)) else (if (decide (p0.kind=7))=true then (some ((kG.mk false true false false 2 9 0),true)) else (if (decide (p0.kind=8))=true then (some ((kG.mk false true false false 1 1 1),true)) else (if (decide (p0.kind=9))=true then (some ((kG.mk false false false false 0 0 1),true)) else (some ((kG.mk false false false false 0 0 0),false))))))))))
def aK0 (p0:Int) (T9:Int):Option (kG×Bool) :=
  (yM (eP.mk p0 T9 false (aA.mk 0 0 []) [] [120] ([]:List eP) ([]:List jL)))>>=fun y1=>some (y1.1,y1.2)
def aPw (p0:Int):Option (kG×Bool) :=
  if (decide (p0=4))=true then (aK0 p0 1) else (aK0 p0 15)
def aJ8 (p0:Int) (p1:Int) (p2:Int):Option Bool :=
  (aPw p0)>>=fun y1=>(some (if y1.2=true then (decide (y1.1.least≤p1)) else false))>>=fun y2=>(some (if y2=true then (decide (p1≤y1.1.most)) else false))>>=fun y3=>(some (if y3=true then (decide (p2=y1.1.subs)) else false))>>=fun y4=>some y4
def aGu (p0:List aA):Option (List aA) :=
  if (decide ((p0.length:Int)=0))=true then (some ([]:List aA)) else ((appG 32 ([]:List aA) p0)>>=fun y1=>some y1)
def Q8 (p0:List aA) (p1:List aA) (x13:Int):Option Bool :=
  if (decide (x13<(p0.length:Int)))=true then ((idx p0 x13)>>=fun y1=>(idx p1 x13)>>=fun y2=>if (!((decide (y1.kind=y2.kind))&&((decide (y1.num=y2.num))&&((decide (y1.text=y2.text))&&true))))=true then (some false) else (Q8 p0 p1 (QA .i64 (x13+1)))) else (some true)
  partial_fixpoint
def aKj (p0:List aA) (p1:List aA):Option Bool :=
  if (!decide ((p0.length:Int)=(p1.length:Int)))=true then (some false) else (Q8 p0 p1 0)
def aQ0 (p0:List aA) (c0_0:List aA):Option Bool :=
  (aKj c0_0 p0)>>=fun y1=>some y1
def M8 (p0:List (List aA)) (c0_0:List aA) (x8:Int):Option Int :=
  if (decide (x8<(p0.length:Int)))=true then ((idx p0 x8)>>=fun y1=>(aQ0 y1 c0_0)>>=fun y2=>if y2=true then (some x8) else (M8 p0 c0_0 (QA .i64 (x8+1)))) else (some (-1))
  partial_fixpoint
def aO9 (p0:List (List aA)) (c0_0:List aA):Option Int :=
  M8 p0 c0_0 0
def aHv (p0:List (List aA)) (c0_0:List aA):Option Bool :=
  (aO9 p0 c0_0)>>=fun y1=>some (decide (0≤y1))
mutual
def aCg (p0:List (List aA)) (x9:Int) (qQ:List (List aA)):Option (List (List aA)) :=
  aBy p0 qQ (QA .i64 (x9+1))
  partial_fixpoint
def aBy (p0:List (List aA)) (x3:List (List aA)) (x9:Int):Option (List (List aA)) :=
  if (decide (x9<(p0.length:Int)))=true then ((idx p0 x9)>>=fun y1=>(aHv x3 y1)>>=fun y2=>if (!y2)=true then ((aGu y1)>>=fun y3=>(appG 24 x3 ([y3]:List (List aA)))>>=fun y4=>aCg p0 x9 y4) else (aCg p0 x9 x3)) else (some x3)
  partial_fixpoint
end
def aBe (p0:List (List aA)):Option (List (List aA)) :=
  aBy p0 ([]:List (List aA)) 0
def aIo (U4:List (List aA)):Option ((List (List aA))×Int) :=
  some (U4,0)
def yO (p0:eQ) (uR:List (List aA)):Option ((List (List aA))×Int) :=
  (some (if (decide (0≤p0.limit))=true then (decide (p0.limit<(uR.length:Int))) else false))>>=fun y8=>if y8=true then ((iP uR 0 p0.limit)>>=fun y9=>aIo y9) else (aIo uR)
mutual
def aDb (p2:eQ) (x12:Int) (p0:aU) (p1:aU) (x8:Int):Option Int :=
  if (!decide (x8=0))=true then (some x8) else (aDd p2 p0 p1 (QA .i64 (x12+1)))
  partial_fixpoint
def aDd (p2:eQ) (p0:aU) (p1:aU) (x12:Int):Option Int :=
  if (decide (x12<(p2.order.length:Int)))=true then ((idx p2.order x12)>>=fun y1=>(idx p0.keys x12)>>=fun y2=>(idx p1.keys x12)>>=fun y3=>(aFk y2 y3)>>=fun y4=>if y1.desc=true then (aDb p2 x12 p0 p1 (QA .i64 (0 - y4))) else (aDb p2 x12 p0 p1 y4)) else (some 0)
  partial_fixpoint
end
def vU (p0:aU) (p1:aU) (p2:eQ):Option Int :=
  aDd p2 p0 p1 0
mutual
def aA1 (p1:Int) (p2:Int) (p3:eY) (x8:Int) (x9:Int) (fE:List aU):Option (List aU) :=
  (if (true&&((decide (p1<x9))==true))=true then idx fE x9 else some default)>>=fun y2=>(if (true&&((decide (p1<x9))==true))=true then idx fE x9 else some default)>>=fun y3=>(if (true&&((decide (p1<x9))==true))=true then idx fE (QA .i64 (x9 - 1)) else some default)>>=fun y4=>(if (true&&((decide (p1<x9))==true))=true then idx fE (QA .i64 (x9 - 1)) else some default)>>=fun y5=>(if (true&&((decide (p1<x9))==true))=true then vU y3 y5 p3.c0 else some default)>>=fun y6=>(some (if (decide (p1<x9))=true then (decide (y6<0)) else false))>>=fun y7=>if y7=true then ((idx fE (QA .i64 (x9 - 1)))>>=fun y8=>(idx fE (QA .i64 (x9 - 1)))>>=fun y9=>(idx fE x9)>>=fun y10=>(idx fE x9)>>=fun y11=>(idx fE x9)>>=fun y12=>(qB fE x9 y9)>>=fun y13=>(idx y13 (QA .i64 (x9 - 1)))>>=fun y14=>(qB y13 (QA .i64 (x9 - 1)) y11)>>=fun y15=>aA1 p1 p2 p3 x8 (QA .i64 (x9 - 1)) y15) else (zX p1 p2 p3 (QA .i64 (x8+1)) fE)
  partial_fixpoint
def zX (p1:Int) (p2:Int) (p3:eY) (x8:Int) (bD:List aU):Option (List aU) :=
  if (decide (x8<p2))=true then (aA1 p1 p2 p3 x8 x8 bD) else (some bD)
  partial_fixpoint
end
def aDz (p0:List aU) (p1:Int) (p2:Int) (p3:eY):Option (List aU) :=
  zX p1 p2 p3 (QA .i64 (p1+1)) p0
def aIt (p1:Int) (p2:Int) (p3:Int) (x10:Int) (bD:List aU):Option (List aU) :=
  if (decide (x10<p3))=true then ((idx bD (QA .i64 (p2+x10)))>>=fun y1=>(idx bD (QA .i64 (p2+x10)))>>=fun y2=>(idx bD (QA .i64 (p1+x10)))>>=fun y3=>(idx bD (QA .i64 (p1+x10)))>>=fun y4=>(idx bD (QA .i64 (p1+x10)))>>=fun y5=>(qB bD (QA .i64 (p1+x10)) y2)>>=fun y6=>(idx y6 (QA .i64 (p2+x10)))>>=fun y7=>(qB y6 (QA .i64 (p2+x10)) y4)>>=fun y8=>aIt p1 p2 p3 (QA .i64 (x10+1)) y8) else (some bD)
  partial_fixpoint
def aIc (p0:List aU) (p1:Int) (p2:Int) (p3:Int) (p4:eY):Option (List aU) :=
  aIt p1 p2 p3 0 p0
def aEn (p2:Int) (p4:eY) (x10:Int) (x11:Int) (bD:List aU):Option (List aU) :=
  if (!decide (x10=x11))=true then (if (decide (x11<x10))=true then ((aIc bD (QA .i64 (p2 - x10)) p2 x11 p4)>>=fun y1=>aEn p2 p4 (QA .i64 (x10 - x11)) x11 y1) else ((aIc bD (QA .i64 (p2 - x10)) (QA .i64 ((QA .i64 (p2+x11)) - x10)) x10 p4)>>=fun y2=>aEn p2 p4 x10 (QA .i64 (x11 - x10)) y2)) else ((aIc bD (QA .i64 (p2 - x10)) p2 x10 p4)>>=fun y3=>some y3)
  partial_fixpoint
def aXu (p0:List aU) (p1:Int) (p2:Int) (p3:Int) (p4:eY):Option (List aU) :=
  aEn p2 p4 (QA .i64 (p2 - p1)) (QA .i64 (p3 - p2)) p0
def aJ4 (x10:Int) (x13:Int) (bD:List aU):Option (List aU) :=
  if (decide (x13<(QA .i64 (x10 - 1))))=true then ((idx bD (QA .i64 (x13+1)))>>=fun y14=>(idx bD (QA .i64 (x13+1)))>>=fun y15=>(idx bD x13)>>=fun y16=>(idx bD x13)>>=fun y17=>(idx bD x13)>>=fun y18=>(qB bD x13 y15)>>=fun y19=>(idx y19 (QA .i64 (x13+1)))>>=fun y20=>(qB y19 (QA .i64 (x13+1)) y17)>>=fun y21=>aJ4 x10 (QA .i64 (x13+1)) y21) else (some bD)
  partial_fixpoint
def aF6 (p1:Int) (p4:eY) (p0:List aU) (x10:Int) (x11:Int):Option (List aU) :=
  if (decide (x10<x11))=true then ((idx p0 (QA .i64 (QB (QA .u64 (QA .i64 (x10+x11))) (2 ^ 1))))>>=fun y1=>(idx p0 (QA .i64 (QB (QA .u64 (QA .i64 (x10+x11))) (2 ^ 1))))>>=fun y2=>(idx p0 p1)>>=fun y3=>(idx p0 p1)>>=fun y4=>(vU y2 y4 p4.c0)>>=fun y5=>if (decide (y5<0))=true then (aF6 p1 p4 p0 (QA .i64 ((QA .i64 (QB (QA .u64 (QA .i64 (x10+x11))) (2 ^ 1)))+1)) x11) else (aF6 p1 p4 p0 x10 (QA .i64 (QB (QA .u64 (QA .i64 (x10+x11))) (2 ^ 1))))) else (aJ4 x10 p1 p0)
  partial_fixpoint
def aGf (x14:Int) (x17:Int) (iR:List aU):Option (List aU) :=
  if (decide (x14<x17))=true then ((idx iR (QA .i64 (x17 - 1)))>>=fun y22=>(idx iR (QA .i64 (x17 - 1)))>>=fun y23=>(idx iR x17)>>=fun y24=>(idx iR x17)>>=fun y25=>(idx iR x17)>>=fun y26=>(qB iR x17 y23)>>=fun y27=>(idx y27 (QA .i64 (x17 - 1)))>>=fun y28=>(qB y27 (QA .i64 (x17 - 1)) y25)>>=fun y29=>aGf x14 (QA .i64 (x17 - 1)) y29) else (some iR)
  partial_fixpoint
def aEi (p2:Int) (p4:eY) (p0:List aU) (x14:Int) (x15:Int):Option (List aU) :=
  if (decide (x14<x15))=true then ((idx p0 p2)>>=fun y6=>(idx p0 p2)>>=fun y7=>(idx p0 (QA .i64 (QB (QA .u64 (QA .i64 (x14+x15))) (2 ^ 1))))>>=fun y8=>(idx p0 (QA .i64 (QB (QA .u64 (QA .i64 (x14+x15))) (2 ^ 1))))>>=fun y9=>(vU y7 y9 p4.c0)>>=fun y10=>if (!(decide (y10<0)))=true then (aEi p2 p4 p0 (QA .i64 ((QA .i64 (QB (QA .u64 (QA .i64 (x14+x15))) (2 ^ 1)))+1)) x15) else (aEi p2 p4 p0 x14 (QA .i64 (QB (QA .u64 (QA .i64 (x14+x15))) (2 ^ 1))))) else (aGf x14 p2 p0)
  partial_fixpoint
mutual
def aJr (p3:Int) (p4:eY) (p1:Int) (p2:Int) (dF:Int) (pX:List aU):Option (List aU) :=
  (some (if (decide ((QA .i64 (QB (QA .u64 (QA .i64 (p1+p3))) (2 ^ 1)))<(QA .i64 ((QA .i64 ((QA .i64 (QB (QA .u64 (QA .i64 (p1+p3))) (2 ^ 1)))+p2)) - dF))))=true then (decide ((QA .i64 ((QA .i64 ((QA .i64 (QB (QA .u64 (QA .i64 (p1+p3))) (2 ^ 1)))+p2)) - dF))<p3)) else false))>>=fun y41=>if y41=true then ((aDp pX (QA .i64 (QB (QA .u64 (QA .i64 (p1+p3))) (2 ^ 1))) (QA .i64 ((QA .i64 ((QA .i64 (QB (QA .u64 (QA .i64 (p1+p3))) (2 ^ 1)))+p2)) - dF)) p3 p4)>>=fun y42=>some y42) else (some pX)
  partial_fixpoint
def aOs (p1:Int) (p3:Int) (p4:eY) (dF:Int) (p2:Int) (pV:List aU):Option (List aU) :=
  (some (if (decide (p1<dF))=true then (decide (dF<(QA .i64 (QB (QA .u64 (QA .i64 (p1+p3))) (2 ^ 1))))) else false))>>=fun y38=>if y38=true then ((aDp pV p1 dF (QA .i64 (QB (QA .u64 (QA .i64 (p1+p3))) (2 ^ 1))) p4)>>=fun y39=>aJr p3 p4 p1 p2 dF y39) else (aJr p3 p4 p1 p2 dF pV)
  partial_fixpoint
def aIa (p1:Int) (p2:Int) (p3:Int) (p4:eY) (p0:List aU) (dF:Int) (iV:Int):Option (List aU) :=
  if (decide (dF<iV))=true then ((idx p0 (QA .i64 ((QA .i64 ((QA .i64 ((QA .i64 (QB (QA .u64 (QA .i64 (p1+p3))) (2 ^ 1)))+p2)) - 1)) - (QA .i64 (QB (QA .u64 (QA .i64 (dF+iV))) (2 ^ 1))))))>>=fun y30=>(idx p0 (QA .i64 ((QA .i64 ((QA .i64 ((QA .i64 (QB (QA .u64 (QA .i64 (p1+p3))) (2 ^ 1)))+p2)) - 1)) - (QA .i64 (QB (QA .u64 (QA .i64 (dF+iV))) (2 ^ 1))))))>>=fun y31=>(idx p0 (QA .i64 (QB (QA .u64 (QA .i64 (dF+iV))) (2 ^ 1))))>>=fun y32=>(idx p0 (QA .i64 (QB (QA .u64 (QA .i64 (dF+iV))) (2 ^ 1))))>>=fun y33=>(vU y31 y33 p4.c0)>>=fun y34=>if (!(decide (y34<0)))=true then (aIa p1 p2 p3 p4 p0 (QA .i64 ((QA .i64 (QB (QA .u64 (QA .i64 (dF+iV))) (2 ^ 1)))+1)) iV) else (aIa p1 p2 p3 p4 p0 dF (QA .i64 (QB (QA .u64 (QA .i64 (dF+iV))) (2 ^ 1))))) else ((some (if (decide (dF<p2))=true then (decide (p2<(QA .i64 ((QA .i64 ((QA .i64 (QB (QA .u64 (QA .i64 (p1+p3))) (2 ^ 1)))+p2)) - dF)))) else false))>>=fun y35=>if y35=true then ((aXu p0 dF p2 (QA .i64 ((QA .i64 ((QA .i64 (QB (QA .u64 (QA .i64 (p1+p3))) (2 ^ 1)))+p2)) - dF)) p4)>>=fun y36=>aOs p1 p3 p4 dF p2 y36) else (aOs p1 p3 p4 dF p2 p0))
  partial_fixpoint
def aNv (p1:Int) (p2:Int) (p3:Int) (p4:eY) (p0:List aU) (x20:Int) (x21:Int):Option (List aU) :=
  aIa p1 p2 p3 p4 p0 x20 x21
  partial_fixpoint
def aDp (p0:List aU) (p1:Int) (p2:Int) (p3:Int) (p4:eY):Option (List aU) :=
  if (decide ((QA .i64 (p2 - p1))=1))=true then (aF6 p1 p4 p0 p2 p3) else (if (decide ((QA .i64 (p3 - p2))=1))=true then (aEi p2 p4 p0 p1 p2) else (if (decide ((QA .i64 (QB (QA .u64 (QA .i64 (p1+p3))) (2 ^ 1)))<p2))=true then (aNv p1 p2 p3 p4 p0 (QA .i64 ((QA .i64 ((QA .i64 (QB (QA .u64 (QA .i64 (p1+p3))) (2 ^ 1)))+p2)) - p3)) (QA .i64 (QB (QA .u64 (QA .i64 (p1+p3))) (2 ^ 1)))) else (aNv p1 p2 p3 p4 p0 p1 p2)))
  partial_fixpoint
end
mutual
def aJ6 (p1:Int) (p2:eY) (x6:Int) (rQ:List aU):Option (List aU) :=
  aKr p1 p2 (QA .i64 (x6 * 2)) rQ
  partial_fixpoint
def aO0 (p1:Int) (p2:eY) (x6:Int) (nL:Int) (oD:Int) (pG:List aU):Option (List aU) :=
  if (decide (oD≤p1))=true then ((aDp pG nL (QA .i64 (nL+x6)) oD p2)>>=fun y7=>aO0 p1 p2 x6 oD (QA .i64 (oD+(QA .i64 (2 * x6)))) y7) else (if (decide ((QA .i64 (nL+x6))<p1))=true then ((aDp pG nL (QA .i64 (nL+x6)) p1 p2)>>=fun y8=>aJ6 p1 p2 x6 y8) else (aJ6 p1 p2 x6 pG))
  partial_fixpoint
def aKr (p1:Int) (p2:eY) (x6:Int) (qI:List aU):Option (List aU) :=
  if (decide (x6<p1))=true then (aO0 p1 p2 x6 0 (QA .i64 (2 * x6)) qI) else (some qI)
  partial_fixpoint
end
def aFn (p1:Int) (p2:eY) (x7:Int) (x8:Int) (bD:List aU):Option (List aU) :=
  if (decide (x8≤p1))=true then ((aDz bD x7 x8 p2)>>=fun y1=>aFn p1 p2 x8 (QA .i64 (x8+20)) y1) else ((aDz bD x7 p1 p2)>>=fun y2=>aKr p1 p2 20 y2)
  partial_fixpoint
def aNd (p0:List aU) (p1:Int) (p2:eY):Option (List aU) :=
  aFn p1 p2 0 20 p0
def aIb (p0:List aU) (p1:eY):Option (List aU) :=
  (aNd p0 (p0.length:Int) p1)>>=fun y1=>some y1
def O0 (y2:List aU) (x14:List (List aA)) (x60:Int):Option ((List (List aA))×Int) :=
  if (decide (x60<(y2.length:Int)))=true then ((idx y2 x60)>>=fun y7=>(idx y2 x60)>>=fun y8=>(appG 24 x14 ([y8.row]:List (List aA)))>>=fun y9=>O0 y2 y9 (QA .i64 (x60+1))) else (some (x14,0))
  partial_fixpoint
mutual
def aD6 (y1:List aA) (p1:List (List aA)) (x20:Int) (p0:eQ) (iC:List aU) (x9:List aA) (x28:Int):Option ((List (List aA))×Int) :=
  if (decide (x28<(p0.order.length:Int)))=true then ((idx p0.order x28)>>=fun y3=>(nU y1 y3.eval.c0 y3.eval.c1 y3.eval.c2 y3.eval.c3)>>=fun y4=>if (!decide (y4.2=0))=true then (some (([]:List (List aA)),y4.2)) else ((appG 32 x9 ([y4.1]:List aA))>>=fun y5=>aD6 y1 p1 x20 p0 iC y5 (QA .i64 (x28+1)))) else ((appG 48 iC ([(aU.mk y1 x9)]:List aU))>>=fun y6=>L6 p1 p0 (QA .i64 (x20+1)) y6)
  partial_fixpoint
def L6 (p1:List (List aA)) (p0:eQ) (x20:Int) (iC:List aU):Option ((List (List aA))×Int) :=
  if (decide (x20<(p1.length:Int)))=true then ((idx p1 x20)>>=fun y1=>aD6 y1 p1 x20 p0 iC ([]:List aA) 0) else ((aIb iC (eY.mk p0))>>=fun y2=>O0 y2 ([]:List (List aA)) 0)
  partial_fixpoint
def aJz (p0:eQ) (p1:List (List aA)):Option ((List (List aA))×Int) :=
  L6 p1 p0 0 ([]:List aU)
  partial_fixpoint
def aFy (p1:List aA) (p0:List bP) (x6:List aA) (x14:Int):Option ((List aA)×Int) :=
  if (decide (x14<(p0.length:Int)))=true then ((idx p0 x14)>>=fun y1=>(nU p1 y1.c0 y1.c1 y1.c2 y1.c3)>>=fun y2=>if (!decide (y2.2=0))=true then (some (([]:List aA),y2.2)) else ((appG 32 x6 ([y2.1]:List aA))>>=fun y3=>aFy p1 p0 y3 (QA .i64 (x14+1)))) else (some (x6,0))
  partial_fixpoint
def aNl (p0:List bP) (p1:List aA):Option ((List aA)×Int) :=
  aFy p1 p0 ([]:List aA) 0
  partial_fixpoint
def aFp (p0:List aA) (p1:List bP):Option ((List aA)×Int) :=
  (aNl p1 p0)>>=fun y1=>some (y1.1,y1.2)
  partial_fixpoint
def aDw (y2:(List (List aA))×Int) (p0:eQ) (x6:List (List aA)) (x31:Int):Option ((List (List aA))×Int) :=
  if (decide (x31<(y2.1.length:Int)))=true then ((idx y2.1 x31)>>=fun y3=>(aFp y3 p0.items.c0)>>=fun y4=>if (!decide (y4.2=0))=true then (some (([]:List (List aA)),y4.2)) else ((appG 24 x6 ([y4.1]:List (List aA)))>>=fun y5=>aDw y2 p0 y5 (QA .i64 (x31+1)))) else (if p0.distinct=true then ((aBe x6)>>=fun y6=>yO p0 y6) else (yO p0 x6))
  partial_fixpoint
def zA (p2:List (List aA)) (p3:aJ) (p0:aP) (p1:GDb) (gM:List aA) (oM:Int) (qP:List (List aA)):Option (aA×Int) :=
  if (decide (oM<(p3.sub.length:Int)))=true then ((idx p3.sub oM)>>=fun y11=>(xO p0 p1 p2 y11)>>=fun y12=>if (!decide (y12.2=0))=true then (some ((aA.mk 0 0 []),y12.2)) else (zA p2 p3 p0 p1 gM (QA .i64 (oM+1)) y12.1)) else ((aHd (oW.mk p3.kind p3.op p3.not_ p3.value gM qP))>>=fun y13=>some (y13.1,y13.2))
  partial_fixpoint
def aC2 (p2:List (List aA)) (p3:aJ) (p0:aP) (p1:GDb) (x81:Int) (gM:List aA):Option (aA×Int) :=
  if (decide (x81<(p3.kids.length:Int)))=true then ((idx p3.kids x81)>>=fun y8=>(vC p0 p1 p2 y8)>>=fun y9=>if (!decide (y9.2=0))=true then (some ((aA.mk 0 0 []),y9.2)) else ((appG 32 gM ([y9.1]:List aA))>>=fun y10=>aC2 p2 p3 p0 p1 (QA .i64 (x81+1)) y10)) else (zA p2 p3 p0 p1 gM 0 ([]:List (List aA)))
  partial_fixpoint
def vC (p0:aP) (p1:GDb) (p2:List (List aA)) (p3:aJ):Option (aA×Int) :=
  (aJ8 p3.kind (p3.kids.length:Int) (p3.sub.length:Int))>>=fun y1=>if (!y1)=true then (some ((aA.mk 0 0 []),4)) else (if (decide (p3.kind=2))=true then ((some (if (decide (p3.up<0))=true then true else (decide ((p2.length:Int)≤p3.up))))>>=fun y2=>(some (if y2=true then true else (decide (p3.at_<0))))>>=fun y3=>(if (true&&(y3==false))=true then idx p2 p3.up else some default)>>=fun y4=>(some (if y3=true then true else (decide ((y4.length:Int)≤p3.at_))))>>=fun y5=>if y5=true then (some ((aA.mk 0 0 []),4)) else ((idx p2 p3.up)>>=fun y6=>(idx y6 p3.at_)>>=fun y7=>some (y7,0))) else (aC2 p2 p3 p0 p1 0 ([]:List aA)))
  partial_fixpoint
def nU (p0:List aA) (p1:aP) (p2:GDb) (p3:List (List aA)) (p4:aJ):Option (aA×Int) :=
  (appG 24 ([p0]:List (List aA)) p3)>>=fun y1=>(vC p1 p2 y1 p4)>>=fun y2=>some (y2.1,y2.2)
  partial_fixpoint
def aEt (y1:bP) (p1:List bP) (x15:Int) (x0:List (List aA)) (x22:Int) (qX:List (List aA)):Option ((List (List aA))×Int) :=
  L8 y1 p1 x15 x0 qX (QA .i64 (x22+1))
  partial_fixpoint
def L8 (y1:bP) (p1:List bP) (x15:Int) (x0:List (List aA)) (x8:List (List aA)) (x22:Int):Option ((List (List aA))×Int) :=
  if (decide (x22<(x0.length:Int)))=true then ((idx x0 x22)>>=fun y2=>(nU y2 y1.c0 y1.c1 y1.c2 y1.c3)>>=fun y3=>if (!decide (y3.2=0))=true then (some (([]:List (List aA)),y3.2)) else ((aJy y3.1)>>=fun y4=>if y4=true then ((appG 24 x8 ([y2]:List (List aA)))>>=fun y5=>aEt y1 p1 x15 x0 x22 y5) else (aEt y1 p1 x15 x0 x22 x8))) else (Y2 p1 x8 (QA .i64 (x15+1)))
  partial_fixpoint
def Y2 (p1:List bP) (x0:List (List aA)) (x15:Int):Option ((List (List aA))×Int) :=
  if (decide (x15<(p1.length:Int)))=true then ((idx p1 x15)>>=fun y1=>L8 y1 p1 x15 x0 ([]:List (List aA)) 0) else (some (x0,0))
  partial_fixpoint
def aAv (p0:List (List aA)) (p1:List bP):Option ((List (List aA))×Int) :=
  Y2 p1 p0 0
  partial_fixpoint
def aCy (x19:Int) (y1:List (List aA)) (y3:List aA) (p0:eQ) (x4:List (List aA)) (x27:Int) (mO:(List (List aA))×Int):Option ((List (List aA))×Int) :=
  if (decide (mO.2<(y1.length:Int)))=true then ((idx y1 mO.2)>>=fun y7=>(aH4 ([y3,y7]:List (List aA)))>>=fun y8=>(appG 24 mO.1 ([y8]:List (List aA)))>>=fun y9=>aCy x19 y1 y3 p0 x4 x27 (y9,(QA .i64 (mO.2+1)))) else (M6 x19 y1 p0 x4 mO.1 (QA .i64 (x27+1)))
  partial_fixpoint
def M6 (x19:Int) (y1:List (List aA)) (p0:eQ) (x4:List (List aA)) (x7:List (List aA)) (x27:Int):Option ((List (List aA))×Int) :=
  if (decide (x27<(x4.length:Int)))=true then ((idx x4 x27)>>=fun y3=>aCy x19 y1 y3 p0 x4 x27 (x7,0)) else ((idx p0.on_ x19)>>=fun y5=>(aAv x7 y5)>>=fun y6=>if (!decide (y6.2=0))=true then (some (([]:List (List aA)),y6.2)) else (N9 p0 y6.1 (QA .i64 (x19+1))))
  partial_fixpoint
def N9 (p0:eQ) (x4:List (List aA)) (x19:Int):Option ((List (List aA))×Int) :=
  if (decide (x19<(p0.tables.length:Int)))=true then ((idx p0.tables x19)>>=fun y1=>M6 x19 y1 p0 x4 ([]:List (List aA)) 0) else ((aAv x4 p0.where_)>>=fun y2=>some (y2.1,y2.2))
  partial_fixpoint
def aLo (p0:eQ):Option ((List (List aA))×Int) :=
  N9 p0 ([([]:List aA)]:List (List aA)) 0
  partial_fixpoint
def aAg (p0:eQ):Option ((List (List aA))×Int) :=
  (aLo p0)>>=fun y1=>if (!decide (y1.2=0))=true then (some (([]:List (List aA)),y1.2)) else ((aJz p0 y1.1)>>=fun y2=>if (!decide (y2.2=0))=true then (some (([]:List (List aA)),y2.2)) else (aDw y2 p0 ([]:List (List aA)) 0))
  partial_fixpoint
def aCh (p0:aP) (p1:GDb) (p2:List (List aA)) (p3:aQ) (eH:List (List (List aA))) (gU:List (List bP)) (ky9:(List bP)×Int×(List mX)):Option ((List (List aA))×Int) :=
  if (decide (ky9.2.1<(p3.order.length:Int)))=true then ((idx p3.order ky9.2.1)>>=fun y10=>(aAo ([y10.expr]:List aJ) ((nR.mk p0 p1 p2).c0) ((nR.mk p0 p1 p2).c1) ((nR.mk p0 p1 p2).c2))>>=fun y11=>(idx y11 0)>>=fun y12=>(appG 16 ky9.2.2 ([(mX.mk y12 y10.desc)]:List mX))>>=fun y13=>aCh p0 p1 p2 p3 eH gU (ky9.1,(QA .i64 (ky9.2.1+1)),y13)) else ((aAo p3.items ((nR.mk p0 p1 p2).c0) ((nR.mk p0 p1 p2).c1) ((nR.mk p0 p1 p2).c2))>>=fun y14=>(aAg (eQ.mk eH gU ky9.1 ky9.2.2 (aAk.mk y14) p3.distinct p3.limit))>>=fun y15=>some (y15.1,y15.2))
  partial_fixpoint
def P5 (p0:aP) (p1:GDb) (p2:List (List aA)) (p3:aQ) (eH:List (List (List aA))) (x69:Int) (gU:List (List bP)):Option ((List (List aA))×Int) :=
  if (decide (x69<(p3.on_.length:Int)))=true then ((idx p3.on_ x69)>>=fun y6=>(aAo y6 ((nR.mk p0 p1 p2).c0) ((nR.mk p0 p1 p2).c1) ((nR.mk p0 p1 p2).c2))>>=fun y7=>(appG 24 gU ([y7]:List (List bP)))>>=fun y8=>P5 p0 p1 p2 p3 eH (QA .i64 (x69+1)) y8) else ((aAo p3.where_ ((nR.mk p0 p1 p2).c0) ((nR.mk p0 p1 p2).c1) ((nR.mk p0 p1 p2).c2))>>=fun y9=>aCh p0 p1 p2 p3 eH gU (y9,0,([]:List mX)))
  partial_fixpoint
def aBr (p3:aQ) (p0:aP) (p1:GDb) (p2:List (List aA)) (x40:Int) (eH:List (List (List aA))):Option ((List (List aA))×Int) :=
  if (decide (x40<(p3.tables.length:Int)))=true then ((idx p3.tables x40)>>=fun y2=>(some (if (decide (y2<0))=true then true else (decide ((p1.tables.length:Int)≤y2))))>>=fun y3=>if y3=true then (some (([]:List (List aA)),4)) else ((idx p1.tables y2)>>=fun y4=>(appG 24 eH ([y4.rows]:List (List (List aA))))>>=fun y5=>aBr p3 p0 p1 p2 (QA .i64 (x40+1)) y5)) else (P5 p0 p1 p2 p3 eH 0 ([]:List (List bP)))
  partial_fixpoint
def xO (p0:aP) (p1:GDb) (p2:List (List aA)) (p3:aQ):Option ((List (List aA))×Int) :=
  (some (if (decide ((p3.tables.length:Int)=0))=true then true else (!decide ((p3.on_.length:Int)=(p3.tables.length:Int)))))>>=fun y1=>if y1=true then (some (([]:List (List aA)),4)) else (aBr p3 p0 p1 p2 0 ([]:List (List (List aA))))
  partial_fixpoint
end
def aJ5 (p0:Int) (p1:Int):Option Bool :=
  (some (if (decide (p0≤24))=true then (decide (p1≤200)) else false))>>=fun y1=>some y1
def yZ (p0:aQ) (fC:List aJ) (x27:Int):Option (List aJ) :=
  if (decide (x27<(p0.order.length:Int)))=true then ((idx p0.order x27)>>=fun y5=>(appG 120 fC ([y5.expr]:List aJ))>>=fun y6=>yZ p0 y6 (QA .i64 (x27+1))) else ((appG 120 fC p0.items)>>=fun y7=>some y7)
  partial_fixpoint
def aDc (p0:aQ) (x3:List aJ) (x12:Int):Option (List aJ) :=
  if (decide (x12<(p0.on_.length:Int)))=true then ((idx p0.on_ x12)>>=fun y1=>(appG 120 x3 y1)>>=fun y2=>aDc p0 y2 (QA .i64 (x12+1))) else ((appG 120 x3 p0.where_)>>=fun y3=>yZ p0 y3 0)
  partial_fixpoint
def aFg (p0:aQ):Option (List aJ) :=
  aDc p0 ([]:List aJ) 0
mutual
def aD0 (p0:aJ) (x3:Int) (x12:Int):Option Int :=
  if (decide (x12<(p0.sub.length:Int)))=true then ((idx p0.sub x12)>>=fun y2=>(I4 y2)>>=fun y3=>aD0 p0 (if y3>x3 then y3 else x3) (QA .i64 (x12+1))) else (some (QA .i64 (1+x3)))
  partial_fixpoint
def aA4 (p0:aJ):Option Int :=
  (aFr p0.kids)>>=fun y1=>aD0 p0 y1 0
  partial_fixpoint
def aB6 (p0:List aJ) (x3:Int) (x8:Int):Option Int :=
  if (decide (x8<(p0.length:Int)))=true then ((idx p0 x8)>>=fun y1=>(aA4 y1)>>=fun y2=>aB6 p0 (if y2>x3 then y2 else x3) (QA .i64 (x8+1))) else (some x3)
  partial_fixpoint
def aFr (p0:List aJ):Option Int :=
  aB6 p0 0 0
  partial_fixpoint
def I4 (p0:aQ):Option Int :=
  (aFg p0)>>=fun y1=>(aFr y1)>>=fun y2=>some y2
  partial_fixpoint
end
mutual
def aC9 (p0:aJ) (x3:Int) (x13:Int):Option Int :=
  if (decide (x13<(p0.sub.length:Int)))=true then ((idx p0.sub x13)>>=fun y2=>(zM y2)>>=fun y3=>aC9 p0 (QA .i64 (x3+y3)) (QA .i64 (x13+1))) else (some x3)
  partial_fixpoint
def F8 (p0:aJ):Option Int :=
  (aDm p0.kids)>>=fun y1=>aC9 p0 (QA .i64 (1+y1)) 0
  partial_fixpoint
def aEr (p0:List aJ) (x3:Int) (x8:Int):Option Int :=
  if (decide (x8<(p0.length:Int)))=true then ((idx p0 x8)>>=fun y1=>(F8 y1)>>=fun y2=>aEr p0 (QA .i64 (x3+y2)) (QA .i64 (x8+1))) else (some x3)
  partial_fixpoint
def aDm (p0:List aJ):Option Int :=
  aEr p0 0 0
  partial_fixpoint
def zM (p0:aQ):Option Int :=
  (aFg p0)>>=fun y1=>(aDm y1)>>=fun y2=>some y2
  partial_fixpoint
end
def aGq (p0:List aJ):Option Bool :=
  some (decide (1<(p0.length:Int)))
def aAs (p0:List (List aJ)) (x8:Int):Option Int :=
  if (decide (x8<(p0.length:Int)))=true then ((idx p0 x8)>>=fun y1=>(aGq y1)>>=fun y2=>if y2=true then (some x8) else (aAs p0 (QA .i64 (x8+1)))) else (some (-1))
  partial_fixpoint
def aPp (p0:List (List aJ)):Option Int :=
  aAs p0 0
def aGw (p0:List (List aJ)):Option Bool :=
  (aPp p0)>>=fun y1=>some (decide (0≤y1))
def aKl (p0:List UInt8):Option Bool :=
  (rA p0)>>=fun y1=>some (!y1)
def U9 (p0:List (List UInt8)) (x8:Int):Option Int :=
  if (decide (x8<(p0.length:Int)))=true then ((idx p0 x8)>>=fun y1=>(aKl y1)>>=fun y2=>if y2=true then (some x8) else (U9 p0 (QA .i64 (x8+1)))) else (some (-1))
  partial_fixpoint
def aN6 (p0:List (List UInt8)):Option Int :=
  U9 p0 0
def aHa (p0:List (List UInt8)):Option Bool :=
  (aN6 p0)>>=fun y1=>some (decide (0≤y1))
def aIz (p0:aQ):Option Bool :=
  (some (if (decide ((p0.tables.length:Int)<1))=true then true else (decide (3<(p0.tables.length:Int)))))>>=fun y1=>(some (if y1=true then true else (!decide ((p0.on_.length:Int)=(p0.tables.length:Int)))))>>=fun y2=>(if (true&&(y2==false))=true then idx p0.on_ 0 else some default)>>=fun y3=>(some (if y2=true then true else (decide (0<(y3.length:Int)))))>>=fun y4=>(some (if y4=true then true else (decide (1<(p0.where_.length:Int)))))>>=fun y5=>(some (if y5=true then true else (decide (12<(p0.order.length:Int)))))>>=fun y6=>if y6=true then (some false) else ((some (if (decide (1≤(p0.items.length:Int)))=true then (decide ((p0.items.length:Int)≤12)) else false))>>=fun y7=>(some (if y7=true then (decide ((p0.names.length:Int)=(p0.items.length:Int))) else false))>>=fun y8=>(some (if y8=true then (decide ((-1)≤p0.limit)) else false))>>=fun y9=>(if (true&&(y9==true))=true then aGw p0.on_ else some default)>>=fun y10=>(some (if y9=true then (!y10) else false))>>=fun y11=>(if (true&&(y11==true))=true then aHa p0.names else some default)>>=fun y12=>(some (if y11=true then (!y12) else false))>>=fun y13=>some y13)
def wL (p0:Int):Option Bool :=
  (some (if (decide (p0=0))=true then true else (decide (p0=3))))>>=fun y1=>some y1
def aBo (p0:aJ):Option Bool :=
  (yM (eP.mk p0.kind p0.op false p0.value [] [120] ([]:List eP) ([]:List jL)))>>=fun y1=>(if (true&&(y1.2==true))=true then some (if y1.1.op=true then true else (decide (p0.op=0))) else some default)>>=fun y2=>(some (if y1.2=true then y2 else false))>>=fun y3=>(if (true&&(y3==true))=true then some (if y1.1.not_=true then true else (!p0.not_)) else some default)>>=fun y4=>(some (if y3=true then y4 else false))>>=fun y5=>(if (true&&(y5==true))=true then some (if y1.1.value=true then true else ((decide (p0.value.kind=0))&&((decide (p0.value.num=0))&&((decide (p0.value.text=[]))&&true)))) else some default)>>=fun y6=>(some (if y5=true then y6 else false))>>=fun y7=>(if ((true&&(y7==true))&&(y1.1.name==false))=true then some (if (decide (p0.up=0))=true then (decide (p0.at_=0)) else false) else some default)>>=fun y8=>(if (true&&(y7==true))=true then some (if y1.1.name=true then true else y8) else some default)>>=fun y9=>(some (if y7=true then y9 else false))>>=fun y10=>(some (if y10=true then (decide (y1.1.least≤(p0.kids.length:Int))) else false))>>=fun y11=>(some (if y11=true then (decide ((p0.kids.length:Int)≤y1.1.most)) else false))>>=fun y12=>(some (if y12=true then (decide ((p0.sub.length:Int)=y1.1.subs)) else false))>>=fun y13=>some y13
def aA8 (p0:Int) (p1:Int) (p2:Int):Option Bool :=
  (some (if (decide (p1=p0))=true then true else (decide (p1=0))))>>=fun y1=>(if (true&&(y1==true))=true then some (if (decide (p2=p0))=true then true else (decide (p2=0))) else some default)>>=fun y2=>(some (if y1=true then y2 else false))>>=fun y3=>some y3
def I9 (x8:Int) (x9:Bool):Option (Int×Bool) :=
  if (!x9)=true then (some (0,false)) else (some (x8,true))
def aEp (p0:Int):Option Bool :=
  (some (if (decide (0≤p0))=true then (decide (p0≤3)) else false))>>=fun y1=>some y1
def xQ (p0:Int) (p1:Int):Option (Int×Bool) :=
  (aEp p0)>>=fun y1=>(if (true&&((!y1)==false))=true then aEp p1 else some default)>>=fun y2=>(some (if (!y1)=true then true else (!y2)))>>=fun y3=>if y3=true then (some (0,false)) else (if (decide (p0=0))=true then (some (p1,true)) else ((some (if (decide (p1=0))=true then true else (decide (p0=p1))))>>=fun y4=>if y4=true then (some (p0,true)) else (some (0,false))))
def R7 (p0:Int) (p1:Int) (p2:Int):Option (Int×Bool) :=
  (some (if (decide (p0<1))=true then true else (decide (14<p0))))>>=fun y1=>if y1=true then (I9 0 false) else (if (decide (p0≤2))=true then ((wL p1)>>=fun y2=>(if (true&&(y2==true))=true then wL p2 else some default)>>=fun y3=>(some (if y2=true then y3 else false))>>=fun y4=>I9 3 y4) else (if (decide (p0≤8))=true then ((xQ p1 p2)>>=fun y5=>I9 3 y5.2) else (if (decide (p0=9))=true then ((aA8 2 p1 p2)>>=fun y6=>I9 2 y6) else ((aA8 1 p1 p2)>>=fun y7=>I9 1 y7))))
def aHk (p0:List Int):Option (List Int) :=
  if (decide ((p0.length:Int)=0))=true then (some ([]:List Int)) else ((appG 8 ([]:List Int) p0)>>=fun y1=>some y1)
def xM (p0:List Int) (x4:Int) (x11:Int):Option (Int×Bool) :=
  if (decide (x11<(p0.length:Int)))=true then ((idx p0 x11)>>=fun y1=>(xQ x4 y1)>>=fun y2=>if (!y2.2)=true then (some (0,false)) else (xM p0 y2.1 (QA .i64 (x11+1)))) else (some (x4,true))
  partial_fixpoint
def aAr (p0:List Int):Option (Int×Bool) :=
  xM p0 0 0
def uX (p1:List Int) (p2:List Int) (x40:Bool):Option (Int×Bool) :=
  if x40=true then (some (3,true)) else ((aHk p1)>>=fun y6=>(appG 8 y6 p2)>>=fun y7=>(aAr y7)>>=fun y8=>if (!y8.2)=true then (some (0,false)) else (some (3,true)))
def X5 (p0:Int) (p1:Int):Option (Int×Bool) :=
  (if (true&&((decide (p0=15))==true))=true then wL p1 else some default)>>=fun y1=>(some (if (decide (p0=15))=true then y1 else false))>>=fun y2=>if y2=true then (some (3,true)) else ((if (true&&((decide (p0=16))==true))=true then aA8 1 p1 p1 else some default)>>=fun y3=>(some (if (decide (p0=16))=true then y3 else false))>>=fun y4=>if y4=true then (some (1,true)) else (some (0,false)))
def qJ (p0:aJ) (p1:List Int) (p2:List Int):Option (Int×Bool) :=
  if (decide (p0.kind=1))=true then (some (p0.value.kind,true)) else (if (decide (p0.kind=3))=true then ((idx p1 0)>>=fun y1=>(X5 p0.op y1)>>=fun y2=>some (y2.1,y2.2)) else (if (decide (p0.kind=4))=true then ((idx p1 0)>>=fun y3=>(idx p1 1)>>=fun y4=>(R7 p0.op y3 y4)>>=fun y5=>some (y5.1,y5.2)) else (if (decide (p0.kind=5))=true then (uX p1 p2 (decide (p0.kind=5))) else (uX p1 p2 (decide (p0.kind=9))))))
def aE4 (p0:List Int) (p1:List (List Int)):Option (List (List Int)) :=
  (appG 24 ([p0]:List (List Int)) p1)>>=fun y1=>some y1
def U7 (p1:List Int) (p0:aP) (x6:List Int) (x12:Int):Option ((List Int)×Bool) :=
  if (decide (x12<(p1.length:Int)))=true then ((idx p1 x12)>>=fun y1=>(some (if (decide (y1<0))=true then true else (decide ((p0.tables.length:Int)≤y1))))>>=fun y2=>if y2=true then (some (([]:List Int),false)) else ((idx p0.tables y1)>>=fun y3=>(V9 y3)>>=fun y4=>(appG 8 x6 y4)>>=fun y5=>U7 p1 p0 y5 (QA .i64 (x12+1)))) else (some (x6,true))
  partial_fixpoint
def aEw (p0:aP) (p1:List Int):Option ((List Int)×Bool) :=
  U7 p1 p0 ([]:List Int) 0
mutual
def vO (y9:List (List Int)) (p2:aQ) (p0:aP) (x19:List Int) (x95:Int):Option ((List Int)×Bool) :=
  if (decide (x95<(p2.items.length:Int)))=true then ((idx p2.items x95)>>=fun y13=>(pR p0 y9 y13)>>=fun y14=>if (!y14.2)=true then (some (([]:List Int),false)) else ((appG 8 x19 ([y14.1]:List Int))>>=fun y15=>vO y9 p2 p0 y15 (QA .i64 (x95+1)))) else (some (x19,true))
  partial_fixpoint
def wH (y9:List (List Int)) (p2:aQ) (p0:aP) (x76:Int):Option ((List Int)×Bool) :=
  if (decide (x76<(p2.order.length:Int)))=true then ((idx p2.order x76)>>=fun y11=>(pR p0 y9 y11.expr)>>=fun y12=>if (!y12.2)=true then (some (([]:List Int),false)) else (wH y9 p2 p0 (QA .i64 (x76+1)))) else (vO y9 p2 p0 ([]:List Int) 0)
  partial_fixpoint
def pW (p1:List (List Int)) (x8:List Int) (p2:aJ) (p0:aP) (x9:List Int) (x85:Int):Option (Int×Bool) :=
  if (decide (x85<(p2.sub.length:Int)))=true then ((idx p2.sub x85)>>=fun y11=>(yD p0 p1 y11)>>=fun y12=>(if (true&&((!y12.2)==false))=true then some (if (decide (p2.kind=8))=true then (!decide ((y12.1.length:Int)=1)) else false) else some default)>>=fun y13=>(some (if (!y12.2)=true then true else y13))>>=fun y14=>if y14=true then (some (0,false)) else (pW p1 x8 p2 p0 y12.1 (QA .i64 (x85+1)))) else ((qJ p2 x8 x9)>>=fun y15=>some (y15.1,y15.2))
  partial_fixpoint
def qM (p1:List (List Int)) (p2:aJ) (p0:aP) (x8:List Int) (x64:Int):Option (Int×Bool) :=
  if (decide (x64<(p2.kids.length:Int)))=true then ((idx p2.kids x64)>>=fun y8=>(pR p0 p1 y8)>>=fun y9=>if (!y9.2)=true then (some (0,false)) else ((appG 8 x8 ([y9.1]:List Int))>>=fun y10=>qM p1 p2 p0 y10 (QA .i64 (x64+1)))) else (pW p1 x8 p2 p0 ([]:List Int) 0)
  partial_fixpoint
def pR (p0:aP) (p1:List (List Int)) (p2:aJ):Option (Int×Bool) :=
  (aBo p2)>>=fun y1=>if (!y1)=true then (some (0,false)) else (if (decide (p2.kind=2))=true then ((some (if (decide (p2.up<0))=true then true else (decide ((p1.length:Int)≤p2.up))))>>=fun y2=>(some (if y2=true then true else (decide (p2.at_<0))))>>=fun y3=>(if (true&&(y3==false))=true then idx p1 p2.up else some default)>>=fun y4=>(some (if y3=true then true else (decide ((y4.length:Int)≤p2.at_))))>>=fun y5=>if y5=true then (some (0,false)) else ((idx p1 p2.up)>>=fun y6=>(idx y6 p2.at_)>>=fun y7=>some (y7,true))) else (qM p1 p2 p0 ([]:List Int) 0))
  partial_fixpoint
def aGn (p0:aJ) (p1:aP) (c1_0:List (List Int)):Option Bool :=
  (pR p1 c1_0 p0)>>=fun y1=>(if (true&&((!y1.2)==false))=true then wL y1.1 else some default)>>=fun y2=>(some (if (!y1.2)=true then true else (!y2)))>>=fun y3=>some y3
  partial_fixpoint
def yT (p0:List aJ) (c0:aP) (c1_0:List (List Int)) (x8:Int):Option Int :=
  if (decide (x8<(p0.length:Int)))=true then ((idx p0 x8)>>=fun y1=>(aGn y1 c0 c1_0)>>=fun y2=>if y2=true then (some x8) else (yT p0 c0 c1_0 (QA .i64 (x8+1)))) else (some (-1))
  partial_fixpoint
def aJh (p0:List aJ) (c0:aP) (c1_0:List (List Int)):Option Int :=
  yT p0 c0 c1_0 0
  partial_fixpoint
def aKm (p0:List aJ) (c0:aP) (c1_0:List (List Int)):Option Bool :=
  (aJh p0 c0 c1_0)>>=fun y1=>some (decide (0≤y1))
  partial_fixpoint
def yQ (p0:aP) (p1:List (List Int)) (p2:List aJ):Option Bool :=
  (aKm p2 p0 p1)>>=fun y1=>some (!y1)
  partial_fixpoint
def yV (p1:List (List Int)) (y1:(List Int)×Bool) (p2:aQ) (p0:aP) (x41:Int):Option ((List Int)×Bool) :=
  if (decide (x41<(p2.on_.length:Int)))=true then ((idx p2.on_ x41)>>=fun y4=>(iP p2.tables 0 (QA .i64 (x41+1)))>>=fun y5=>(aEw p0 y5)>>=fun y6=>(aE4 y6.1 p1)>>=fun y7=>(yQ p0 y7 y4)>>=fun y8=>if (!y8)=true then (some (([]:List Int),false)) else (yV p1 y1 p2 p0 (QA .i64 (x41+1)))) else ((aE4 y1.1 p1)>>=fun y9=>(yQ p0 y9 p2.where_)>>=fun y10=>if (!y10)=true then (some (([]:List Int),false)) else (wH y9 p2 p0 0))
  partial_fixpoint
def yD (p0:aP) (p1:List (List Int)) (p2:aQ):Option ((List Int)×Bool) :=
  (aEw p0 p2.tables)>>=fun y1=>(if (true&&((!y1.2)==false))=true then aIz p2 else some default)>>=fun y2=>(some (if (!y1.2)=true then true else (!y2)))>>=fun y3=>if y3=true then (some (([]:List Int),false)) else (yV p1 y1 p2 p0 0)
  partial_fixpoint
end
def R9 (p0:aP) (p1:aQ):Option Bool :=
  (aCj p0)>>=fun y1=>(if (true&&((!y1)==false))=true then I4 p1 else some default)>>=fun y2=>(if (true&&((!y1)==false))=true then zM p1 else some default)>>=fun y3=>(if (true&&((!y1)==false))=true then aJ5 y2 y3 else some default)>>=fun y4=>(some (if (!y1)=true then true else (!y4)))>>=fun y5=>if y5=true then (some false) else ((yD p0 ([]:List (List Int)) p1)>>=fun y6=>some y6.2)
def aHx (p0:aP) (p1:GDb) (p2:aQ):Option ((List (List aA))×Int) :=
  (R9 p0 p2)>>=fun y1=>(if (true&&((!y1)==false))=true then aEj p0 p1 else some default)>>=fun y2=>(some (if (!y1)=true then true else (!y2)))>>=fun y3=>if y3=true then (some (([]:List (List aA)),4)) else ((xO p0 p1 ([]:List (List aA)) p2)>>=fun y4=>some (y4.1,y4.2))
def zT (p1:List UInt8) (p0:eD) (x5:Int):Option Int :=
  if (decide (x5<(p0.cols.length:Int)))=true then ((idx p0.cols x5)>>=fun y1=>if (decide (y1.name=p1))=true then (some x5) else (zT p1 p0 (QA .i64 (x5+1)))) else (some (-1))
  partial_fixpoint
def yJ (p0:eD) (p1:List UInt8):Option Int :=
  zT p1 p0 0
def fJ (p0:Int) (p1:Int) (p2:Int):Option Bool :=
  (some (if (decide (p1≤p0))=true then (decide (p0≤p2)) else false))>>=fun y1=>some y1
def pM (p0:List UInt8):Option Bool :=
  (fJ (p0.length:Int) 1 20)>>=fun y1=>some y1
def X0 (p1:List UInt8) (p0:aP) (x5:Int):Option Int :=
  if (decide (x5<(p0.tables.length:Int)))=true then ((idx p0.tables x5)>>=fun y1=>if (decide (y1.name=p1))=true then (some x5) else (X0 p1 p0 (QA .i64 (x5+1)))) else (some (-1))
  partial_fixpoint
def wZ (p0:aP) (p1:List UInt8):Option Int :=
  X0 p1 p0 0
mutual
def yY (x3:Int) (p0:aP) (y1:eD) (x5:Int):Option Bool :=
  if (decide (x5<(y1.cols.length:Int)))=true then ((idx y1.cols x5)>>=fun y7=>(pM y7.name)>>=fun y8=>(if (true&&((!y8)==false))=true then idx y1.cols x5 else some default)>>=fun y9=>(if (true&&((!y8)==false))=true then yJ y1 y9.name else some default)>>=fun y10=>(some (if (!y8)=true then true else (!decide (y10=x5))))>>=fun y11=>(if (true&&(y11==false))=true then idx y1.cols x5 else some default)>>=fun y12=>(if (true&&(y11==false))=true then fJ y12.type 1 3 else some default)>>=fun y13=>(some (if y11=true then true else (!y13)))>>=fun y14=>if y14=true then (some false) else (yY x3 p0 y1 (QA .i64 (x5+1)))) else (U2 p0 (QA .i64 (x3+1)))
  partial_fixpoint
def U2 (p0:aP) (x3:Int):Option Bool :=
  if (decide (x3<(p0.tables.length:Int)))=true then ((idx p0.tables x3)>>=fun y1=>(pM y1.name)>>=fun y2=>(if (true&&((!y2)==false))=true then wZ p0 y1.name else some default)>>=fun y3=>(some (if (!y2)=true then true else (!decide (y3=x3))))>>=fun y4=>(if (true&&(y4==false))=true then fJ (y1.cols.length:Int) 1 4 else some default)>>=fun y5=>(some (if y4=true then true else (!y5)))>>=fun y6=>if y6=true then (some false) else (yY x3 p0 y1 0)) else (some true)
  partial_fixpoint
end
def aBz (p0:aP):Option Bool :=
  if (decide (4<(p0.tables.length:Int)))=true then (some false) else (U2 p0 0)
def kW (p0:aA):Option Bool :=
  if (decide (p0.kind=0))=true then ((some (if (decide (p0.num=0))=true then (decide (p0.text=[])) else false))>>=fun y1=>some y1) else (if (decide (p0.kind=1))=true then (some (decide (p0.text=[]))) else (if (decide (p0.kind=2))=true then ((some (if (decide (p0.num=0))=true then (decide ((p0.text.length:Int)≤200)) else false))>>=fun y2=>some y2) else (if (decide (p0.kind=3))=true then ((fJ p0.num 0 1)>>=fun y3=>(some (if y3=true then (decide (p0.text=[])) else false))>>=fun y4=>some y4) else (some false))))
def U6 (p0:aA) (p1:Int):Option Bool :=
  (kW p0)>>=fun y1=>(if (true&&(y1==true))=true then some (if (decide (p0.kind=0))=true then true else (decide (p0.kind=p1))) else some default)>>=fun y2=>(some (if y1=true then y2 else false))>>=fun y3=>some y3
def wR (p0:List aA) (p1:List Int) (x5:Int):Option Bool :=
  if (decide (x5<(p0.length:Int)))=true then ((idx p0 x5)>>=fun y1=>(idx p1 x5)>>=fun y2=>(U6 y1 y2)>>=fun y3=>if (!y3)=true then (some false) else (wR p0 p1 (QA .i64 (x5+1)))) else (some true)
  partial_fixpoint
def G9 (p0:List aA) (p1:List Int):Option Bool :=
  if (!decide ((p0.length:Int)=(p1.length:Int)))=true then (some false) else (wR p0 p1 0)
def uZ (p0:eD) (x3:List Int) (x4:Int):Option (List Int) :=
  if (decide (x4<(p0.cols.length:Int)))=true then ((idx p0.cols x4)>>=fun y1=>(appG 8 x3 ([y1.type]:List Int))>>=fun y2=>uZ p0 y2 (QA .i64 (x4+1))) else (some x3)
  partial_fixpoint
def E9 (p0:eD):Option (List Int) :=
  uZ p0 ([]:List Int) 0
mutual
def uY (x5:Int) (p0:aP) (p1:GDb) (x6:Int):Option Bool :=
  (idx p1.tables x5)>>=fun y4=>if (decide (x6<(y4.rows.length:Int)))=true then ((idx p1.tables x5)>>=fun y5=>(idx y5.rows x6)>>=fun y6=>(idx p0.tables x5)>>=fun y7=>(E9 y7)>>=fun y8=>(G9 y6 y8)>>=fun y9=>if (!y9)=true then (some false) else (uY x5 p0 p1 (QA .i64 (x6+1)))) else (yP p0 p1 (QA .i64 (x5+1)))
  partial_fixpoint
def yP (p0:aP) (p1:GDb) (x5:Int):Option Bool :=
  if (decide (x5<(p1.tables.length:Int)))=true then ((idx p1.tables x5)>>=fun y3=>if (decide (6<(y3.rows.length:Int)))=true then (some false) else (uY x5 p0 p1 0)) else (some true)
  partial_fixpoint
end
def wM (p0:aP) (p1:GDb):Option Bool :=
  (aBz p0)>>=fun y1=>(some (if (!y1)=true then true else (!decide ((p1.tables.length:Int)=(p0.tables.length:Int)))))>>=fun y2=>if y2=true then (some false) else (yP p0 p1 0)
def aIg (y1:aL×aP×GDb×aQ) (nE:List aJ) (K3:List fP):Option (aP×GDb×aQ) :=
  some (y1.2.1,(GDb.mk K3),(aQ.mk y1.2.2.2.tables y1.2.2.2.on_ y1.2.2.2.where_ y1.2.2.2.order nE y1.2.2.2.names y1.2.2.2.distinct y1.2.2.2.limit))
def aH5 (p0:aL) (x3:Int) (dJ:Int):Option (Int×aL) :=
  some (x3,(aL.mk p0.b dJ (QA .i64 ((QA .i64 (p0.h * 6364136223846793005))+1442695040888963407))))
def C9 (p0:aL):Option (Int×aL) :=
  if (decide (p0.i<(p0.b.length:Int)))=true then ((idx p0.b p0.i)>>=fun y1=>aH5 p0 (QA .i64 ((BitVec.ofInt (QC .i64) (QA .i64 ((QA .i64 ((BitVec.ofInt (QC .i64) (QA .i64 ((BitVec.ofInt (QC .i64) (QB (QA .i64 ((QA .i64 (p0.h * 6364136223846793005))+1442695040888963407)) (2 ^ 33)) ^^^ BitVec.ofInt (QC .i64) (QB (QA .i64 ((QA .i64 (p0.h * 6364136223846793005))+1442695040888963407)) (2 ^ 45))).toNat:Int)) &&& BitVec.ofInt (QC .i64) 255).toNat:Int))+(QA .i64 y1))) &&& BitVec.ofInt (QC .i64) 255).toNat:Int)) (QA .i64 (p0.i+1))) else (aH5 p0 (QA .i64 ((BitVec.ofInt (QC .i64) (QA .i64 ((BitVec.ofInt (QC .i64) (QB (QA .i64 ((QA .i64 (p0.h * 6364136223846793005))+1442695040888963407)) (2 ^ 33)) ^^^ BitVec.ofInt (QC .i64) (QB (QA .i64 ((QA .i64 (p0.h * 6364136223846793005))+1442695040888963407)) (2 ^ 45))).toNat:Int)) &&& BitVec.ofInt (QC .i64) 255).toNat:Int)) p0.i)
def iB (p0:aL) (p1:Int):Option (Int×aL) :=
  if (decide (p1≤0))=true then (some (0,p0)) else (if (decide (p1≤256))=true then ((C9 p0)>>=fun y1=>(xX y1.1 p1)>>=fun y2=>some (y2,y1.2)) else ((C9 p0)>>=fun y3=>(C9 y3.2)>>=fun y4=>(C9 y4.2)>>=fun y5=>(C9 y5.2)>>=fun y6=>(xX (QA .i64 ((QA .i64 ((QA .i64 ((QA .i64 (y3.1 * 16777216))+(QA .i64 (y4.1 * 65536))))+(QA .i64 (y5.1 * 256))))+y6.1)) p1)>>=fun y7=>some (y7,y6.2)))
def iJ (p0:aL) (p1:Int):Option (Bool×aL) :=
  (iB p0 p1)>>=fun y1=>some ((decide (y1.1=0)),y1.2)
def aF7 (y1:aL×aP×GDb×aQ) (O1:List Int) (aAq:Int) (Y7:Int) (nE:List aJ):Option (aP×GDb×aQ) :=
  (iJ (aL.mk O1 aAq Y7) 12)>>=fun y5=>if y5.1=true then ((appG 24 y1.2.2.1.tables ([(fP.mk ([]:List (List aA)))]:List fP))>>=fun y6=>aIg y1 nE y6) else (aIg y1 nE y1.2.2.1.tables)
def wY (p1:aJ) (bX:Int) (jR:Int) (nV:Bool) (D6:Int) (J9:Int) (F5:List UInt8) (zO:Int) (oG:Int) (dV:List Int) (dJ:Int) (dW:Int) (G6:List aQ):Option (aJ×aL) :=
  some ((aJ.mk bX jR nV (aA.mk D6 J9 F5) zO oG p1.kids G6),(aL.mk dV dJ dW))
def Y5 (p0:aL) (p1:List Int):Option (Int×aL) :=
  (iB p0 (p1.length:Int))>>=fun y1=>(idx p1 y1.1)>>=fun y2=>some (y2,y1.2)
def wJ (p0:aL):Option (Int×aL) :=
  (iB p0 3)>>=fun y1=>if (decide (y1.1=0))=true then ((Y5 y1.2 ([0,1,(-1),63,64,(-64),(-65),127,128,16383,16384,9223372036854775807,(-9223372036854775808),4611686018427387904]:List Int))>>=fun y2=>some (y2.1,y2.2)) else (if (decide (y1.1=1))=true then ((iB y1.2 1000000)>>=fun y3=>some ((QA .i64 (y3.1 - 500000)),y3.2)) else ((iB y1.2 20)>>=fun y4=>some (y4.1,y4.2)))
def uI (p0:aL) (p1:List (List UInt8)):Option ((List UInt8)×aL) :=
  (iB p0 (p1.length:Int))>>=fun y1=>(idx p1 y1.1)>>=fun y2=>some (y2,y1.2)
def wK (bX:Int) (jR:Int) (nV:List UInt8) (dV:List Int) (dJ:Int) (dW:Int):Option (aA×aL) :=
  some ((aA.mk bX jR nV),(aL.mk dV dJ dW))
def L9 (y1:aA×aL) (nQ:List UInt8) (tZ:List Int) (uD:Int) (uC:Int):Option (aA×aL) :=
  (iJ (aL.mk tZ uD uC) 2)>>=fun y10=>(some (if y10.1=true then (decide ((nQ.length:Int)<400)) else false))>>=fun y11=>if y11=true then ((Y6 nQ nQ)>>=fun y12=>(Y6 y12 [48,49,50,51,52,53,54,55,56,57])>>=fun y13=>L9 y1 y13 y10.2.b y10.2.i y10.2.h) else (wK y1.1.kind y1.1.num nQ y10.2.b y10.2.i y10.2.h)
  partial_fixpoint
def rF (p0:Bool):Option aA :=
  if p0=true then (some (aA.mk 3 1 [])) else (some (aA.mk 3 0 []))
def wN (p0:Int):Option aA :=
  some (aA.mk 1 p0 [])
def aEd (p0:List UInt8):Option aA :=
  some (aA.mk 2 0 p0)
def aI9 (p0:aL):Option (aA×aL) :=
  (iB p0 6)>>=fun y1=>if (decide (y1.1=0))=true then (some ((aA.mk 0 0 []),y1.2)) else (if (decide (y1.1=1))=true then ((uI y1.2 ([[],[97],[98],[105,116,39,115],[97,98],[255]]:List (List UInt8)))>>=fun y2=>(aEd y2.1)>>=fun y3=>some (y3,y2.2)) else (if (decide (y1.1=2))=true then ((iJ y1.2 2)>>=fun y4=>(rF y4.1)>>=fun y5=>some (y5,y4.2)) else (if (decide (y1.1=3))=true then ((wJ y1.2)>>=fun y6=>(wN y6.1)>>=fun y7=>some (y7,y6.2)) else ((iB y1.2 7)>>=fun y8=>(wN (QA .i64 (y8.1 - 2)))>>=fun y9=>some (y9,y8.2)))))
def aJi (p0:aL):Option (aA×aL) :=
  (aI9 p0)>>=fun y1=>(iB y1.2 14)>>=fun y2=>if (decide (y2.1=0))=true then ((iB y2.2 6)>>=fun y3=>wK (QA .i64 (y3.1 - 1)) y1.1.num y1.1.text y3.2.b y3.2.i y3.2.h) else (if (decide (y2.1=1))=true then ((wJ y2.2)>>=fun y4=>wK y1.1.kind y4.1 y1.1.text y4.2.b y4.2.i y4.2.h) else (if (decide (y2.1=2))=true then ((uI y2.2 ([[120],[],[108,111,110,103]]:List (List UInt8)))>>=fun y5=>L9 y1 y5.1 y5.2.b y5.2.i y5.2.h) else (wK y1.1.kind y1.1.num y1.1.text y2.2.b y2.2.i y2.2.h)))
def aDa (p0:aL) (p1:aJ):Option (aJ×aL) :=
  (if (true&&((decide (0<(p1.kids.length:Int)))==true))=true then iJ p0 2 else some ((default:Bool),p0))>>=fun y1=>(some (if (decide (0<(p1.kids.length:Int)))=true then y1.1 else false))>>=fun y2=>if y2=true then ((iB y1.2 (p1.kids.length:Int))>>=fun y3=>(idx p1.kids y3.1)>>=fun y4=>(aDa y3.2 y4)>>=fun y5=>some ((aJ.mk p1.kind p1.op p1.not_ p1.value p1.up p1.at_ (p1.kids.set (y3.1).toNat y5.1) p1.sub),y5.2)) else ((iB y1.2 7)>>=fun y6=>if (decide (y6.1=0))=true then ((wJ y6.2)>>=fun y7=>wY p1 y7.1 p1.op p1.not_ p1.value.kind p1.value.num p1.value.text p1.up p1.at_ y7.2.b y7.2.i y7.2.h p1.sub) else (if (decide (y6.1=1))=true then ((wJ y6.2)>>=fun y8=>wY p1 p1.kind y8.1 p1.not_ p1.value.kind p1.value.num p1.value.text p1.up p1.at_ y8.2.b y8.2.i y8.2.h p1.sub) else (if (decide (y6.1=2))=true then ((wJ y6.2)>>=fun y9=>wY p1 p1.kind p1.op p1.not_ p1.value.kind p1.value.num p1.value.text y9.1 p1.at_ y9.2.b y9.2.i y9.2.h p1.sub) else (if (decide (y6.1=3))=true then ((wJ y6.2)>>=fun y10=>wY p1 p1.kind p1.op p1.not_ p1.value.kind p1.value.num p1.value.text p1.up y10.1 y10.2.b y10.2.i y10.2.h p1.sub) else (if (decide (y6.1=4))=true then ((aJi y6.2)>>=fun y11=>wY p1 p1.kind p1.op p1.not_ y11.1.kind y11.1.num y11.1.text p1.up p1.at_ y11.2.b y11.2.i y11.2.h p1.sub) else (if (decide (y6.1=5))=true then (wY p1 p1.kind p1.op (!p1.not_) p1.value.kind p1.value.num p1.value.text p1.up p1.at_ y6.2.b y6.2.i y6.2.h p1.sub) else ((appG 160 p1.sub ([(aQ.mk ([]:List Int) ([]:List (List aJ)) ([]:List aJ) ([]:List dI) ([]:List aJ) ([]:List (List UInt8)) false 0)]:List aQ))>>=fun y12=>wY p1 p1.kind p1.op p1.not_ p1.value.kind p1.value.num p1.value.text p1.up p1.at_ y6.2.b y6.2.i y6.2.h y12)))))))
  partial_fixpoint
def X3 (p0:List Int) (x3:Int) (x4:Int):Option aL :=
  (some (if (decide (x4<(p0.length:Int)))=true then (decide (x4<4000)) else false))>>=fun y1=>if y1=true then ((idx p0 x4)>>=fun y2=>X3 p0 (QA .i64 ((BitVec.ofInt (QC .i64) (QA .i64 ((QA .i64 ((QA .i64 (x3 * 131))+(QA .i64 y2)))+7)) &&& BitVec.ofInt (QC .i64) 1073741823).toNat:Int)) (QA .i64 (x4+1))) else (some (aL.mk p0 0 x3))
  partial_fixpoint
def aHj (p0:List Int):Option aL :=
  X3 p0 (QA .i64 (28322+(p0.length:Int))) 0
def aGo (p0:List Int) (p1:Int):Option Int :=
  if (decide (p1<(QA .i64 (2+(QA .i64 (Int.tdiv (p0.length:Int) 20))))))=true then (some p1) else (some (QA .i64 (2+(QA .i64 (Int.tdiv (p0.length:Int) 20)))))
def aH3 (p0:aL):Option ((List UInt8)×aL) :=
  (iJ p0 6)>>=fun y1=>if y1.1=true then ((uI y1.2 ([[97,32,98],[102,114,111,109],[83,101,108,101,99,116],[49,120],[113,34,113],[0],[34],[105,116,39,115],[120,46,121],[45]]:List (List UInt8)))>>=fun y2=>some (y2.1,y2.2)) else ((uI y1.2 ([[97],[98],[99],[116],[117],[118],[105,100],[110,97,109,101],[65],[95,120,49]]:List (List UInt8)))>>=fun y3=>some (y3.1,y3.2))
mutual
def aCd (y1:Int×aL) (x6:Int) (y3:Int×aL) (x9:Int) (bX:List eD) (y2:List UInt8) (mK:(List Int)×Int×Int×(List gG)):Option (aP×aL) :=
  aCp y1 x6 y3 bX y2 (QA .i64 (x9+1)) (mK.2.2.2,mK.1,mK.2.1,mK.2.2.1)
  partial_fixpoint
def aEo (y1:Int×aL) (x6:Int) (y3:Int×aL) (x9:Int) (bX:List eD) (y2:List UInt8) (qH:List gG) (ky8:(Int×aL)×(List UInt8)×(List Int)×Int×Int):Option (aP×aL) :=
  (yJ (eD.mk y2 qH) ky8.2.1)>>=fun y15=>if (decide (y15<0))=true then ((appG 24 qH ([(gG.mk ky8.2.1 ky8.1.1)]:List gG))>>=fun y16=>aCd y1 x6 y3 x9 bX y2 (ky8.2.2.1,ky8.2.2.2.1,ky8.2.2.2.2,y16)) else (aCd y1 x6 y3 x9 bX y2 (ky8.2.2.1,ky8.2.2.2.1,ky8.2.2.2.2,qH))
  partial_fixpoint
def aCp (y1:Int×aL) (x6:Int) (y3:Int×aL) (bX:List eD) (y2:List UInt8) (x9:Int) (jU:(List gG)×(List Int)×Int×Int):Option (aP×aL) :=
  if (decide (x9<(QA .i64 (1+y3.1))))=true then ((uI (aL.mk jU.2.1 jU.2.2.1 jU.2.2.2) ([[97],[98],[99],[105,100],[110,97,109,101]]:List (List UInt8)))>>=fun y7=>(Y5 y7.2 ([1,1,2,3]:List Int))>>=fun y8=>(iJ y8.2 20)>>=fun y9=>if y9.1=true then ((aH3 y9.2)>>=fun y10=>aEo y1 x6 y3 x9 bX y2 jU.1 (y8,y10.1,y10.2.b,y10.2.i,y10.2.h)) else (aEo y1 x6 y3 x9 bX y2 jU.1 (y8,y7.1,y9.2.b,y9.2.i,y9.2.h))) else ((appG 40 bX ([(eD.mk y2 jU.1)]:List eD))>>=fun y14=>aAe y1 (QA .i64 (x6+1)) y14 jU.2.1 jU.2.2.1 jU.2.2.2)
  partial_fixpoint
def aAe (y1:Int×aL) (x6:Int) (bX:List eD) (dV:List Int) (dJ:Int) (dW:Int):Option (aP×aL) :=
  if (decide (x6<(QA .i64 (1+y1.1))))=true then ((idx ([[116],[117],[118]]:List (List UInt8)) x6)>>=fun y2=>(iB (aL.mk dV dJ dW) 3)>>=fun y3=>aCp y1 x6 y3 bX y2 0 (([]:List gG),y3.2.b,y3.2.i,y3.2.h)) else (some ((aP.mk bX),(aL.mk dV dJ dW)))
  partial_fixpoint
end
def aK4 (p0:aL):Option (aP×aL) :=
  (iB p0 3)>>=fun y1=>aAe y1 0 ([]:List eD) y1.2.b y1.2.i y1.2.h
def V6 (p0:List Int) (p1:List (List Int)):Option (List (List Int)) :=
  (appG 24 ([p0]:List (List Int)) p1)>>=fun y1=>some y1
def aFs (y1:Bool×aL) (nD:List dI) (nN:List aJ) (gK:List (List UInt8)) (gL:List aJ) (gH:List (List aJ)) (gJ:List Int) (F3:Int) (zR:List Int) (J6:Int) (K6:Int):Option (aQ×aL) :=
  some ((aQ.mk gJ gH nN nD gL gK y1.1 F3),(aL.mk zR J6 K6))
def Z6 (y1:Bool×aL) (nN:List aJ) (gK:List (List UInt8)) (gL:List aJ) (gH:List (List aJ)) (gJ:List Int) (aAl:List Int) (O3:Int) (Z9:Int) (nD:List dI):Option (aQ×aL) :=
  (iJ (aL.mk aAl O3 Z9) 4)>>=fun y38=>if y38.1=true then ((iB y38.2 4)>>=fun y39=>aFs y1 nD nN gK gL gH gJ y39.1 y39.2.b y39.2.i y39.2.h) else (aFs y1 nD nN gK gL gH gJ (-1) y38.2.b y38.2.i y38.2.h)
mutual
def aAf (p1:List (List Int)) (p2:Int) (x9:Int) (x10:Int) (uO:Int) (uN:Int) (uG:Int) (uH:Int) (lC:(List UInt8)×Int×Int×(List Int)×Int×Int):Option (aJ×aL) :=
  aCz p1 p2 x9 uO (QA .i64 (x10+1)) uN uG uH (lC.1,lC.2.1,lC.2.2.1,lC.2.2.2.1,lC.2.2.2.2.1,lC.2.2.2.2.2)
  partial_fixpoint
def aCz (p1:List (List Int)) (p2:Int) (x9:Int) (pE:Int) (x10:Int) (rH:Int) (qV:Int) (qN:Int) (gY:(List UInt8)×Int×Int×(List Int)×Int×Int):Option (aJ×aL) :=
  (idx p1 x9)>>=fun y12=>if (decide (x10<(y12.length:Int)))=true then ((idx p1 x9)>>=fun y13=>(idx y13 x10)>>=fun y14=>if (decide (y14=p2))=true then ((iJ (aL.mk gY.2.2.2.1 gY.2.2.2.2.1 gY.2.2.2.2.2) (QA .i64 (pE+1)))>>=fun y15=>if y15.1=true then (aAf p1 p2 x9 x10 (QA .i64 (pE+1)) 2 0 0 ([],x9,x10,y15.2.b,y15.2.i,y15.2.h)) else (aAf p1 p2 x9 x10 (QA .i64 (pE+1)) rH qV qN (gY.1,gY.2.1,gY.2.2.1,y15.2.b,y15.2.i,y15.2.h))) else (aAf p1 p2 x9 x10 pE rH qV qN (gY.1,gY.2.1,gY.2.2.1,gY.2.2.2.1,gY.2.2.2.2.1,gY.2.2.2.2.2))) else (aBl p1 p2 pE (QA .i64 (x9+1)) rH qV qN (gY.1,gY.2.1,gY.2.2.1,gY.2.2.2.1,gY.2.2.2.2.1,gY.2.2.2.2.2))
  partial_fixpoint
def aBl (p1:List (List Int)) (p2:Int) (x7:Int) (x9:Int) (rJ:Int) (rG:Int) (qU:Int) (gN:(List UInt8)×Int×Int×(List Int)×Int×Int):Option (aJ×aL) :=
  if (decide (x9<(p1.length:Int)))=true then (aCz p1 p2 x9 x7 0 rJ rG qU (gN.1,gN.2.1,gN.2.2.1,gN.2.2.2.1,gN.2.2.2.2.1,gN.2.2.2.2.2)) else (some ((aJ.mk rJ 0 false (aA.mk rG qU gN.1) gN.2.1 gN.2.2.1 ([]:List aJ) ([]:List aQ)),(aL.mk gN.2.2.2.1 gN.2.2.2.2.1 gN.2.2.2.2.2)))
  partial_fixpoint
end
def aIj (y1:aA×aL) (X9:Int) (dV:List Int) (dJ:Int) (dW:Int):Option (aA×aL) :=
  some ((aA.mk y1.1.kind X9 y1.1.text),(aL.mk dV dJ dW))
def aEv (p0:aL) (p1:Int):Option (aA×aL) :=
  (iJ p0 6)>>=fun y1=>if y1.1=true then (some ((aA.mk 0 0 []),y1.2)) else (if (decide (p1=2))=true then ((uI y1.2 ([[],[97],[98],[97,98]]:List (List UInt8)))>>=fun y2=>(aEd y2.1)>>=fun y3=>some (y3,y2.2)) else (if (decide (p1=3))=true then ((iJ y1.2 2)>>=fun y4=>(rF y4.1)>>=fun y5=>some (y5,y4.2)) else ((wJ y1.2)>>=fun y6=>(wN y6.1)>>=fun y7=>some (y7,y6.2))))
def aBx (p0:aL) (p1:Int):Option (aA×aL) :=
  (aEv p0 p1)>>=fun y1=>if (decide (y1.1.kind=1))=true then ((Y5 y1.2 ([0,1,2,3,5,1,2,9223372036854775807]:List Int))>>=fun y2=>aIj y1 y2.1 y2.2.b y2.2.i y2.2.h) else (aIj y1 y1.1.num y1.2.b y1.2.i y1.2.h)
def aE9 (p0:aL) (p1:List (List Int)) (p2:Int):Option (aJ×aL) :=
  (aBx p0 p2)>>=fun y1=>aBl p1 p2 0 0 1 y1.1.kind y1.1.num (y1.1.text,0,0,y1.2.b,y1.2.i,y1.2.h)
def aA9 (p1:List Int) (p0:aP) (x6:List Int) (x7:Int):Option ((List Int)×Bool) :=
  if (decide (x7<(p1.length:Int)))=true then ((idx p1 x7)>>=fun y1=>(fJ y1 0 (QA .i64 ((p0.tables.length:Int) - 1)))>>=fun y2=>if (!y2)=true then (some (([]:List Int),false)) else ((idx p1 x7)>>=fun y3=>(idx p0.tables y3)>>=fun y4=>(E9 y4)>>=fun y5=>(appG 8 x6 y5)>>=fun y6=>aA9 p1 p0 y6 (QA .i64 (x7+1)))) else (some (x6,true))
  partial_fixpoint
def D5 (p0:aP) (p1:List Int):Option ((List Int)×Bool) :=
  aA9 p1 p0 ([]:List Int) 0
mutual
def yC (p2:List (List Int)) (p3:Int) (p4:Int) (p5:Int) (p1:aP) (x14:Int) (jH:(List Int)×Int×Int×(List aJ)):Option ((List aJ)×aL) :=
  if (decide (x14<p5))=true then ((qY (aL.mk jH.1 jH.2.1 jH.2.2.1) p1 p2 p3 (QA .i64 (p4 - 1)))>>=fun y1=>(appG 120 jH.2.2.2 ([y1.1]:List aJ))>>=fun y2=>yC p2 p3 p4 p5 p1 (QA .i64 (x14+1)) (y1.2.b,y1.2.i,y1.2.h,y2)) else (some (jH.2.2.2,(aL.mk jH.1 jH.2.1 jH.2.2.1)))
  partial_fixpoint
def nS (p0:aL) (p1:aP) (p2:List (List Int)) (p3:Int) (p4:Int) (p5:Int):Option ((List aJ)×aL) :=
  yC p2 p3 p4 p5 p1 0 (p0.b,p0.i,p0.h,([]:List aJ))
  partial_fixpoint
def aDf (p2:List (List Int)) (p3:Int) (y1:Int×aL) (p1:aP) (y3:Int×aL):Option (aJ×aL) :=
  (iB y3.2 6)>>=fun y14=>(nS y14.2 p1 p2 (QA .i64 (1+y1.1)) p3 2)>>=fun y15=>some ((aJ.mk 4 (QA .i64 (3+y14.1)) false (aA.mk 0 0 []) 0 0 y15.1 ([]:List aQ)),y15.2)
  partial_fixpoint
def aG7 (p2:List (List Int)) (p3:Int) (y1:Int×aL) (y2:Bool×aL) (y3:Int×aL) (p1:aP) (x18:Bool):Option (aJ×aL) :=
  if x18=true then ((iB y3.2 2)>>=fun y4=>(nS y4.2 p1 p2 3 p3 2)>>=fun y5=>some ((aJ.mk 4 (QA .i64 (1+y4.1)) false (aA.mk 0 0 []) 0 0 y5.1 ([]:List aQ)),y5.2)) else (if (decide (y3.1=2))=true then ((nS y3.2 p1 p2 3 p3 1)>>=fun y6=>some ((aJ.mk 3 15 false (aA.mk 0 0 []) 0 0 y6.1 ([]:List aQ)),y6.2)) else (if (decide (y3.1=3))=true then ((nS y3.2 p1 p2 (QA .i64 (1+y1.1)) p3 1)>>=fun y7=>some ((aJ.mk 5 0 y2.1 (aA.mk 0 0 []) 0 0 y7.1 ([]:List aQ)),y7.2)) else (if (decide (y3.1=4))=true then ((nS y3.2 p1 p2 (QA .i64 (1+y1.1)) p3 3)>>=fun y8=>some ((aJ.mk 6 0 y2.1 (aA.mk 0 0 []) 0 0 y8.1 ([]:List aQ)),y8.2)) else (if (decide (y3.1=5))=true then ((iB y3.2 3)>>=fun y9=>(nS y9.2 p1 p2 (QA .i64 (1+y1.1)) p3 (QA .i64 (2+y9.1)))>>=fun y10=>some ((aJ.mk 7 0 y2.1 (aA.mk 0 0 []) 0 0 y10.1 ([]:List aQ)),y10.2)) else (if (decide (y3.1=6))=true then (if (decide (1<p3))=true then ((nS y3.2 p1 p2 (QA .i64 (1+y1.1)) p3 1)>>=fun y11=>(xY y11.2 p1 p2 ([(QA .i64 (1+y1.1))]:List Int) (QA .i64 (p3 - 2)))>>=fun y12=>some ((aJ.mk 8 0 y2.1 (aA.mk 0 0 []) 0 0 y11.1 ([y12.1]:List aQ)),y12.2)) else (aDf p2 p3 y1 p1 y3)) else (if (decide (y3.1=7))=true then (if (decide (1<p3))=true then ((xY y3.2 p1 p2 ([(QA .i64 (1+y1.1))]:List Int) (QA .i64 (p3 - 2)))>>=fun y13=>some ((aJ.mk 9 0 false (aA.mk 0 0 []) 0 0 ([]:List aJ) ([y13.1]:List aQ)),y13.2)) else (aDf p2 p3 y1 p1 y3)) else (aDf p2 p3 y1 p1 y3)))))))
  partial_fixpoint
def aPg (p0:aL) (p1:aP) (p2:List (List Int)) (p3:Int):Option (aJ×aL) :=
  (iB p0 3)>>=fun y1=>(iJ y1.2 3)>>=fun y2=>(iB y2.2 10)>>=fun y3=>if (decide (y3.1=0))=true then (aG7 p2 p3 y1 y2 y3 p1 (decide (y3.1=0))) else (aG7 p2 p3 y1 y2 y3 p1 (decide (y3.1=1)))
  partial_fixpoint
def qY (p0:aL) (p1:aP) (p2:List (List Int)) (p3:Int) (p4:Int):Option (aJ×aL) :=
  (if (true&&((decide (p4≤0))==false))=true then iJ p0 4 else some ((default:Bool),p0))>>=fun y1=>(some (if (decide (p4≤0))=true then true else y1.1))>>=fun y2=>if y2=true then ((iJ y1.2 3)>>=fun y3=>if y3.1=true then ((aBx y3.2 p3)>>=fun y4=>some ((aJ.mk 1 0 false y4.1 0 0 ([]:List aJ) ([]:List aQ)),y4.2)) else ((aE9 y3.2 p2 p3)>>=fun y5=>some (y5.1,y5.2))) else (if (decide (p3=1))=true then ((iJ y1.2 5)>>=fun y6=>if y6.1=true then ((nS y6.2 p1 p2 p3 p4 1)>>=fun y7=>some ((aJ.mk 3 16 false (aA.mk 0 0 []) 0 0 y7.1 ([]:List aQ)),y7.2)) else ((iB y6.2 5)>>=fun y8=>(nS y8.2 p1 p2 p3 p4 2)>>=fun y9=>some ((aJ.mk 4 (QA .i64 (10+y8.1)) false (aA.mk 0 0 []) 0 0 y9.1 ([]:List aQ)),y9.2))) else (if (decide (p3=2))=true then ((nS y1.2 p1 p2 p3 p4 2)>>=fun y10=>some ((aJ.mk 4 9 false (aA.mk 0 0 []) 0 0 y10.1 ([]:List aQ)),y10.2)) else ((aPg y1.2 p1 p2 p4)>>=fun y11=>some (y11.1,y11.2))))
  partial_fixpoint
def aAt (p4:Int) (y15:List (List Int)) (p1:aP) (y1:Bool×aL) (gK:List (List UInt8)) (gL:List aJ) (jM:(List (List aJ))×(List Int)×(List Int)×Int×Int×(List aJ)):Option (aQ×aL) :=
  (iJ (aL.mk jM.2.2.1 jM.2.2.2.1 jM.2.2.2.2.1) 3)>>=fun y30=>if y30.1=true then ((iB y30.2 3)>>=fun y31=>(qY y31.2 p1 y15 (QA .i64 (1+y31.1)) p4)>>=fun y32=>(iJ y32.2 2)>>=fun y33=>(appG 128 ([]:List dI) ([(dI.mk y32.1 y33.1)]:List dI))>>=fun y34=>Z6 y1 jM.2.2.2.2.2 gK gL jM.1 jM.2.1 y33.2.b y33.2.i y33.2.h y34) else (Z6 y1 jM.2.2.2.2.2 gK gL jM.1 jM.2.1 y30.2.b y30.2.i y30.2.h ([]:List dI))
  partial_fixpoint
def yR (p3:List Int) (p4:Int) (y15:List (List Int)) (p1:aP) (y1:Bool×aL) (gH:List (List aJ)) (gJ:List Int) (kx20:Int×(List Int)×Int×Int×(((List (List UInt8))×(List aJ)))):Option (aQ×aL) :=
  if (decide (kx20.1<(p3.length:Int)))=true then ((idx p3 kx20.1)>>=fun y20=>(qY (aL.mk kx20.2.1 kx20.2.2.1 kx20.2.2.2.1) p1 y15 y20 p4)>>=fun y21=>(appG 120 kx20.2.2.2.2.2 ([y21.1]:List aJ))>>=fun y22=>(uI y21.2 ([[97],[98],[99],[120],[121,32,122],[99,49]]:List (List UInt8)))>>=fun y23=>(appG 16 kx20.2.2.2.2.1 ([y23.1]:List (List UInt8)))>>=fun y24=>yR p3 p4 y15 p1 y1 gH gJ ((QA .i64 (kx20.1+1)),y23.2.b,y23.2.i,y23.2.h,y24,y22)) else ((iJ (aL.mk kx20.2.1 kx20.2.2.1 kx20.2.2.2.1) 2)>>=fun y25=>if y25.1=true then ((qY y25.2 p1 y15 3 p4)>>=fun y26=>aAt p4 y15 p1 y1 kx20.2.2.2.2.1 kx20.2.2.2.2.2 (gH,gJ,y26.2.b,y26.2.i,y26.2.h,([y26.1]:List aJ))) else (aAt p4 y15 p1 y1 kx20.2.2.2.2.1 kx20.2.2.2.2.2 (gH,gJ,y25.2.b,y25.2.i,y25.2.h,([]:List aJ))))
  partial_fixpoint
def X6 (p2:List (List Int)) (p3:List Int) (p4:Int) (y2:Int×aL) (x13:Int) (p1:aP) (y1:Bool×aL) (ky4:(List Int)×(((List (List aJ))×(List Int)×Int×Int×(List aJ)))):Option (aQ×aL) :=
  (appG 24 ky4.2.1 ([ky4.2.2.2.2.2]:List (List aJ)))>>=fun y19=>vN p2 p3 p4 y2 p1 y1 ((QA .i64 (x13+1)),ky4.2.2.1,ky4.2.2.2.1,ky4.2.2.2.2.1,y19,ky4.1)
  partial_fixpoint
def vN (p2:List (List Int)) (p3:List Int) (p4:Int) (y2:Int×aL) (p1:aP) (y1:Bool×aL) (kx13:Int×(List Int)×Int×Int×(((List (List aJ))×(List Int)))):Option (aQ×aL) :=
  if (decide (kx13.1<(QA .i64 (1+y2.1))))=true then ((iB (aL.mk kx13.2.1 kx13.2.2.1 kx13.2.2.2.1) (p1.tables.length:Int))>>=fun y3=>(appG 8 kx13.2.2.2.2.2 ([y3.1]:List Int))>>=fun y4=>(D5 p1 y4)>>=fun y5=>(if (true&&((decide (0<kx13.1))==true))=true then iJ y3.2 2 else some ((default:Bool),y3.2))>>=fun y6=>(some (if (decide (0<kx13.1))=true then y6.1 else false))>>=fun y7=>if y7=true then ((V6 y5.1 p2)>>=fun y8=>(qY y6.2 p1 y8 3 p4)>>=fun y9=>(appG 120 ([]:List aJ) ([y9.1]:List aJ))>>=fun y10=>X6 p2 p3 p4 y2 kx13.1 p1 y1 (y4,kx13.2.2.2.2.1,y9.2.b,y9.2.i,y9.2.h,y10)) else (X6 p2 p3 p4 y2 kx13.1 p1 y1 (y4,kx13.2.2.2.2.1,y6.2.b,y6.2.i,y6.2.h,([]:List aJ)))) else ((D5 p1 kx13.2.2.2.2.2)>>=fun y14=>(V6 y14.1 p2)>>=fun y15=>yR p3 p4 y15 p1 y1 kx13.2.2.2.2.1 kx13.2.2.2.2.2 (0,kx13.2.1,kx13.2.2.1,kx13.2.2.2.1,([]:List (List UInt8)),([]:List aJ)))
  partial_fixpoint
def xY (p0:aL) (p1:aP) (p2:List (List Int)) (p3:List Int) (p4:Int):Option (aQ×aL) :=
  (iJ p0 4)>>=fun y1=>(iB y1.2 2)>>=fun y2=>vN p2 p3 p4 y2 p1 y1 (0,y2.2.b,y2.2.i,y2.2.h,([]:List (List aJ)),([]:List Int))
  partial_fixpoint
end
def aFd (p1:Int) (y1:aP×aL) (x7:List Int) (dV:List Int) (dJ:Int) (dW:Int):Option (aP×aQ×aL) :=
  (xY (aL.mk dV dJ dW) y1.1 ([]:List (List Int)) x7 p1)>>=fun y6=>some (y1.1,y6.1,y6.2)
def aK8 (p0:aL) (p1:Int):Option (aP×aQ×aL) :=
  (aK4 p0)>>=fun y1=>(iB y1.2 3)>>=fun y2=>(iJ y2.2 2)>>=fun y3=>if y3.1=true then ((iB y3.2 3)>>=fun y4=>(appG 8 ([(QA .i64 (1+y2.1))]:List Int) ([(QA .i64 (1+y4.1))]:List Int))>>=fun y5=>aFd p1 y1 y5 y4.2.b y4.2.i y4.2.h) else (aFd p1 y1 ([(QA .i64 (1+y2.1))]:List Int) y3.2.b y3.2.i y3.2.h)
def aHq (p0:aL) (p1:Int):Option (aA×aL) :=
  (if (true&&((decide (p1=1))==true))=true then iJ p0 12 else some ((default:Bool),p0))>>=fun y1=>(some (if (decide (p1=1))=true then (!y1.1) else false))>>=fun y2=>if y2=true then ((iB y1.2 5)>>=fun y3=>(wN (QA .i64 (y3.1 - 1)))>>=fun y4=>some (y4,y3.2)) else ((aEv y1.2 p1)>>=fun y5=>some (y5.1,y5.2))
mutual
def Z5 (x6:Int) (y1:Int×aL) (x9:Int) (p1:aP) (gI:List (List aA)) (eX:List fP) (x10:List aA) (kx11:Int×(List Int)×Int×Int):Option (GDb×aL) :=
  (idx p1.tables x6)>>=fun y9=>if (decide (kx11.1<(y9.cols.length:Int)))=true then ((idx p1.tables x6)>>=fun y10=>(idx y10.cols kx11.1)>>=fun y11=>(aHq (aL.mk kx11.2.1 kx11.2.2.1 kx11.2.2.2) y11.type)>>=fun y12=>(appG 32 x10 ([y12.1]:List aA))>>=fun y13=>Z5 x6 y1 x9 p1 gI eX y13 ((QA .i64 (kx11.1+1)),y12.2.b,y12.2.i,y12.2.h)) else ((appG 24 gI ([x10]:List (List aA)))>>=fun y14=>aA3 x6 y1 p1 eX (QA .i64 (x9+1)) y14 (kx11.2.1,kx11.2.2.1,kx11.2.2.2))
  partial_fixpoint
def aA3 (x6:Int) (y1:Int×aL) (p1:aP) (eX:List fP) (x9:Int) (gI:List (List aA)) (lQ:(List Int)×Int×Int):Option (GDb×aL) :=
  if (decide (x9<y1.1))=true then (Z5 x6 y1 x9 p1 gI eX ([]:List aA) (0,lQ.1,lQ.2.1,lQ.2.2)) else ((appG 24 eX ([(fP.mk gI)]:List fP))>>=fun y8=>aD5 p1 (QA .i64 (x6+1)) lQ.1 lQ.2.1 lQ.2.2 y8)
  partial_fixpoint
def aD5 (p1:aP) (x6:Int) (dV:List Int) (dJ:Int) (dW:Int) (eX:List fP):Option (GDb×aL) :=
  if (decide (x6<(p1.tables.length:Int)))=true then ((iB (aL.mk dV dJ dW) 5)>>=fun y1=>aA3 x6 y1 p1 eX 0 ([]:List (List aA)) (y1.2.b,y1.2.i,y1.2.h)) else (some ((GDb.mk eX),(aL.mk dV dJ dW)))
  partial_fixpoint
end
def aK5 (p0:aL) (p1:aP):Option (GDb×aL) :=
  aD5 p1 0 p0.b p0.i p0.h ([]:List fP)
def aJ9 (p0:List Int):Option (aL×aP×GDb×aQ) :=
  (aHj p0)>>=fun y1=>(aGo p0 4)>>=fun y2=>(iB y1 y2)>>=fun y3=>(aK8 y3.2 y3.1)>>=fun y4=>(aK5 y4.2.2 y4.1)>>=fun y5=>some (y5.2,y4.1,y5.1,y4.2.1)
def aIw (p0:List Int):Option (aP×GDb×aQ) :=
  (aJ9 p0)>>=fun y1=>(iJ y1.1 8)>>=fun y2=>if y2.1=true then ((idx y1.2.2.2.items 0)>>=fun y3=>(aDa y2.2 y3)>>=fun y4=>aF7 y1 y4.2.b y4.2.i y4.2.h (y1.2.2.2.items.set (0:Int).toNat y4.1)) else (aF7 y1 y2.2.b y2.2.i y2.2.h y1.2.2.2.items)
def I7 (p0:aP) (p1:aQ) (x6:Int):Option Bool :=
  if (decide (x6<(p1.names.length:Int)))=true then ((idx p1.names x6)>>=fun y12=>(pM y12)>>=fun y13=>if (!y13)=true then (some false) else (I7 p0 p1 (QA .i64 (x6+1)))) else ((D5 p0 p1.tables)>>=fun y14=>some y14.2)
  partial_fixpoint
def zY (p0:aP) (p1:aQ) (x5:Int):Option Bool :=
  if (decide (x5<(p1.on_.length:Int)))=true then ((idx p1.on_ x5)>>=fun y11=>if (decide (1<(y11.length:Int)))=true then (some false) else (zY p0 p1 (QA .i64 (x5+1)))) else (I7 p0 p1 0)
  partial_fixpoint
def aGy (p0:aP) (p1:aQ):Option Bool :=
  (fJ (p1.tables.length:Int) 1 3)>>=fun y1=>(some (if (!y1)=true then true else (!decide ((p1.on_.length:Int)=(p1.tables.length:Int)))))>>=fun y2=>(if (true&&(y2==false))=true then idx p1.on_ 0 else some default)>>=fun y3=>(some (if y2=true then true else (decide (0<(y3.length:Int)))))>>=fun y4=>(some (if y4=true then true else (decide (1<(p1.where_.length:Int)))))>>=fun y5=>(some (if y5=true then true else (decide (12<(p1.order.length:Int)))))>>=fun y6=>(if (true&&(y6==false))=true then fJ (p1.items.length:Int) 1 12 else some default)>>=fun y7=>(some (if y6=true then true else (!y7)))>>=fun y8=>(some (if y8=true then true else (!decide ((p1.names.length:Int)=(p1.items.length:Int)))))>>=fun y9=>(some (if y9=true then true else (decide (p1.limit<(-1)))))>>=fun y10=>if y10=true then (some false) else (zY p0 p1 0)
def V8 (p0:Int):Option Bool :=
  (some (if (decide (p0=0))=true then true else (decide (p0=3))))>>=fun y1=>some y1
def Y1 (p0:aA):Option Bool :=
  (kW p0)>>=fun y1=>(if (true&&(y1==true))=true then some (if (!decide (p0.kind=1))=true then true else (decide (0≤p0.num))) else some default)>>=fun y2=>(some (if y1=true then y2 else false))>>=fun y3=>(some (if y3=true then (decide ((p0.text.length:Int)≤40)) else false))>>=fun y4=>some y4
def I1 (p0:List UInt8):Option Bool :=
  (if (true&&((decide (p0=[]))==false))=true then pM p0 else some default)>>=fun y1=>(some (if (decide (p0=[]))=true then true else y1))>>=fun y2=>some y2
def aDk (p0:eP):Option Bool :=
  (if (true&&((!decide (p0.kind=2))==true))=true then some (if (!decide (p0.qual=[]))=true then true else (!decide (p0.name=[]))) else some default)>>=fun y1=>(some (if (!decide (p0.kind=2))=true then y1 else false))>>=fun y2=>(if (true&&(y2==false))=true then some (if (!decide (p0.kind=1))=true then (!((decide (p0.value.kind=0))&&((decide (p0.value.num=0))&&((decide (p0.value.text=[]))&&true)))) else false) else some default)>>=fun y3=>(some (if y2=true then true else y3))>>=fun y4=>if y4=true then (some false) else ((some (if (!decide (p0.kind=3))=true then (!decide (p0.kind=4)) else false))>>=fun y5=>(some (if y5=true then (!decide (p0.op=0)) else false))>>=fun y6=>(if ((true&&(y6==false))&&(p0.not_==true))=true then fJ p0.kind 5 8 else some default)>>=fun y7=>(if (true&&(y6==false))=true then some (if p0.not_=true then (!y7) else false) else some default)>>=fun y8=>(some (if y6=true then true else y8))>>=fun y9=>if y9=true then (some false) else (if (decide (p0.kind=1))=true then ((Y1 p0.value)>>=fun y10=>(some (if y10=true then (decide ((QA .i64 ((p0.kids.length:Int)+(p0.sub.length:Int)))=0)) else false))>>=fun y11=>some y11) else (if (decide (p0.kind=2))=true then ((pM p0.name)>>=fun y12=>(if (true&&(y12==true))=true then I1 p0.qual else some default)>>=fun y13=>(some (if y12=true then y13 else false))>>=fun y14=>(some (if y14=true then (decide ((QA .i64 ((p0.kids.length:Int)+(p0.sub.length:Int)))=0)) else false))>>=fun y15=>some y15) else (if (decide (p0.kind=3))=true then ((some (if (decide (p0.op=15))=true then true else (decide (p0.op=16))))>>=fun y16=>(some (if y16=true then (decide ((p0.kids.length:Int)=1)) else false))>>=fun y17=>(some (if y17=true then (decide ((p0.sub.length:Int)=0)) else false))>>=fun y18=>some y18) else (if (decide (p0.kind=4))=true then ((fJ p0.op 1 14)>>=fun y19=>(some (if y19=true then (decide ((p0.kids.length:Int)=2)) else false))>>=fun y20=>(some (if y20=true then (decide ((p0.sub.length:Int)=0)) else false))>>=fun y21=>some y21) else (if (decide (p0.kind=5))=true then ((some (if (decide ((p0.kids.length:Int)=1))=true then (decide ((p0.sub.length:Int)=0)) else false))>>=fun y22=>some y22) else (if (decide (p0.kind=6))=true then ((some (if (decide ((p0.kids.length:Int)=3))=true then (decide ((p0.sub.length:Int)=0)) else false))>>=fun y23=>some y23) else (if (decide (p0.kind=7))=true then ((fJ (p0.kids.length:Int) 2 9)>>=fun y24=>(some (if y24=true then (decide ((p0.sub.length:Int)=0)) else false))>>=fun y25=>some y25) else (if (decide (p0.kind=8))=true then ((some (if (decide ((p0.kids.length:Int)=1))=true then (decide ((p0.sub.length:Int)=1)) else false))>>=fun y26=>some y26) else (if (decide (p0.kind=9))=true then ((some (if (decide ((p0.kids.length:Int)=0))=true then (decide ((p0.sub.length:Int)=1)) else false))>>=fun y27=>some y27) else (some false)))))))))))
def aH9 (p0:aJ) (y3:List eP) (y4:List jL) (oG:List UInt8):Option Bool :=
  (aDk (eP.mk p0.kind p0.op p0.not_ p0.value [] oG y3 y4))>>=fun y5=>some y5
def K9 (p0:aJ):Option Bool :=
  (if (true&&((!decide (p0.kind=2))==true))=true then some (if (!decide (p0.up=0))=true then true else (!decide (p0.at_=0))) else some default)>>=fun y1=>(some (if (!decide (p0.kind=2))=true then y1 else false))>>=fun y2=>if y2=true then (some false) else ((mkG 136 (p0.kids.length:Int) ((eP.mk 0 0 false (aA.mk 0 0 []) [] [] ([]:List eP) ([]:List jL)):eP))>>=fun y3=>(mkG 112 (p0.sub.length:Int) ((jL.mk false ([]:List qA) ([]:List qC) ([]:List eP) ([]:List pU) 0):jL))>>=fun y4=>if (decide (p0.kind=2))=true then (aH9 p0 y3 y4 [97]) else (aH9 p0 y3 y4 []))
def tJ (p0:Int) (p1:Bool):Option (Int×Bool) :=
  if (!p1)=true then (some (0,false)) else (some (p0,true))
def aB9 (p0:Int) (p1:Int):Option Bool :=
  (some (if (decide (p0=0))=true then true else (decide (p0=p1))))>>=fun y1=>some y1
def aKp (p1:Int) (p2:Int) (x10:Int):Option (Int×Bool) :=
  (aB9 p1 x10)>>=fun y12=>(if (true&&(y12==true))=true then aB9 p2 x10 else some default)>>=fun y13=>(some (if y12=true then y13 else false))>>=fun y14=>(tJ x10 y14)>>=fun y15=>some (y15.1,y15.2)
def zZ (p0:Int):Option Bool :=
  (fJ p0 0 3)>>=fun y1=>some y1
def Q7 (p0:Int) (p1:Int):Option (Int×Bool) :=
  (zZ p0)>>=fun y1=>(if (true&&((!y1)==false))=true then zZ p1 else some default)>>=fun y2=>(some (if (!y1)=true then true else (!y2)))>>=fun y3=>if y3=true then (some (0,false)) else (if (decide (p0=0))=true then (some (p1,true)) else ((some (if (decide (p1=0))=true then true else (decide (p0=p1))))>>=fun y4=>if y4=true then (some (p0,true)) else (some (0,false))))
def aGh (p0:Int) (p1:Int) (p2:Int):Option (Int×Bool) :=
  (fJ p0 1 14)>>=fun y1=>(if (true&&((!y1)==false))=true then zZ p1 else some default)>>=fun y2=>(some (if (!y1)=true then true else (!y2)))>>=fun y3=>(if (true&&(y3==false))=true then zZ p2 else some default)>>=fun y4=>(some (if y3=true then true else (!y4)))>>=fun y5=>if y5=true then (some (0,false)) else (if (decide (p0≤2))=true then ((V8 p1)>>=fun y6=>(if (true&&(y6==true))=true then V8 p2 else some default)>>=fun y7=>(some (if y6=true then y7 else false))>>=fun y8=>(tJ 3 y8)>>=fun y9=>some (y9.1,y9.2)) else (if (decide (p0≤8))=true then ((Q7 p1 p2)>>=fun y10=>(tJ 3 y10.2)>>=fun y11=>some (y11.1,y11.2)) else (if (decide (p0=9))=true then (aKp p1 p2 2) else (aKp p1 p2 1))))
def zF (p0:List Int) (x3:Int) (x4:Int):Option Bool :=
  if (decide (x4<(p0.length:Int)))=true then ((idx p0 x4)>>=fun y1=>(Q7 x3 y1)>>=fun y2=>if (!y2.2)=true then (some false) else (zF p0 y2.1 (QA .i64 (x4+1)))) else (some true)
  partial_fixpoint
def Y0 (p0:List Int):Option Bool :=
  zF p0 0 0
def yG (p2:aJ) (aAc:List Int):Option (Int×Bool) :=
  if (decide (p2.kind=5))=true then (some (3,true)) else ((Y0 aAc)>>=fun y23=>(tJ 3 y23)>>=fun y24=>some (y24.1,y24.2))
def aGs (p0:Int) (p1:Int):Option (Int×Bool) :=
  if (decide (p0=15))=true then ((V8 p1)>>=fun y1=>(tJ 3 y1)>>=fun y2=>some (y2.1,y2.2)) else (if (decide (p0=16))=true then ((aB9 p1 1)>>=fun y3=>(tJ 1 y3)>>=fun y4=>some (y4.1,y4.2)) else (some (0,false)))
mutual
def J7 (y8:List (List Int)) (p0:aP) (p2:aQ) (x17:List Int) (x18:Int):Option ((List Int)×Bool) :=
  if (decide (x18<(p2.items.length:Int)))=true then ((idx p2.items x18)>>=fun y12=>(aAm p0 y8 y12)>>=fun y13=>if (!y13.2)=true then (some (([]:List Int),false)) else ((appG 8 x17 ([y13.1]:List Int))>>=fun y14=>J7 y8 p0 p2 y14 (QA .i64 (x18+1)))) else (some (x17,true))
  partial_fixpoint
def X7 (y8:List (List Int)) (p0:aP) (p2:aQ) (x14:Int):Option ((List Int)×Bool) :=
  if (decide (x14<(p2.order.length:Int)))=true then ((idx p2.order x14)>>=fun y10=>(aAm p0 y8 y10.expr)>>=fun y11=>if (!y11.2)=true then (some (([]:List Int),false)) else (X7 y8 p0 p2 (QA .i64 (x14+1)))) else (J7 y8 p0 p2 ([]:List Int) 0)
  partial_fixpoint
def rY (p1:List (List Int)) (p0:aP) (p2:aJ) (x8:List Int) (x9:Int):Option (Int×Bool) :=
  if (decide (x9<(p2.kids.length:Int)))=true then ((idx p2.kids x9)>>=fun y2=>(aAm p0 p1 y2)>>=fun y3=>if (!y3.2)=true then (some (0,false)) else ((appG 8 x8 ([y3.1]:List Int))>>=fun y4=>rY p1 p0 p2 y4 (QA .i64 (x9+1)))) else (if (decide (p2.kind=1))=true then (some (p2.value.kind,true)) else (if (decide (p2.kind=2))=true then ((fJ p2.up 0 (QA .i64 ((p1.length:Int) - 1)))>>=fun y5=>(if (true&&((!y5)==false))=true then idx p1 p2.up else some default)>>=fun y6=>(if (true&&((!y5)==false))=true then fJ p2.at_ 0 (QA .i64 ((y6.length:Int) - 1)) else some default)>>=fun y7=>(some (if (!y5)=true then true else (!y7)))>>=fun y8=>if y8=true then (some (0,false)) else ((idx p1 p2.up)>>=fun y9=>(idx y9 p2.at_)>>=fun y10=>some (y10,true))) else (if (decide (p2.kind=3))=true then ((idx x8 0)>>=fun y11=>(aGs p2.op y11)>>=fun y12=>some (y12.1,y12.2)) else (if (decide (p2.kind=4))=true then ((idx x8 0)>>=fun y13=>(idx x8 1)>>=fun y14=>(aGh p2.op y13 y14)>>=fun y15=>some (y15.1,y15.2)) else (if (decide (0<(p2.sub.length:Int)))=true then ((idx p2.sub 0)>>=fun y16=>(aB4 p0 p1 y16)>>=fun y17=>(if (true&&((!y17.2)==false))=true then some (if (decide (p2.kind=8))=true then (!decide ((y17.1.length:Int)=1)) else false) else some default)>>=fun y18=>(some (if (!y17.2)=true then true else y18))>>=fun y19=>if y19=true then (some (0,false)) else (if (decide (p2.kind=8))=true then ((idx y17.1 0)>>=fun y20=>(appG 8 x8 ([y20]:List Int))>>=fun y21=>yG p2 y21) else (yG p2 x8))) else (yG p2 x8))))))
  partial_fixpoint
def aAm (p0:aP) (p1:List (List Int)) (p2:aJ):Option (Int×Bool) :=
  (K9 p2)>>=fun y1=>if (!y1)=true then (some (0,false)) else (rY p1 p0 p2 ([]:List Int) 0)
  partial_fixpoint
def aDj (p1:List (List Int)) (p2:List aJ) (p0:aP) (x7:Int):Option Bool :=
  if (decide (x7<(p2.length:Int)))=true then ((idx p2 x7)>>=fun y1=>(aAm p0 p1 y1)>>=fun y2=>(if (true&&((!y2.2)==false))=true then V8 y2.1 else some default)>>=fun y3=>(some (if (!y2.2)=true then true else (!y3)))>>=fun y4=>if y4=true then (some false) else (aDj p1 p2 p0 (QA .i64 (x7+1)))) else (some true)
  partial_fixpoint
def aG6 (p0:aP) (p1:List (List Int)) (p2:List aJ):Option Bool :=
  aDj p1 p2 p0 0
  partial_fixpoint
def aCt (p1:List (List Int)) (p0:aP) (p2:aQ) (x8:Int):Option ((List Int)×Bool) :=
  if (decide (x8<(p2.on_.length:Int)))=true then ((iP p2.tables 0 (QA .i64 (x8+1)))>>=fun y2=>(D5 p0 y2)>>=fun y3=>(V6 y3.1 p1)>>=fun y4=>(idx p2.on_ x8)>>=fun y5=>(aG6 p0 y4 y5)>>=fun y6=>if (!y6)=true then (some (([]:List Int),false)) else (aCt p1 p0 p2 (QA .i64 (x8+1)))) else ((D5 p0 p2.tables)>>=fun y7=>(V6 y7.1 p1)>>=fun y8=>(aG6 p0 y8 p2.where_)>>=fun y9=>if (!y9)=true then (some (([]:List Int),false)) else (X7 y8 p0 p2 0))
  partial_fixpoint
def aB4 (p0:aP) (p1:List (List Int)) (p2:aQ):Option ((List Int)×Bool) :=
  (aGy p0 p2)>>=fun y1=>if (!y1)=true then (some (([]:List Int),false)) else (aCt p1 p0 p2 0)
  partial_fixpoint
end
def aCf (p0:List aA):Option (List aA) :=
  (appG 32 ([]:List aA) p0)>>=fun y1=>some y1
def aOt (p0:Int) (p1:Int):Option (Int×Bool) :=
  (some (if (decide (0<p1))=true then (decide ((QA .i64 (9223372036854775807 - p1))<p0)) else false))>>=fun y1=>(if (true&&(y1==false))=true then some (if (decide (p1<0))=true then (decide (p0<(QA .i64 ((-9223372036854775808) - p1)))) else false) else some default)>>=fun y2=>(some (if y1=true then true else y2))>>=fun y3=>if y3=true then (some (0,false)) else (some ((QA .i64 (p0+p1)),true))
def aC7 (p0:Int) (p1:Int):Option Bool :=
  if (decide (p0=3))=true then (some (decide (p1=0))) else (if (decide (p0=4))=true then (some (!decide (p1=0))) else (if (decide (p0=5))=true then (some (decide (p1<0))) else (if (decide (p0=6))=true then (some (decide (p1≤0))) else (if (decide (p0=7))=true then (some (decide (0<p1))) else (some (decide (0≤p1)))))))
def D9 (p0:Int) (p1:Bool):Option (aA×Int) :=
  if (!p1)=true then (some ((aA.mk 0 0 []),2)) else ((wN p0)>>=fun y1=>some (y1,0))
def aF3 (p0:Int) (p1:Int):Option (Int×Bool) :=
  (some (if (decide (p1<0))=true then (decide ((QA .i64 (9223372036854775807+p1))<p0)) else false))>>=fun y1=>(if (true&&(y1==false))=true then some (if (decide (0<p1))=true then (decide (p0<(QA .i64 ((-9223372036854775808)+p1)))) else false) else some default)>>=fun y2=>(some (if y1=true then true else y2))>>=fun y3=>if y3=true then (some (0,false)) else (some ((QA .i64 (p0 - p1)),true))
def aJ3 (p0:Int) (p1:Int) (p2:Int):Option (aA×Int) :=
  if (decide (p2=0))=true then (some ((aA.mk 0 0 []),3)) else (if (decide (p2=(-1)))=true then (if (decide (p0=14))=true then ((wN 0)>>=fun y1=>some (y1,0)) else ((aF3 0 p1)>>=fun y2=>(D9 y2.1 y2.2)>>=fun y3=>some (y3.1,y3.2))) else (if (decide (p0=14))=true then ((xX p1 p2)>>=fun y4=>(wN y4)>>=fun y5=>some (y5,0)) else ((xZ .i64 p1 p2)>>=fun y6=>(wN y6)>>=fun y7=>some (y7,0))))
def vG (p0:aA) (p1:aA):Option Int :=
  if (decide (p0.kind<p1.kind))=true then (some (-1)) else (if (decide (p1.kind<p0.kind))=true then (some 1) else (if (decide (p0.num<p1.num))=true then (some (-1)) else (if (decide (p1.num<p0.num))=true then (some 1) else (if (Op.bytesLess p0.text p1.text)=true then (some (-1)) else (if (!(Op.bytesLess p0.text p1.text||decide (p0.text=p1.text)))=true then (some 1) else (some 0))))))
def aG8 (p0:Int) (p1:aA) (p2:aA) (U1:Bool):Option (aA×Int) :=
  if U1=true then ((aJ3 p0 p1.num p2.num)>>=fun y19=>some (y19.1,y19.2)) else ((vG p1 p2)>>=fun y20=>(aC7 p0 y20)>>=fun y21=>(rF y21)>>=fun y22=>some (y22,0))
def vL (p0:aA):Option Bool :=
  some (decide (p0.kind=0))
def vE (p0:aA) (p1:Int):Option Bool :=
  (if (true&&((decide (p0.kind=p1))==false))=true then vL p0 else some default)>>=fun y1=>(some (if (decide (p0.kind=p1))=true then true else y1))>>=fun y2=>some y2
def aIe (p0:Int) (p1:aA) (p2:aA):Option (aA×Int) :=
  (vE p1 3)>>=fun y1=>(if (true&&((!y1)==false))=true then vE p2 3 else some default)>>=fun y2=>(some (if (!y1)=true then true else (!y2)))>>=fun y3=>if y3=true then (some ((aA.mk 0 0 []),1)) else ((rF (decide (p0=1)))>>=fun y4=>(some (if ((decide (p1.kind=y4.kind))&&((decide (p1.num=y4.num))&&((decide (p1.text=y4.text))&&true)))=true then true else ((decide (p2.kind=y4.kind))&&((decide (p2.num=y4.num))&&((decide (p2.text=y4.text))&&true)))))>>=fun y5=>if y5=true then (some (y4,0)) else ((vL p1)>>=fun y6=>(if (true&&(y6==false))=true then vL p2 else some default)>>=fun y7=>(some (if y6=true then true else y7))>>=fun y8=>if y8=true then (some ((aA.mk 0 0 []),0)) else ((rF (decide (p0=2)))>>=fun y9=>some (y9,0))))
def aEa (p0:Int) (p1:aA) (p2:aA):Option Bool :=
  if (decide (p0=9))=true then ((vE p1 2)>>=fun y1=>(if (true&&(y1==true))=true then vE p2 2 else some default)>>=fun y2=>(some (if y1=true then y2 else false))>>=fun y3=>some y3) else (if (decide (10≤p0))=true then ((vE p1 1)>>=fun y4=>(if (true&&(y4==true))=true then vE p2 1 else some default)>>=fun y5=>(some (if y4=true then y5 else false))>>=fun y6=>some y6) else ((if (true&&((decide (p1.kind=p2.kind))==false))=true then vL p1 else some default)>>=fun y7=>(some (if (decide (p1.kind=p2.kind))=true then true else y7))>>=fun y8=>(if (true&&(y8==false))=true then vL p2 else some default)>>=fun y9=>(some (if y8=true then true else y9))>>=fun y10=>some y10))
def aJ7 (p0:Int) (p1:Int):Option (Int×Bool) :=
  (some (if (decide (p0=0))=true then true else (decide (p1=0))))>>=fun y1=>if y1=true then (some (0,true)) else ((some (if (decide (p0=(-1)))=true then (decide (p1=(-9223372036854775808))) else false))>>=fun y2=>(if (true&&(y2==false))=true then some (if (decide (p1=(-1)))=true then (decide (p0=(-9223372036854775808))) else false) else some default)>>=fun y3=>(some (if y2=true then true else y3))>>=fun y4=>if y4=true then (some (0,false)) else ((xZ .i64 (QA .i64 (p0 * p1)) p1)>>=fun y5=>if (!decide (y5=p0))=true then (some (0,false)) else (some ((QA .i64 (p0 * p1)),true))))
def rD (p0:Int) (p1:aA) (p2:aA):Option (aA×Int) :=
  (fJ p0 1 14)>>=fun y1=>(if (true&&((!y1)==false))=true then kW p1 else some default)>>=fun y2=>(some (if (!y1)=true then true else (!y2)))>>=fun y3=>(if (true&&(y3==false))=true then kW p2 else some default)>>=fun y4=>(some (if y3=true then true else (!y4)))>>=fun y5=>if y5=true then (some ((aA.mk 0 0 []),1)) else (if (decide (p0≤2))=true then ((aIe p0 p1 p2)>>=fun y6=>some (y6.1,y6.2)) else ((aEa p0 p1 p2)>>=fun y7=>if (!y7)=true then (some ((aA.mk 0 0 []),1)) else ((vL p1)>>=fun y8=>(if (true&&(y8==false))=true then vL p2 else some default)>>=fun y9=>(some (if y8=true then true else y9))>>=fun y10=>if y10=true then (some ((aA.mk 0 0 []),0)) else (if (decide (p0=9))=true then (if (decide (200<(QA .i64 ((p1.text.length:Int)+(p2.text.length:Int)))))=true then (some ((aA.mk 0 0 []),2)) else ((Y6 p1.text p2.text)>>=fun y11=>(aEd y11)>>=fun y12=>some (y12,0))) else (if (decide (p0=10))=true then ((aOt p1.num p2.num)>>=fun y13=>(D9 y13.1 y13.2)>>=fun y14=>some (y14.1,y14.2)) else (if (decide (p0=11))=true then ((aF3 p1.num p2.num)>>=fun y15=>(D9 y15.1 y15.2)>>=fun y16=>some (y16.1,y16.2)) else (if (decide (p0=12))=true then ((aJ7 p1.num p2.num)>>=fun y17=>(D9 y17.1 y17.2)>>=fun y18=>some (y18.1,y18.2)) else (if (decide (p0=13))=true then (aG8 p0 p1 p2 (decide (p0=13))) else (aG8 p0 p1 p2 (decide (p0=14)))))))))))
def aKk (p0:aA) (p1:aA) (p2:aA):Option (aA×Int) :=
  (rD 8 p0 p1)>>=fun y1=>if (!decide (y1.2=0))=true then (some ((aA.mk 0 0 []),y1.2)) else ((rD 6 p0 p2)>>=fun y2=>if (!decide (y2.2=0))=true then (some ((aA.mk 0 0 []),y2.2)) else ((rD 2 y1.1 y2.1)>>=fun y3=>some (y3.1,y3.2)))
def aDo (p0:Int) (p1:aA):Option (aA×Int) :=
  (kW p1)>>=fun y1=>if (!y1)=true then (some ((aA.mk 0 0 []),1)) else (if (decide (p0=15))=true then ((vE p1 3)>>=fun y2=>if (!y2)=true then (some ((aA.mk 0 0 []),1)) else ((vL p1)>>=fun y3=>if y3=true then (some (p1,0)) else ((rF (decide (p1.num=0)))>>=fun y4=>some (y4,0)))) else (if (decide (p0=16))=true then ((vE p1 1)>>=fun y5=>if (!y5)=true then (some ((aA.mk 0 0 []),1)) else ((vL p1)>>=fun y6=>if y6=true then (some (p1,0)) else ((aF3 0 p1.num)>>=fun y7=>(D9 y7.1 y7.2)>>=fun y8=>some (y8.1,y8.2)))) else (some ((aA.mk 0 0 []),1))))
def aB1 (p0:aJ) (p1:aA) (p2:Int):Option (aA×Int) :=
  if (!decide (p2=0))=true then (some ((aA.mk 0 0 []),p2)) else (if p0.not_=true then ((aDo 15 p1)>>=fun y1=>some (y1.1,y1.2)) else (some (p1,0)))
def P6 (p1:List aA) (p0:aA) (x7:Int) (jC:Int) (jA:Int) (jD:List UInt8):Option (aA×Int) :=
  if (decide (x7<(p1.length:Int)))=true then ((idx p1 x7)>>=fun y2=>(rD 3 p0 y2)>>=fun y3=>if (!decide (y3.2=0))=true then (some ((aA.mk 0 0 []),y3.2)) else ((rD 1 (aA.mk jC jA jD) y3.1)>>=fun y4=>P6 p1 p0 (QA .i64 (x7+1)) y4.1.kind y4.1.num y4.1.text)) else (some ((aA.mk jC jA jD),0))
  partial_fixpoint
def aE7 (p0:aA) (p1:List aA):Option (aA×Int) :=
  (rF false)>>=fun y1=>P6 p1 p0 0 y1.kind y1.num y1.text
def K4 (x10:List aA) (x14:List (List aA)) (p3:aJ) (x21:List aA) (x22:Int):Option (aA×Int) :=
  if (decide (x22<(x14.length:Int)))=true then ((idx x14 x22)>>=fun y30=>if (decide ((y30.length:Int)=0))=true then (some ((aA.mk 0 0 []),4)) else ((idx x14 x22)>>=fun y31=>(idx y31 0)>>=fun y32=>(appG 32 x21 ([y32]:List aA))>>=fun y33=>K4 x10 x14 p3 y33 (QA .i64 (x22+1)))) else ((idx x10 0)>>=fun y34=>(aE7 y34 x21)>>=fun y35=>(aB1 p3 y35.1 y35.2)>>=fun y36=>some (y36.1,y36.2))
  partial_fixpoint
def vW (p2:List (List aA)) (x10:List aA) (p3:aJ) (x14:List (List aA)):Option (aA×Int) :=
  if (decide (p3.kind=1))=true then (some (p3.value,0)) else (if (decide (p3.kind=2))=true then ((fJ p3.up 0 (QA .i64 ((p2.length:Int) - 1)))>>=fun y7=>(if (true&&((!y7)==false))=true then idx p2 p3.up else some default)>>=fun y8=>(if (true&&((!y7)==false))=true then fJ p3.at_ 0 (QA .i64 ((y8.length:Int) - 1)) else some default)>>=fun y9=>(some (if (!y7)=true then true else (!y9)))>>=fun y10=>if y10=true then (some ((aA.mk 0 0 []),4)) else ((idx p2 p3.up)>>=fun y11=>(idx y11 p3.at_)>>=fun y12=>some (y12,0))) else (if (decide (p3.kind=3))=true then ((idx x10 0)>>=fun y13=>(aDo p3.op y13)>>=fun y14=>some (y14.1,y14.2)) else (if (decide (p3.kind=4))=true then ((idx x10 0)>>=fun y15=>(idx x10 1)>>=fun y16=>(rD p3.op y15 y16)>>=fun y17=>some (y17.1,y17.2)) else (if (decide (p3.kind=5))=true then ((idx x10 0)>>=fun y18=>(rF (!((decide (y18.kind=0))==p3.not_)))>>=fun y19=>some (y19,0)) else (if (decide (p3.kind=6))=true then ((idx x10 0)>>=fun y20=>(idx x10 1)>>=fun y21=>(idx x10 2)>>=fun y22=>(aKk y20 y21 y22)>>=fun y23=>(aB1 p3 y23.1 y23.2)>>=fun y24=>some (y24.1,y24.2)) else (if (decide (p3.kind=7))=true then ((idx x10 0)>>=fun y25=>(iP x10 1 (x10.length:Int))>>=fun y26=>(aE7 y25 y26)>>=fun y27=>(aB1 p3 y27.1 y27.2)>>=fun y28=>some (y28.1,y28.2)) else (if (decide (p3.kind=9))=true then ((rF (decide (0<(x14.length:Int))))>>=fun y29=>some (y29,0)) else (K4 x10 x14 p3 ([]:List aA) 0))))))))
def aH2 (p0:aJ) (x20:Bool):Option Bool :=
  if x20=true then ((some (if (decide ((p0.kids.length:Int)=1))=true then (decide ((p0.sub.length:Int)=0)) else false))>>=fun y1=>some y1) else (if (decide (p0.kind=4))=true then ((some (if (decide ((p0.kids.length:Int)=2))=true then (decide ((p0.sub.length:Int)=0)) else false))>>=fun y2=>some y2) else (if (decide (p0.kind=6))=true then ((some (if (decide ((p0.kids.length:Int)=3))=true then (decide ((p0.sub.length:Int)=0)) else false))>>=fun y3=>some y3) else (if (decide (p0.kind=7))=true then ((fJ (p0.kids.length:Int) 2 9)>>=fun y4=>(some (if y4=true then (decide ((p0.sub.length:Int)=0)) else false))>>=fun y5=>some y5) else (if (decide (p0.kind=8))=true then ((some (if (decide ((p0.kids.length:Int)=1))=true then (decide ((p0.sub.length:Int)=1)) else false))>>=fun y6=>some y6) else (if (decide (p0.kind=9))=true then ((some (if (decide ((p0.kids.length:Int)=0))=true then (decide ((p0.sub.length:Int)=1)) else false))>>=fun y7=>some y7) else (some false))))))
def aK6 (p0:aJ) (x13:Bool):Option Bool :=
  if x13=true then (some (decide ((QA .i64 ((p0.kids.length:Int)+(p0.sub.length:Int)))=0))) else (if (decide (p0.kind=3))=true then (aH2 p0 (decide (p0.kind=3))) else (aH2 p0 (decide (p0.kind=5))))
def aJ2 (p0:aJ):Option Bool :=
  if (decide (p0.kind=1))=true then (aK6 p0 (decide (p0.kind=1))) else (aK6 p0 (decide (p0.kind=2)))
def aIn (p0:aA):Option Bool :=
  (some (if (decide (p0.kind=3))=true then (decide (p0.num=1)) else false))>>=fun y1=>some y1
def aC6 (p0:List aA) (p1:List (List aA)):Option (List (List aA)) :=
  (appG 24 ([p0]:List (List aA)) p1)>>=fun y1=>some y1
def O9 (p0:GDb) (p1:aQ) (x5:Int):Option Bool :=
  if (decide (x5<(p1.tables.length:Int)))=true then ((idx p1.tables x5)>>=fun y2=>(fJ y2 0 (QA .i64 ((p0.tables.length:Int) - 1)))>>=fun y3=>if (!y3)=true then (some false) else (O9 p0 p1 (QA .i64 (x5+1)))) else (some true)
  partial_fixpoint
def aIi (p0:GDb) (p1:aQ):Option Bool :=
  (some (if (decide ((p1.tables.length:Int)=0))=true then true else (!decide ((p1.on_.length:Int)=(p1.tables.length:Int)))))>>=fun y1=>if y1=true then (some false) else (O9 p0 p1 0)
mutual
def aAz (p0:List aA) (p1:List aA) (p2:List dI) (x7:Int) (x8:Int):Option Bool :=
  if (!decide (x8=0))=true then (some (decide (x8<0))) else (aDh p0 p1 p2 (QA .i64 (x7+1)))
  partial_fixpoint
def aDh (p0:List aA) (p1:List aA) (p2:List dI) (x7:Int):Option Bool :=
  if (decide (x7<(p2.length:Int)))=true then ((idx p0 x7)>>=fun y1=>(idx p1 x7)>>=fun y2=>(vG y1 y2)>>=fun y3=>(idx p2 x7)>>=fun y4=>if y4.desc=true then (aAz p0 p1 p2 x7 (QA .i64 (0 - y3))) else (aAz p0 p1 p2 x7 y3)) else (some false)
  partial_fixpoint
end
def aHg (p0:List aA) (p1:List aA) (p2:List dI):Option Bool :=
  aDh p0 p1 p2 0
def Y4 (p0:List aA) (p1:List aA) (x5:Int):Option Bool :=
  if (decide (x5<(p0.length:Int)))=true then ((idx p0 x5)>>=fun y1=>(idx p1 x5)>>=fun y2=>if (!((decide (y1.kind=y2.kind))&&((decide (y1.num=y2.num))&&((decide (y1.text=y2.text))&&true))))=true then (some false) else (Y4 p0 p1 (QA .i64 (x5+1)))) else (some true)
  partial_fixpoint
def aJg (p0:List aA) (p1:List aA):Option Bool :=
  if (!decide ((p0.length:Int)=(p1.length:Int)))=true then (some false) else (Y4 p0 p1 0)
mutual
def zC (p0:List (List aA)) (x4:Int) (uA:List (List aA)):Option (List (List aA)) :=
  aD2 p0 uA (QA .i64 (x4+1))
  partial_fixpoint
def aD9 (p0:List (List aA)) (x3:List (List aA)) (x4:Int) (x5:Bool) (x6:Int):Option (List (List aA)) :=
  if (decide (x6<(x3.length:Int)))=true then ((if (true&&(x5==false))=true then idx x3 x6 else some default)>>=fun y1=>(if (true&&(x5==false))=true then idx p0 x4 else some default)>>=fun y2=>(if (true&&(x5==false))=true then aJg y1 y2 else some default)>>=fun y3=>(some (if x5=true then true else y3))>>=fun y4=>aD9 p0 x3 x4 y4 (QA .i64 (x6+1))) else (if (!x5)=true then ((idx p0 x4)>>=fun y5=>(aCf y5)>>=fun y6=>(appG 24 x3 ([y6]:List (List aA)))>>=fun y7=>zC p0 x4 y7) else (zC p0 x4 x3))
  partial_fixpoint
def aD2 (p0:List (List aA)) (x3:List (List aA)) (x4:Int):Option (List (List aA)) :=
  if (decide (x4<(p0.length:Int)))=true then (aD9 p0 x3 x4 false 0) else (some x3)
  partial_fixpoint
end
def aF4 (p0:List (List aA)):Option (List (List aA)) :=
  aD2 p0 ([]:List (List aA)) 0
def aH7 (V7:List (List aA)):Option ((List (List aA))×Int) :=
  some (V7,0)
def Z7 (p3:aQ) (vM:List (List aA)):Option ((List (List aA))×Int) :=
  (some (if (decide (0≤p3.limit))=true then (decide (p3.limit<(vM.length:Int))) else false))>>=fun y8=>if y8=true then ((iP vM 0 p3.limit)>>=fun y9=>aH7 y9) else (aH7 vM)
mutual
def aCn (p2:List (List aA)) (p3:List (List aA)) (p4:List aJ) (x12:List (List aA)) (x13:Int) (p0:aP) (kp1:GDb×(List aA)×Int):Option ((List (List aA))×Int) :=
  if (decide (kp1.2.2<(p4.length:Int)))=true then ((idx p3 x13)>>=fun y1=>(aC6 y1 p2)>>=fun y2=>(idx p4 kp1.2.2)>>=fun y3=>(fH p0 kp1.1 y2 y3)>>=fun y4=>if (!decide (y4.2=0))=true then (some (([]:List (List aA)),y4.2)) else ((appG 32 kp1.2.1 ([y4.1]:List aA))>>=fun y5=>aCn p2 p3 p4 x12 x13 p0 (kp1.1,y5,(QA .i64 (kp1.2.2+1))))) else ((appG 24 x12 ([kp1.2.1]:List (List aA)))>>=fun y6=>M3 p2 p3 p4 p0 kp1.1 y6 (QA .i64 (x13+1)))
  partial_fixpoint
def M3 (p2:List (List aA)) (p3:List (List aA)) (p4:List aJ) (p0:aP) (p1:GDb) (x12:List (List aA)) (x13:Int):Option ((List (List aA))×Int) :=
  if (decide (x13<(p3.length:Int)))=true then (aCn p2 p3 p4 x12 x13 p0 (p1,([]:List aA),0)) else (some (x12,0))
  partial_fixpoint
def aJ1 (p0:aP) (p1:GDb) (p2:List (List aA)) (p3:List (List aA)) (p4:List aJ):Option ((List (List aA))×Int) :=
  M3 p2 p3 p4 p0 p1 ([]:List (List aA)) 0
  partial_fixpoint
def aEf (p2:List (List aA)) (p0:aP) (p1:GDb) (p3:aQ) (x11:List (List aA)):Option ((List (List aA))×Int) :=
  (aJ1 p0 p1 p2 x11 p3.items)>>=fun y5=>if (!decide (y5.2=0))=true then (some (([]:List (List aA)),y5.2)) else (if p3.distinct=true then ((aF4 y5.1)>>=fun y6=>Z7 p3 y6) else (Z7 p3 y5.1))
  partial_fixpoint
def P9 (p2:List (List aA)) (p3:List (List aA)) (p4:List dI) (x12:List (List aA)) (x13:List (List aA)) (x14:Int) (kx15q:(List aA)×aP×GDb×Int):Option ((List (List aA))×Int) :=
  (if (true&&((decide (0<kx15q.2.2.2))==true))=true then idx x13 (QA .i64 (kx15q.2.2.2 - 1)) else some default)>>=fun y6=>(if (true&&((decide (0<kx15q.2.2.2))==true))=true then aHg kx15q.1 y6 p4 else some default)>>=fun y7=>(some (if (decide (0<kx15q.2.2.2))=true then y7 else false))>>=fun y8=>if y8=true then (P9 p2 p3 p4 x12 x13 x14 (kx15q.1,kx15q.2.1,kx15q.2.2.1,(QA .i64 (kx15q.2.2.2 - 1)))) else ((iP x12 0 kx15q.2.2.2)>>=fun y9=>(appG 24 ([]:List (List aA)) y9)>>=fun y10=>(idx p3 x14)>>=fun y11=>(appG 24 y10 ([y11]:List (List aA)))>>=fun y12=>(iP x12 kx15q.2.2.2 (x12.length:Int))>>=fun y13=>(appG 24 y12 y13)>>=fun y14=>(iP x13 0 kx15q.2.2.2)>>=fun y15=>(appG 24 ([]:List (List aA)) y15)>>=fun y16=>(appG 24 y16 ([kx15q.1]:List (List aA)))>>=fun y17=>(iP x13 kx15q.2.2.2 (x13.length:Int))>>=fun y18=>(appG 24 y17 y18)>>=fun y19=>xL p2 p3 p4 kx15q.2.1 kx15q.2.2.1 y14 (y19,(QA .i64 (x14+1))))
  partial_fixpoint
def aEl (p2:List (List aA)) (p3:List (List aA)) (p4:List dI) (x12:List (List aA)) (x13:List (List aA)) (x14:Int) (kp0q:aP×GDb×(List aA)×Int):Option ((List (List aA))×Int) :=
  if (decide (kp0q.2.2.2<(p4.length:Int)))=true then ((idx p3 x14)>>=fun y1=>(aC6 y1 p2)>>=fun y2=>(idx p4 kp0q.2.2.2)>>=fun y3=>(fH kp0q.1 kp0q.2.1 y2 y3.expr)>>=fun y4=>if (!decide (y4.2=0))=true then (some (([]:List (List aA)),y4.2)) else ((appG 32 kp0q.2.2.1 ([y4.1]:List aA))>>=fun y5=>aEl p2 p3 p4 x12 x13 x14 (kp0q.1,kp0q.2.1,y5,(QA .i64 (kp0q.2.2.2+1))))) else (P9 p2 p3 p4 x12 x13 x14 (kp0q.2.2.1,kp0q.1,kp0q.2.1,(x12.length:Int)))
  partial_fixpoint
def xL (p2:List (List aA)) (p3:List (List aA)) (p4:List dI) (p0:aP) (p1:GDb) (x12:List (List aA)) (kx13:(List (List aA))×Int):Option ((List (List aA))×Int) :=
  if (decide (kx13.2<(p3.length:Int)))=true then (aEl p2 p3 p4 x12 kx13.1 kx13.2 (p0,p1,([]:List aA),0)) else (some (x12,0))
  partial_fixpoint
def aJd (p0:aP) (p1:GDb) (p2:List (List aA)) (p3:List (List aA)) (p4:List dI):Option ((List (List aA))×Int) :=
  xL p2 p3 p4 p0 p1 ([]:List (List aA)) (([]:List (List aA)),0)
  partial_fixpoint
def aFj (p2:List (List aA)) (x3:List (List aA)) (p4:List aJ) (x12:Int) (x14:Int) (p0:aP) (kp1:GDb×(List (List aA))):Option ((List (List aA))×Int) :=
  aB3 p2 x3 p4 x12 p0 kp1.1 (kp1.2,(QA .i64 (x14+1)))
  partial_fixpoint
def aD8 (p2:List (List aA)) (p0:aP) (p1:GDb) (p3:aJ) (x10:List aA) (x11:Int):Option (aA×Int) :=
  if (decide (x11<(p3.kids.length:Int)))=true then ((idx p3.kids x11)>>=fun y2=>(fH p0 p1 p2 y2)>>=fun y3=>if (!decide (y3.2=0))=true then (some ((aA.mk 0 0 []),y3.2)) else ((appG 32 x10 ([y3.1]:List aA))>>=fun y4=>aD8 p2 p0 p1 p3 y4 (QA .i64 (x11+1)))) else (if (decide (0<(p3.sub.length:Int)))=true then ((idx p3.sub 0)>>=fun y5=>(tL p0 p1 p2 y5)>>=fun y6=>if (!decide (y6.2=0))=true then (some ((aA.mk 0 0 []),y6.2)) else (vW p2 x10 p3 y6.1)) else (vW p2 x10 p3 ([]:List (List aA))))
  partial_fixpoint
def fH (p0:aP) (p1:GDb) (p2:List (List aA)) (p3:aJ):Option (aA×Int) :=
  (aJ2 p3)>>=fun y1=>if (!y1)=true then (some ((aA.mk 0 0 []),4)) else (aD8 p2 p0 p1 p3 ([]:List aA) 0)
  partial_fixpoint
def aB3 (p2:List (List aA)) (x3:List (List aA)) (p4:List aJ) (x12:Int) (p0:aP) (p1:GDb) (kx13:(List (List aA))×Int):Option ((List (List aA))×Int) :=
  if (decide (kx13.2<(x3.length:Int)))=true then ((idx x3 kx13.2)>>=fun y1=>(aC6 y1 p2)>>=fun y2=>(idx p4 x12)>>=fun y3=>(fH p0 p1 y2 y3)>>=fun y4=>if (!decide (y4.2=0))=true then (some (([]:List (List aA)),y4.2)) else ((aIn y4.1)>>=fun y5=>if y5=true then ((idx x3 kx13.2)>>=fun y6=>(appG 24 kx13.1 ([y6]:List (List aA)))>>=fun y7=>aFj p2 x3 p4 x12 kx13.2 p0 (p1,y7)) else (aFj p2 x3 p4 x12 kx13.2 p0 (p1,kx13.1)))) else (X4 p2 p4 p0 p1 kx13.1 (QA .i64 (x12+1)))
  partial_fixpoint
def X4 (p2:List (List aA)) (p4:List aJ) (p0:aP) (p1:GDb) (x3:List (List aA)) (x12:Int):Option ((List (List aA))×Int) :=
  if (decide (x12<(p4.length:Int)))=true then (aB3 p2 x3 p4 x12 p0 p1 (([]:List (List aA)),0)) else (some (x3,0))
  partial_fixpoint
def aCo (p0:aP) (p1:GDb) (p2:List (List aA)) (p3:List (List aA)) (p4:List aJ):Option ((List (List aA))×Int) :=
  X4 p2 p4 p0 p1 p3 0
  partial_fixpoint
def aBu (p2:List (List aA)) (x10:List (List aA)) (x11:Int) (y2:fP) (x14:Int) (p0:aP) (kp1:GDb×aQ×(((List (List aA))×Int))):Option ((List (List aA))×Int) :=
  if (decide (kp1.2.2.2<(y2.rows.length:Int)))=true then ((idx x10 x14)>>=fun y6=>(aCf y6)>>=fun y7=>(idx y2.rows kp1.2.2.2)>>=fun y8=>(appG 32 y7 y8)>>=fun y9=>(appG 24 kp1.2.2.1 ([y9]:List (List aA)))>>=fun y10=>aBu p2 x10 x11 y2 x14 p0 (kp1.1,kp1.2.1,y10,(QA .i64 (kp1.2.2.2+1)))) else (R5 p2 x10 x11 y2 p0 kp1.1 (kp1.2.1,kp1.2.2.1,(QA .i64 (x14+1))))
  partial_fixpoint
def R5 (p2:List (List aA)) (x10:List (List aA)) (x11:Int) (y2:fP) (p0:aP) (p1:GDb) (kp3q:aQ×(((List (List aA))×Int))):Option ((List (List aA))×Int) :=
  if (decide (kp3q.2.2<(x10.length:Int)))=true then (aBu p2 x10 x11 y2 kp3q.2.2 p0 (p1,kp3q.1,kp3q.2.1,0)) else ((idx kp3q.1.on_ x11)>>=fun y4=>(aCo p0 p1 p2 kp3q.2.1 y4)>>=fun y5=>if (!decide (y5.2=0))=true then (some (([]:List (List aA)),y5.2)) else (M7 p2 p0 p1 kp3q.1 y5.1 (QA .i64 (x11+1))))
  partial_fixpoint
def M7 (p2:List (List aA)) (p0:aP) (p1:GDb) (p3:aQ) (x10:List (List aA)) (x11:Int):Option ((List (List aA))×Int) :=
  if (decide (x11<(p3.tables.length:Int)))=true then ((idx p3.tables x11)>>=fun y1=>(idx p1.tables y1)>>=fun y2=>R5 p2 x10 x11 y2 p0 p1 (p3,([]:List (List aA)),0)) else (some (x10,0))
  partial_fixpoint
def aQ2 (p0:aP) (p1:GDb) (p2:List (List aA)) (p3:aQ):Option ((List (List aA))×Int) :=
  M7 p2 p0 p1 p3 ([([]:List aA)]:List (List aA)) 0
  partial_fixpoint
def tL (p0:aP) (p1:GDb) (p2:List (List aA)) (p3:aQ):Option ((List (List aA))×Int) :=
  (aIi p1 p3)>>=fun y1=>if (!y1)=true then (some (([]:List (List aA)),4)) else ((aQ2 p0 p1 p2 p3)>>=fun y2=>if (!decide (y2.2=0))=true then (some (([]:List (List aA)),y2.2)) else ((aCo p0 p1 p2 y2.1 p3.where_)>>=fun y3=>if (!decide (y3.2=0))=true then (some (([]:List (List aA)),y3.2)) else (if (decide (0<(p3.order.length:Int)))=true then ((aJd p0 p1 p2 y3.1 p3.order)>>=fun y4=>if (!decide (y4.2=0))=true then (some (([]:List (List aA)),y4.2)) else (aEf p2 p0 p1 p3 y4.1)) else (aEf p2 p0 p1 p3 y3.1))))
  partial_fixpoint
end
def D8 (p0:aQ) (fC:List aJ) (x5:Int):Option (List aJ) :=
  if (decide (x5<(p0.order.length:Int)))=true then ((idx p0.order x5)>>=fun y5=>(appG 120 fC ([y5.expr]:List aJ))>>=fun y6=>D8 p0 y6 (QA .i64 (x5+1))) else ((appG 120 fC p0.items)>>=fun y7=>some y7)
  partial_fixpoint
def aBm (p0:aQ) (x3:List aJ) (x4:Int):Option (List aJ) :=
  if (decide (x4<(p0.on_.length:Int)))=true then ((idx p0.on_ x4)>>=fun y1=>(appG 120 x3 y1)>>=fun y2=>aBm p0 y2 (QA .i64 (x4+1))) else ((appG 120 x3 p0.where_)>>=fun y3=>D8 p0 y3 0)
  partial_fixpoint
def aEh (p0:aQ):Option (List aJ) :=
  aBm p0 ([]:List aJ) 0
def xG (p0:Int) (p1:Int):Option Int :=
  if (decide (p1<p0))=true then (some p0) else (some p1)
mutual
def aAi (p0:aJ) (fC:Int) (x5:Int):Option Int :=
  if (decide (x5<(p0.sub.length:Int)))=true then ((idx p0.sub x5)>>=fun y5=>(aD7 y5)>>=fun y6=>(xG fC y6)>>=fun y7=>aAi p0 y7 (QA .i64 (x5+1))) else (some (QA .i64 (fC+1)))
  partial_fixpoint
def aE8 (p0:aJ) (x3:Int) (x4:Int):Option Int :=
  if (decide (x4<(p0.kids.length:Int)))=true then ((idx p0.kids x4)>>=fun y1=>(K8 y1)>>=fun y2=>(xG x3 y2)>>=fun y3=>aE8 p0 y3 (QA .i64 (x4+1))) else (aAi p0 x3 0)
  partial_fixpoint
def K8 (p0:aJ):Option Int :=
  aE8 p0 0 0
  partial_fixpoint
def aBq (y1:List aJ) (x3:Int) (x5:Int):Option Int :=
  if (decide (x5<(y1.length:Int)))=true then ((idx y1 x5)>>=fun y2=>(K8 y2)>>=fun y3=>(xG x3 y3)>>=fun y4=>aBq y1 y4 (QA .i64 (x5+1))) else (some x3)
  partial_fixpoint
def aD7 (p0:aQ):Option Int :=
  (aEh p0)>>=fun y1=>aBq y1 0 0
  partial_fixpoint
end
mutual
def O8 (p0:aJ) (sG:Int) (x5:Int):Option Int :=
  if (decide (x5<(p0.sub.length:Int)))=true then ((idx p0.sub x5)>>=fun y4=>(aBv y4)>>=fun y5=>O8 p0 (QA .i64 (sG+y5)) (QA .i64 (x5+1))) else (some sG)
  partial_fixpoint
def aFx (p0:aJ) (x3:Int) (x4:Int):Option Int :=
  if (decide (x4<(p0.kids.length:Int)))=true then ((idx p0.kids x4)>>=fun y1=>(C8 y1)>>=fun y2=>aFx p0 (QA .i64 (x3+y2)) (QA .i64 (x4+1))) else (O8 p0 x3 0)
  partial_fixpoint
def C8 (p0:aJ):Option Int :=
  aFx p0 1 0
  partial_fixpoint
def aC5 (y1:List aJ) (x3:Int) (x5:Int):Option Int :=
  if (decide (x5<(y1.length:Int)))=true then ((idx y1 x5)>>=fun y2=>(C8 y2)>>=fun y3=>aC5 y1 (QA .i64 (x3+y3)) (QA .i64 (x5+1))) else (some x3)
  partial_fixpoint
def aBv (p0:aQ):Option Int :=
  (aEh p0)>>=fun y1=>aC5 y1 0 0
  partial_fixpoint
end
def aAd (p0:aP) (p1:aQ):Option Bool :=
  (aBz p0)>>=fun y1=>(if (true&&((!y1)==false))=true then aD7 p1 else some default)>>=fun y2=>(some (if (!y1)=true then true else (decide (24<y2))))>>=fun y3=>(if (true&&(y3==false))=true then aBv p1 else some default)>>=fun y4=>(some (if y3=true then true else (decide (200<y4))))>>=fun y5=>if y5=true then (some false) else ((aB4 p0 ([]:List (List Int)) p1)>>=fun y6=>some y6.2)
def aKx (p0:aP) (p1:GDb) (p2:aQ):Option ((List (List aA))×Int) :=
  (aAd p0 p2)>>=fun y1=>(if (true&&((!y1)==false))=true then wM p0 p1 else some default)>>=fun y2=>(some (if (!y1)=true then true else (!y2)))>>=fun y3=>if y3=true then (some (([]:List (List aA)),4)) else ((tL p0 p1 ([]:List (List aA)) p2)>>=fun y4=>some (y4.1,y4.2))
def aMv (p0:List Int):Option Bool :=
  some (decide (1048576<(p0.length:Int)))
def M0 (y3:(List (List aA))×Int) (y12:(List Int)×Bool) (y2:aP×GDb×aQ) (x12:Int):Option Bool :=
  if (decide (x12<(y3.1.length:Int)))=true then ((idx y3.1 x12)>>=fun y13=>(aC4 y13 y12.1)>>=fun y14=>(if (true&&((!y14)==false))=true then idx y3.1 x12 else some default)>>=fun y15=>(if (true&&((!y14)==false))=true then G9 y15 y12.1 else some default)>>=fun y16=>(some (if (!y14)=true then true else (!y16)))>>=fun y17=>if y17=true then (some false) else (M0 y3 y12 y2 (QA .i64 (x12+1)))) else ((some (if (decide (y2.2.2.limit<0))=true then true else (decide ((y3.1.length:Int)≤y2.2.2.limit))))>>=fun y18=>some y18)
  partial_fixpoint
def aJe (p0:List Int):Option Bool :=
  (aMv p0)>>=fun y1=>if y1=true then (some true) else ((aIw p0)>>=fun y2=>(aHx y2.1 y2.2.1 y2.2.2)>>=fun y3=>(aKx y2.1 y2.2.1 y2.2.2)>>=fun y4=>if (!decide (y3.2=y4.2))=true then (some false) else (if (!decide (y3.2=0))=true then ((if (true&&((decide ((y3.1.length:Int)=0))==true))=true then some (if (decide (y3.2=2))=true then true else (decide (y3.2=3))) else some default)>>=fun y5=>(if (((true&&((decide ((y3.1.length:Int)=0))==true))&&(y5==false))&&((decide (y3.2=4))==true))=true then aAd y2.1 y2.2.2 else some default)>>=fun y6=>(if ((((true&&((decide ((y3.1.length:Int)=0))==true))&&(y5==false))&&((decide (y3.2=4))==true))&&(y6==true))=true then wM y2.1 y2.2.1 else some default)>>=fun y7=>(if (((true&&((decide ((y3.1.length:Int)=0))==true))&&(y5==false))&&((decide (y3.2=4))==true))=true then some (if y6=true then y7 else false) else some default)>>=fun y8=>(if ((true&&((decide ((y3.1.length:Int)=0))==true))&&(y5==false))=true then some (if (decide (y3.2=4))=true then (!y8) else false) else some default)>>=fun y9=>(if (true&&((decide ((y3.1.length:Int)=0))==true))=true then some (if y5=true then true else y9) else some default)>>=fun y10=>(some (if (decide ((y3.1.length:Int)=0))=true then y10 else false))>>=fun y11=>some y11) else ((aB4 y2.1 ([]:List (List Int)) y2.2.2)>>=fun y12=>M0 y3 y12 y2 0)))
end Go.Ab
