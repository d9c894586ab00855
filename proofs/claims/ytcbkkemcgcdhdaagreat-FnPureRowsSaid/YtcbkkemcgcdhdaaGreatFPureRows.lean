/- The functions of the program,as Lean functions (printed by a program). -/
import Derived.Test.YtcbkkemcgcdhdaaGreatAbF2
import Derived.Test.YtcbkkemcgcdhdaaGreatAbF0
namespace Go.Ab
open Go
open Go.IntKind renaming wrap→QA,bits→QC
open _root_.Int renaming fdiv→QB,tdiv→QD,tmod→QE
structure gJ where
  name:(List UInt8)
  type:Int
instance:Inhabited gJ:=⟨(gJ.mk [] 0)⟩
structure eP where
  name:(List UInt8)
  cols:(List gJ)
instance:Inhabited eP:=⟨(eP.mk [] [])⟩
structure aP where
  tables:(List eP)
instance:Inhabited aP:=⟨(aP.mk [])⟩
structure aA where
  kind:Int
  num:Int
  text:(List UInt8)
instance:Inhabited aA:=⟨(aA.mk 0 0 [])⟩
structure fI where
  rows:(List (List aA))
instance:Inhabited fI:=⟨(fI.mk [])⟩
structure GDb where
  tables:(List fI)
instance:Inhabited GDb:=⟨(GDb.mk [])⟩
mutual
structure aJ where
  kind:Int
  op:Int
  not_:Bool
  value:aA
  up:Int
  at_:Int
  kids:(List aJ)
  sub:(List aQ)
structure dV where
  expr:aJ
  desc:Bool
structure aQ where
  tables:(List Int)
  on_:(List (List aJ))
  where_:(List aJ)
  order:(List dV)
  items:(List aJ)
  names:(List (List UInt8))
  distinct:Bool
  limit:Int
end
instance:Inhabited aJ:=⟨(aJ.mk 0 0 false (aA.mk 0 0 []) 0 0 [] [])⟩
instance:Inhabited dV:=⟨(dV.mk (aJ.mk 0 0 false (aA.mk 0 0 []) 0 0 [] []) false)⟩
instance:Inhabited aQ:=⟨(aQ.mk [] [] [] [] [] [] false 0)⟩
structure aL where
  b:(List Int)
  i:Int
  h:Int
instance:Inhabited aL:=⟨(aL.mk [] 0 0)⟩
mutual
structure eT where
  kind:Int
  op:Int
  not_:Bool
  value:aA
  qual:(List UInt8)
  name:(List UInt8)
  kids:(List eT)
  sub:(List jK)
structure pX where
  star:Bool
  qual:(List UInt8)
  expr:eT
  as_:(List UInt8)
structure jK where
  distinct:Bool
  items:(List pX)
  from_:(List qI)
  where_:(List eT)
  order:(List pY)
  limit:Int
structure pY where
  expr:eT
  desc:Bool
structure qI where
  table:(List UInt8)
  as_:(List UInt8)
  on_:(List eT)
end
instance:Inhabited eT:=⟨(eT.mk 0 0 false (aA.mk 0 0 []) [] [] [] [])⟩
instance:Inhabited pX:=⟨(pX.mk false [] (eT.mk 0 0 false (aA.mk 0 0 []) [] [] [] []) [])⟩
instance:Inhabited jK:=⟨(jK.mk false [] [] [] [] 0)⟩
instance:Inhabited pY:=⟨(pY.mk (eT.mk 0 0 false (aA.mk 0 0 []) [] [] [] []) false)⟩
instance:Inhabited qI:=⟨(qI.mk [] [] [])⟩
structure lF where
  op:Bool
  not_:Bool
  value:Bool
  name:Bool
  least:Int
  most:Int
  subs:Int
instance:Inhabited lF:=⟨(lF.mk false false false false 0 0 0)⟩
structure bV where
  c0:aP
  c1:GDb
  c2:(List (List aA))
  c3:aJ
instance:Inhabited bV:=⟨(bV.mk (aP.mk []) (GDb.mk []) [] (aJ.mk 0 0 false (aA.mk 0 0 []) 0 0 [] []))⟩
structure nI where
  eval:bV
  desc:Bool
instance:Inhabited nI:=⟨(nI.mk (bV.mk (aP.mk []) (GDb.mk []) [] (aJ.mk 0 0 false (aA.mk 0 0 []) 0 0 [] [])) false)⟩
structure Z9 where
  c0:(List bV)
instance:Inhabited Z9:=⟨(Z9.mk [])⟩
structure eZ where
  tables:(List (List (List aA)))
  on_:(List (List bV))
  where_:(List bV)
  order:(List nI)
  items:Z9
  distinct:Bool
  limit:Int
instance:Inhabited eZ:=⟨(eZ.mk [] [] [] [] (Z9.mk []) false 0)⟩
structure oG where
  c0:aP
  c1:GDb
  c2:(List (List aA))
instance:Inhabited oG:=⟨(oG.mk (aP.mk []) (GDb.mk []) [])⟩
structure pE where
  kind:Int
  op:Int
  not_:Bool
  value:aA
  kids:(List aA)
  rows:(List (List aA))
instance:Inhabited pE:=⟨(pE.mk 0 0 false (aA.mk 0 0 []) [] [])⟩
structure aV where
  row:(List aA)
  keys:(List aA)
instance:Inhabited aV:=⟨(aV.mk [] [])⟩
structure fD where
  c0:eZ
instance:Inhabited fD:=⟨(fD.mk (eZ.mk [] [] [] [] (Z9.mk []) false 0))⟩
structure uU where
  c0:(List aA)
instance:Inhabited uU:=⟨(uU.mk [])⟩
def okGCol (x:gJ):Prop:=okS x.name∧okI x.type
def okGTable (x:eP):Prop:=okS x.name∧(okL okGCol) x.cols
def okGCatalog (x:aP):Prop:=(okL okGTable) x.tables
def okGValue (x:aA):Prop:=okI x.kind∧okI x.num∧okS x.text
def okGData (x:fI):Prop:=(okL (okL okGValue)) x.rows
def okGDb (x:GDb):Prop:=(okL okGData) x.tables
mutual
def okGPExpr:aJ→Prop
  | ⟨a0,a1,a2,a3,a4,a5,a6,a7⟩=>okI a0∧okI a1∧okB a2∧okGValue a3∧okI a4∧okI a5∧(a6.length≤9223372036854775807∧okLGPExpr a6)∧(a7.length≤9223372036854775807∧okLGPlan a7)
def okGPSort:dV→Prop
  | ⟨a0,a1⟩=>okGPExpr a0∧okB a1
def okGPlan:aQ→Prop
  | ⟨a0,a1,a2,a3,a4,a5,a6,a7⟩=>(okL okI) a0∧(a1.length≤9223372036854775807∧okLLGPExpr a1)∧(a2.length≤9223372036854775807∧okLGPExpr a2)∧(a3.length≤9223372036854775807∧okLGPSort a3)∧(a4.length≤9223372036854775807∧okLGPExpr a4)∧(okL okS) a5∧okB a6∧okI a7
def okLGPExpr:List aJ→Prop
  | []=>True
  | x::l=>okGPExpr x∧okLGPExpr l
def okLGPSort:List dV→Prop
  | []=>True
  | x::l=>okGPSort x∧okLGPSort l
def okLGPlan:List aQ→Prop
  | []=>True
  | x::l=>okGPlan x∧okLGPlan l
def okLLGPExpr:List (List aJ)→Prop
  | []=>True
  | x::l=>(x.length≤9223372036854775807∧okLGPExpr x)∧okLLGPExpr l
end
def okGL1Cur (x:aL):Prop:=(okL okU8) x.b∧okI x.i∧okI x.h
mutual
def okGExpr:eT→Prop
  | ⟨a0,a1,a2,a3,a4,a5,a6,a7⟩=>okI a0∧okI a1∧okB a2∧okGValue a3∧okS a4∧okS a5∧(a6.length≤9223372036854775807∧okLGExpr a6)∧(a7.length≤9223372036854775807∧okLGQuery a7)
def okGItem:pX→Prop
  | ⟨a0,a1,a2,a3⟩=>okB a0∧okS a1∧okGExpr a2∧okS a3
def okGQuery:jK→Prop
  | ⟨a0,a1,a2,a3,a4,a5⟩=>okB a0∧(a1.length≤9223372036854775807∧okLGItem a1)∧(a2.length≤9223372036854775807∧okLGSource a2)∧(a3.length≤9223372036854775807∧okLGExpr a3)∧(a4.length≤9223372036854775807∧okLGSortKey a4)∧okI a5
def okGSortKey:pY→Prop
  | ⟨a0,a1⟩=>okGExpr a0∧okB a1
def okGSource:qI→Prop
  | ⟨a0,a1,a2⟩=>okS a0∧okS a1∧(a2.length≤9223372036854775807∧okLGExpr a2)
def okLGExpr:List eT→Prop
  | []=>True
  | x::l=>okGExpr x∧okLGExpr l
def okLGItem:List pX→Prop
  | []=>True
  | x::l=>okGItem x∧okLGItem l
def okLGQuery:List jK→Prop
  | []=>True
  | x::l=>okGQuery x∧okLGQuery l
def okLGSortKey:List pY→Prop
  | []=>True
  | x::l=>okGSortKey x∧okLGSortKey l
def okLGSource:List qI→Prop
  | []=>True
  | x::l=>okGSource x∧okLGSource l
end
def okGForm (x:lF):Prop:=okB x.op∧okB x.not_∧okB x.value∧okB x.name∧okI x.least∧okI x.most∧okI x.subs
def okGSortBy (x:nI):Prop:=(fun _=>True) x.eval∧okB x.desc
def okGExecution (x:eZ):Prop:=(okL (okL (okL okGValue))) x.tables∧(okL (okL (fun _=>True))) x.on_∧(okL (fun _=>True)) x.where_∧(okL okGSortBy) x.order∧(fun _=>True) x.items∧okB x.distinct∧okI x.limit
def okGNode (x:pE):Prop:=okI x.kind∧okI x.op∧okB x.not_∧okGValue x.value∧(okL okGValue) x.kids∧(okL (okL okGValue)) x.rows
def okGKeyed (x:aV):Prop:=(okL okGValue) x.row∧(okL okGValue) x.keys
def aO8 (p0:gJ) (c0_0:List UInt8):Option Bool :=
  some (decide (p0.name=c0_0))
def X5 (p0:List gJ) (c0_0:List UInt8) (x8:Int):Option Int :=
  if (decide (x8<(p0.length:Int)))=true then ((idx p0 x8)>>=fun y1=>(aO8 y1 c0_0)>>=fun y2=>if y2=true then (some x8) else (X5 p0 c0_0 (QA .i64 (x8+1)))) else (some (-1))
  partial_fixpoint
def aNn (p0:List gJ) (c0_0:List UInt8):Option Int :=
  X5 p0 c0_0 0
def aK6 (p0:eP) (p1:List UInt8):Option Int :=
  (aNn p0.cols p1)>>=fun y1=>some y1
def qZ (p0:List UInt8):Option Bool :=
  (some (if (decide (1≤(p0.length:Int)))=true then (decide ((p0.length:Int)≤20)) else false))>>=fun y1=>some y1
def X6 (p0:eP) (x8:Int):Option Bool :=
  if (decide (x8<(p0.cols.length:Int)))=true then ((idx p0.cols x8)>>=fun y1=>(qZ y1.name)>>=fun y2=>(some (if (!y2)=true then true else (decide (y1.type<1))))>>=fun y3=>(some (if y3=true then true else (decide (3<y1.type))))>>=fun y4=>(if (true&&(y4==false))=true then aK6 p0 y1.name else some default)>>=fun y5=>(some (if y4=true then true else (!decide (y5=x8))))>>=fun y6=>if y6=true then (some false) else (X6 p0 (QA .i64 (x8+1)))) else ((qZ p0.name)>>=fun y7=>(some (if y7=true then (decide (1≤(p0.cols.length:Int))) else false))>>=fun y8=>(some (if y8=true then (decide ((p0.cols.length:Int)≤4)) else false))>>=fun y9=>some y9)
  partial_fixpoint
def aKp (p0:eP):Option Bool :=
  X6 p0 0
def aO9 (p0:eP) (c0_0:List UInt8):Option Bool :=
  some (decide (p0.name=c0_0))
def M9 (p0:List eP) (c0_0:List UInt8) (x8:Int):Option Int :=
  if (decide (x8<(p0.length:Int)))=true then ((idx p0 x8)>>=fun y1=>(aO9 y1 c0_0)>>=fun y2=>if y2=true then (some x8) else (M9 p0 c0_0 (QA .i64 (x8+1)))) else (some (-1))
  partial_fixpoint
def aQ6 (p0:List eP) (c0_0:List UInt8):Option Int :=
  M9 p0 c0_0 0
def aK0 (p0:aP) (p1:List UInt8):Option Int :=
  (aQ6 p0.tables p1)>>=fun y1=>some y1
def aAi (p0:aP) (x8:Int):Option Bool :=
  if (decide (x8<(p0.tables.length:Int)))=true then ((idx p0.tables x8)>>=fun y1=>(aKp y1)>>=fun y2=>(if (true&&((!y2)==false))=true then aK0 p0 y1.name else some default)>>=fun y3=>(some (if (!y2)=true then true else (!decide (y3=x8))))>>=fun y4=>if y4=true then (some false) else (aAi p0 (QA .i64 (x8+1)))) else (some (decide ((p0.tables.length:Int)≤4)))
  partial_fixpoint
def aGe (p0:aP):Option Bool :=
  aAi p0 0
def qP (p0:aA):Option Bool :=
  if (decide (p0.kind=0))=true then ((some (if (decide (p0.num=0))=true then (decide (p0.text=[])) else false))>>=fun y1=>some y1) else (if (decide (p0.kind=1))=true then (some (decide (p0.text=[]))) else (if (decide (p0.kind=2))=true then ((some (if (decide (p0.num=0))=true then (decide ((p0.text.length:Int)≤200)) else false))>>=fun y2=>some y2) else (if (decide (p0.kind=3))=true then ((some (if (decide (p0.num=0))=true then true else (decide (p0.num=1))))>>=fun y3=>(some (if y3=true then (decide (p0.text=[])) else false))>>=fun y4=>some y4) else (some false))))
def aId (p0:aA) (p1:Int):Option Bool :=
  (qP p0)>>=fun y1=>(if (true&&(y1==true))=true then some (if (decide (p0.kind=0))=true then true else (decide (p0.kind=p1))) else some default)>>=fun y2=>(some (if y1=true then y2 else false))>>=fun y3=>some y3
def M3 (p1:List Int) (p0:List aA) (x14:Int):Option Bool :=
  if (decide (x14<(p0.length:Int)))=true then ((idx p0 x14)>>=fun y1=>(idx p1 x14)>>=fun y2=>(aId y1 y2)>>=fun y3=>if (!y3)=true then (some false) else (M3 p1 p0 (QA .i64 (x14+1)))) else (some true)
  partial_fixpoint
def aL0 (p0:List aA) (p1:List Int):Option Bool :=
  if (!decide ((p0.length:Int)=(p1.length:Int)))=true then (some false) else (M3 p1 p0 0)
def aQy (p0:List aA) (c0_0:List Int):Option Bool :=
  (aL0 p0 c0_0)>>=fun y1=>some (!y1)
def aAo (p0:List (List aA)) (c0_0:List Int) (x8:Int):Option Int :=
  if (decide (x8<(p0.length:Int)))=true then ((idx p0 x8)>>=fun y1=>(aQy y1 c0_0)>>=fun y2=>if y2=true then (some x8) else (aAo p0 c0_0 (QA .i64 (x8+1)))) else (some (-1))
  partial_fixpoint
def aRd (p0:List (List aA)) (c0_0:List Int):Option Int :=
  aAo p0 c0_0 0
def aLg (p0:List (List aA)) (c0_0:List Int):Option Bool :=
  (aRd p0 c0_0)>>=fun y1=>some (decide (0≤y1))
def wK (p0:eP) (x3:List Int) (x10:Int):Option (List Int) :=
  if (decide (x10<(p0.cols.length:Int)))=true then ((idx p0.cols x10)>>=fun y1=>(appG 8 x3 ([y1.type]:List Int))>>=fun y2=>wK p0 y2 (QA .i64 (x10+1))) else (some x3)
  partial_fixpoint
def aA9 (p0:eP):Option (List Int) :=
  wK p0 ([]:List Int) 0
def J6 (p1:GDb) (p0:aP) (x23:Int):Option Bool :=
  if (decide (x23<(p1.tables.length:Int)))=true then ((idx p1.tables x23)>>=fun y3=>(idx p0.tables x23)>>=fun y4=>(aA9 y4)>>=fun y5=>(if (true&&((decide (6<(y3.rows.length:Int)))==false))=true then aLg y3.rows y5 else some (default:Bool))>>=fun y6=>(some (if (decide (6<(y3.rows.length:Int)))=true then true else y6))>>=fun y7=>if y7=true then (some false) else (J6 p1 p0 (QA .i64 (x23+1)))) else (some true)
  partial_fixpoint
def aFk (p0:aP) (p1:GDb):Option Bool :=
  (aGe p0)>>=fun y1=>(some (if (!y1)=true then true else (!decide ((p1.tables.length:Int)=(p0.tables.length:Int)))))>>=fun y2=>if y2=true then (some false) else (J6 p1 p0 0)
def aB7 (p1:aP) (p2:GDb) (p3:List (List aA)) (p0:List aJ) (x6:List bV) (x12:Int):Option (List bV) :=
  if (decide (x12<(p0.length:Int)))=true then ((idx p0 x12)>>=fun y1=>(appG 8 x6 ([(bV.mk p1 p2 p3 y1)]:List bV))>>=fun y2=>aB7 p1 p2 p3 p0 y2 (QA .i64 (x12+1))) else (some x6)
  partial_fixpoint
def U7 (p0:List aJ) (p1:aP) (p2:GDb) (p3:List (List aA)):Option (List bV) :=
  aB7 p1 p2 p3 p0 ([]:List bV) 0
def wY (p0:List (List aA)) (x6:List aA) (x27:Int):Option (List aA) :=
  if (decide (x27<(p0.length:Int)))=true then ((idx p0 x27)>>=fun y3=>(appG 32 x6 y3)>>=fun y4=>wY p0 y4 (QA .i64 (x27+1))) else (some x6)
  partial_fixpoint
def aRx (p0:List aA) (p1:Int):Option (List aA) :=
  aL9 32 p0 p1
mutual
def aF4 (p0:List (List aA)) (x3:Int) (y1:List aA) (x11:Int):Option (List aA) :=
  xK p0 (QA .i64 (x3+(y1.length:Int))) (QA .i64 (x11+1))
  partial_fixpoint
def xK (p0:List (List aA)) (x3:Int) (x11:Int):Option (List aA) :=
  if (decide (x11<(p0.length:Int)))=true then ((idx p0 x11)>>=fun y1=>if (decide ((QA .i64 (x3+(y1.length:Int)))<0))=true then (none) else (aF4 p0 x3 y1 x11)) else ((aRx ([]:List aA) x3)>>=fun y2=>wY p0 y2 0)
  partial_fixpoint
end
def aKv (p0:List (List aA)):Option (List aA) :=
  xK p0 0 0
def aL8 (p0:aA):Option Bool :=
  (some (if (decide (p0.kind=3))=true then (decide (p0.num=1)) else false))>>=fun y1=>some y1
def aOk (jY:Int):Option aA :=
  some (aA.mk 3 jY [])
def qJ (p0:Bool):Option aA :=
  if p0=true then (aOk 1) else (aOk 0)
def aH1 (p0:Int) (p1:Int):Option (Int×Bool) :=
  (some (if (decide (0<p1))=true then (decide ((QA .i64 (9223372036854775807 - p1))<p0)) else false))>>=fun y1=>(if (true&&(y1==false))=true then some (if (decide (p1<0))=true then (decide (p0<(QA .i64 ((-9223372036854775808) - p1)))) else false) else some default)>>=fun y2=>(some (if y1=true then true else y2))>>=fun y3=>if y3=true then (some (0,false)) else (some ((QA .i64 (p0+p1)),true))
def aAq (p0:Int):Option aA :=
  some (aA.mk 1 p0 [])
def aHc (x8:Int) (x9:Bool):Option (aA×Int) :=
  if (!x9)=true then (some ((aA.mk 0 0 []),2)) else ((aAq x8)>>=fun y5=>some (y5,0))
def aMt (p0:Int) (p1:Int) (p2:Int):Option (aA×Int) :=
  if (decide (p2=0))=true then (some ((aA.mk 0 0 []),3)) else (if (decide (p0=14))=true then ((yE p1 p2)>>=fun y1=>(aAq y1)>>=fun y2=>some (y2,0)) else ((some (if (decide (p1=(-9223372036854775808)))=true then (decide (p2=(-1))) else false))>>=fun y3=>if y3=true then (some ((aA.mk 0 0 []),2)) else ((xZ .i64 p1 p2)>>=fun y4=>(aAq y4)>>=fun y5=>some (y5,0))))
def aKl (p0:Int) (p1:Int):Option (Int×Bool) :=
  (if (true&&((!decide (p0=0))==true))=true then xZ .i64 (QA .i64 (p0 * p1)) p0 else some default)>>=fun y1=>(if ((true&&((!decide (p0=0))==true))&&((!decide (y1=p1))==false))=true then some (if (decide (p0=(-1)))=true then (decide (p1=(-9223372036854775808))) else false) else some default)>>=fun y2=>(if (true&&((!decide (p0=0))==true))=true then some (if (!decide (y1=p1))=true then true else y2) else some default)>>=fun y3=>(some (if (!decide (p0=0))=true then y3 else false))>>=fun y4=>if y4=true then (some (0,false)) else (some ((QA .i64 (p0 * p1)),true))
def aEz (p0:Int) (p1:Int):Option (Int×Bool) :=
  (some (if (decide (p1<0))=true then (decide ((QA .i64 (9223372036854775807+p1))<p0)) else false))>>=fun y1=>(if (true&&(y1==false))=true then some (if (decide (0<p1))=true then (decide (p0<(QA .i64 ((-9223372036854775808)+p1)))) else false) else some default)>>=fun y2=>(some (if y1=true then true else y2))>>=fun y3=>if y3=true then (some (0,false)) else (some ((QA .i64 (p0 - p1)),true))
def aH8 (p0:Int) (p1:Int) (p2:Int):Option (aA×Int) :=
  if (decide (p0=10))=true then ((aH1 p1 p2)>>=fun y1=>aHc y1.1 y1.2) else (if (decide (p0=11))=true then ((aEz p1 p2)>>=fun y2=>aHc y2.1 y2.2) else (if (decide (p0=12))=true then ((aKl p1 p2)>>=fun y3=>aHc y3.1 y3.2) else ((aMt p0 p1 p2)>>=fun y4=>some (y4.1,y4.2))))
def aKr (p0:Int):Option Bool :=
  some (!decide (p0=p0))
def aGx (p0:Int) (p1:Int):Option Int :=
  (aKr p0)>>=fun y1=>(aKr p1)>>=fun y2=>if y1=true then (if y2=true then (some 0) else (some (-1))) else (if y2=true then (some 1) else (if (decide (p0<p1))=true then (some (-1)) else (if (decide (p1<p0))=true then (some 1) else (some 0))))
def aJp (p0:List UInt8):Option Bool :=
  some (!decide (p0=p0))
def aJv (p0:List UInt8) (p1:List UInt8):Option Int :=
  (aJp p0)>>=fun y1=>(aJp p1)>>=fun y2=>if y1=true then (if y2=true then (some 0) else (some (-1))) else (if y2=true then (some 1) else (if (Op.bytesLess p0 p1)=true then (some (-1)) else (if (!(Op.bytesLess p0 p1||decide (p0=p1)))=true then (some 1) else (some 0))))
def G7 (p0:List Int) (x8:Int):Option Int :=
  if (decide (x8<(p0.length:Int)))=true then ((idx p0 x8)>>=fun y1=>if (!decide (y1=0))=true then (some y1) else (G7 p0 (QA .i64 (x8+1)))) else (some 0)
  partial_fixpoint
def aIf (p0:List Int):Option Int :=
  G7 p0 0
def Y5 (p0:aA) (p1:aA):Option Int :=
  (aGx p0.kind p1.kind)>>=fun y1=>(aGx p0.num p1.num)>>=fun y2=>(aJv p0.text p1.text)>>=fun y3=>(aIf ([y1,y2,y3]:List Int))>>=fun y4=>some y4
def aD6 (p0:Int) (p1:aA) (p2:aA):Option aA :=
  (Y5 p1 p2)>>=fun y1=>if (decide (p0=3))=true then ((qJ (decide (y1=0)))>>=fun y2=>some y2) else (if (decide (p0=4))=true then ((qJ (!decide (y1=0)))>>=fun y3=>some y3) else (if (decide (p0=5))=true then ((qJ (decide (y1<0)))>>=fun y4=>some y4) else (if (decide (p0=6))=true then ((qJ (decide (y1≤0)))>>=fun y5=>some y5) else (if (decide (p0=7))=true then ((qJ (decide (0<y1)))>>=fun y6=>some y6) else ((qJ (decide (0≤y1)))>>=fun y7=>some y7)))))
def aAg (p0:Int) (p1:aA):Option Bool :=
  (some (if (decide (p1.kind=0))=true then true else (decide (p0≤8))))>>=fun y1=>if y1=true then (some true) else (if (decide (p0=9))=true then (some (decide (p1.kind=2))) else (some (decide (p1.kind=1))))
def M0 (p0:Int) (p1:aA) (p2:aA) (x15:Int):Option (aA×Int) :=
  if (decide (x15<(([p1,p2]:List aA).length:Int)))=true then ((idx ([p1,p2]:List aA) x15)>>=fun y1=>(some (if (!decide (y1.kind=3))=true then (!decide (y1.kind=0)) else false))>>=fun y2=>if y2=true then (some ((aA.mk 0 0 []),1)) else (M0 p0 p1 p2 (QA .i64 (x15+1)))) else ((qJ (decide (p0=1)))>>=fun y3=>(some (if ((decide (p1.kind=y3.kind))&&((decide (p1.num=y3.num))&&((decide (p1.text=y3.text))&&true)))=true then true else ((decide (p2.kind=y3.kind))&&((decide (p2.num=y3.num))&&((decide (p2.text=y3.text))&&true)))))>>=fun y4=>if y4=true then (some (y3,0)) else ((some (if (decide (p1.kind=0))=true then true else (decide (p2.kind=0))))>>=fun y5=>if y5=true then (some ((aA.mk 0 0 []),0)) else ((qJ (decide (p0=2)))>>=fun y6=>some (y6,0))))
  partial_fixpoint
def aIi (p0:Int) (p1:aA) (p2:aA):Option (aA×Int) :=
  M0 p0 p1 p2 0
def aQz (p0:List UInt8):Option aA :=
  some (aA.mk 2 0 p0)
def tH (p0:Int) (p1:aA) (p2:aA):Option (aA×Int) :=
  (some (if (decide (p0<1))=true then true else (decide (14<p0))))>>=fun y1=>(if (true&&(y1==false))=true then qP p1 else some default)>>=fun y2=>(some (if y1=true then true else (!y2)))>>=fun y3=>(if (true&&(y3==false))=true then qP p2 else some default)>>=fun y4=>(some (if y3=true then true else (!y4)))>>=fun y5=>if y5=true then (some ((aA.mk 0 0 []),1)) else (if (decide (p0≤2))=true then ((aIi p0 p1 p2)>>=fun y6=>some (y6.1,y6.2)) else ((some (if (decide (p1.kind=0))=true then true else (decide (p2.kind=0))))>>=fun y7=>(aAg p0 p1)>>=fun y8=>(if (true&&((!y8)==false))=true then aAg p0 p2 else some default)>>=fun y9=>(some (if (!y8)=true then true else (!y9)))>>=fun y10=>(if (true&&(y10==false))=true then some (if (decide (p0≤8))=true then (!y7) else false) else some default)>>=fun y11=>(if (true&&(y10==false))=true then some (if y11=true then (!decide (p1.kind=p2.kind)) else false) else some default)>>=fun y12=>(some (if y10=true then true else y12))>>=fun y13=>if y13=true then (some ((aA.mk 0 0 []),1)) else (if y7=true then (some ((aA.mk 0 0 []),0)) else (if (decide (p0≤8))=true then ((aD6 p0 p1 p2)>>=fun y14=>some (y14,0)) else (if (!decide (p0=9))=true then ((aH8 p0 p1.num p2.num)>>=fun y15=>some (y15.1,y15.2)) else (if (decide (200<(QA .i64 ((p1.text.length:Int)+(p2.text.length:Int)))))=true then (some ((aA.mk 0 0 []),2)) else ((pW p1.text p2.text)>>=fun y16=>(aQz y16)>>=fun y17=>some (y17,0))))))))
def aIc (p0:aA) (p1:aA) (p2:aA):Option (aA×Int) :=
  (tH 8 p0 p1)>>=fun y1=>if (!decide (y1.2=0))=true then (some ((aA.mk 0 0 []),y1.2)) else ((tH 6 p0 p2)>>=fun y2=>if (!decide (y2.2=0))=true then (some ((aA.mk 0 0 []),y2.2)) else ((tH 2 y1.1 y2.1)>>=fun y3=>some (y3.1,y3.2)))
def V3 (p1:List aA) (p0:aA) (x14:Int) (jC:Int) (jA:Int) (iZ:List UInt8):Option (aA×Int) :=
  if (decide (x14<(p1.length:Int)))=true then ((idx p1 x14)>>=fun y2=>(tH 3 p0 y2)>>=fun y3=>if (!decide (y3.2=0))=true then (some ((aA.mk 0 0 []),y3.2)) else ((tH 1 (aA.mk jC jA iZ) y3.1)>>=fun y4=>if (!decide (y4.2=0))=true then (some ((aA.mk 0 0 []),y4.2)) else (V3 p1 p0 (QA .i64 (x14+1)) y4.1.kind y4.1.num y4.1.text))) else (some ((aA.mk jC jA iZ),0))
  partial_fixpoint
def aGb (p0:aA) (p1:List aA):Option (aA×Int) :=
  (qJ false)>>=fun y1=>V3 p1 p0 0 y1.kind y1.num y1.text
def F6 (p0:pE) (x4:List aA) (x42:Int):Option (aA×Int) :=
  if (decide (x42<(p0.rows.length:Int)))=true then ((idx p0.rows x42)>>=fun y8=>if (decide ((y8.length:Int)=0))=true then (some ((aA.mk 0 0 []),4)) else ((idx y8 0)>>=fun y9=>(appG 32 x4 ([y9]:List aA))>>=fun y10=>F6 p0 y10 (QA .i64 (x42+1)))) else ((idx p0.kids 0)>>=fun y11=>(aGb y11 x4)>>=fun y12=>some (y12.1,y12.2))
  partial_fixpoint
def aF1 (p0:pE):Option (aA×Int) :=
  if (decide (p0.kind=6))=true then ((idx p0.kids 0)>>=fun y1=>(idx p0.kids 1)>>=fun y2=>(idx p0.kids 2)>>=fun y3=>(aIc y1 y2 y3)>>=fun y4=>some (y4.1,y4.2)) else (if (decide (p0.kind=7))=true then ((idx p0.kids 0)>>=fun y5=>(iR p0.kids 1 (p0.kids.length:Int))>>=fun y6=>(aGb y5 y6)>>=fun y7=>some (y7.1,y7.2)) else (F6 p0 ([]:List aA) 0))
def aC3 (p0:Int) (p1:aA):Option (aA×Int) :=
  (qP p1)>>=fun y1=>(if (true&&((!y1)==false))=true then some (if (!decide (p0=15))=true then (!decide (p0=16)) else false) else some default)>>=fun y2=>(some (if (!y1)=true then true else y2))>>=fun y3=>if y3=true then (some ((aA.mk 0 0 []),1)) else (if (decide (p1.kind=0))=true then (some ((aA.mk 0 0 []),0)) else ((some (if (decide (p0=15))=true then (decide (p1.kind=3)) else false))>>=fun y4=>if y4=true then ((qJ (decide (p1.num=0)))>>=fun y5=>some (y5,0)) else ((some (if (decide (p0=16))=true then (decide (p1.kind=1)) else false))>>=fun y6=>if y6=true then ((aH8 11 0 p1.num)>>=fun y7=>some (y7.1,y7.2)) else (some ((aA.mk 0 0 []),1)))))
def aJf (p0:pE):Option (aA×Int) :=
  if (decide (p0.kind=1))=true then (some (p0.value,0)) else (if (decide (p0.kind=3))=true then ((idx p0.kids 0)>>=fun y1=>(aC3 p0.op y1)>>=fun y2=>some (y2.1,y2.2)) else (if (decide (p0.kind=4))=true then ((idx p0.kids 0)>>=fun y3=>(idx p0.kids 1)>>=fun y4=>(tH p0.op y3 y4)>>=fun y5=>some (y5.1,y5.2)) else (if (decide (p0.kind=5))=true then ((idx p0.kids 0)>>=fun y6=>(qJ (!((decide (y6.kind=0))==p0.not_)))>>=fun y7=>some (y7,0)) else (if (decide (p0.kind=9))=true then ((qJ (decide (0<(p0.rows.length:Int))))>>=fun y8=>some (y8,0)) else ((aF1 p0)>>=fun y9=>if (!decide (y9.2=0))=true then (some ((aA.mk 0 0 []),y9.2)) else (if p0.not_=true then ((aC3 15 y9.1)>>=fun y10=>some (y10.1,y10.2)) else (some (y9.1,0))))))))
def aCo (p0:aA):Option Bool :=
  (qP p0)>>=fun y1=>(if (true&&(y1==true))=true then some (if (!decide (p0.kind=1))=true then true else (decide (0≤p0.num))) else some default)>>=fun y2=>(some (if y1=true then y2 else false))>>=fun y3=>(some (if y3=true then (decide ((p0.text.length:Int)≤40)) else false))>>=fun y4=>some y4
def K4 (p0:eT):Option (lF×Bool) :=
  if (decide (p0.kind=1))=true then ((aCo p0.value)>>=fun y1=>some ((lF.mk false false true false 0 0 0),y1)) else (if (decide (p0.kind=2))=true then ((qZ p0.name)>>=fun y2=>(if ((true&&(y2==true))&&((decide (p0.qual=[]))==false))=true then qZ p0.qual else some default)>>=fun y3=>(if (true&&(y2==true))=true then some (if (decide (p0.qual=[]))=true then true else y3) else some default)>>=fun y4=>(some (if y2=true then y4 else false))>>=fun y5=>some ((lF.mk false false false true 0 0 0),y5)) else (if (decide (p0.kind=3))=true then ((some (if (decide (p0.op=15))=true then true else (decide (p0.op=16))))>>=fun y6=>some ((lF.mk true false false false 1 1 0),y6)) else (if (decide (p0.kind=4))=true then ((some (if (decide (1≤p0.op))=true then (decide (p0.op≤14)) else false))>>=fun y7=>some ((lF.mk true false false false 2 2 0),y7)) else (if (decide (p0.kind=5))=true then (some ((lF.mk false true false false 1 1 0),true)) else (if (decide (p0.kind=6))=true then (some ((lF.mk false true false false 3 3 0),true)) else (if (decide (p0.kind=7))=true then (some ((lF.mk false true false false 2 9 0),true)) else (if (decide (p0.kind=8))=true then (some ((lF.mk false true false false 1 1 1),true)) else (if (decide (p0.kind=9))=true then (some ((lF.mk false false false false 0 0 1),true)) else (some ((lF.mk false false false false 0 0 0),false))))))))))
def aHh (p0:Int) (S9:Int):Option (lF×Bool) :=
  (K4 (eT.mk p0 S9 false (aA.mk 0 0 []) [] [120] ([]:List eT) ([]:List jK)))>>=fun y1=>some (y1.1,y1.2)
def aNm (p0:Int):Option (lF×Bool) :=
  if (decide (p0=4))=true then (aHh p0 1) else (aHh p0 15)
def aL1 (p0:Int) (p1:Int) (p2:Int):Option Bool :=
  (aNm p0)>>=fun y1=>(some (if y1.2=true then (decide (y1.1.least≤p1)) else false))>>=fun y2=>(some (if y2=true then (decide (p1≤y1.1.most)) else false))>>=fun y3=>(some (if y3=true then (decide (p2=y1.1.subs)) else false))>>=fun y4=>some y4
def aD3 (p0:List aA):Option (List aA) :=
  if (decide ((p0.length:Int)=0))=true then (some ([]:List aA)) else ((appG 32 ([]:List aA) p0)>>=fun y1=>some y1)
def Q7 (p0:List aA) (p1:List aA) (x13:Int):Option Bool :=
  if (decide (x13<(p0.length:Int)))=true then ((idx p0 x13)>>=fun y1=>(idx p1 x13)>>=fun y2=>if (!((decide (y1.kind=y2.kind))&&((decide (y1.num=y2.num))&&((decide (y1.text=y2.text))&&true))))=true then (some false) else (Q7 p0 p1 (QA .i64 (x13+1)))) else (some true)
  partial_fixpoint
def aKz (p0:List aA) (p1:List aA):Option Bool :=
  if (!decide ((p0.length:Int)=(p1.length:Int)))=true then (some false) else (Q7 p0 p1 0)
def aJh (p0:List aA) (p1:List aA):Option Bool :=
  (aKz p1 p0)>>=fun y1=>some y1
def Y4 (p0:List (List aA)) (p1:uU) (x8:Int):Option Int :=
  if (decide (x8<(p0.length:Int)))=true then ((idx p0 x8)>>=fun y1=>(aJh y1 p1.c0)>>=fun y2=>if y2=true then (some x8) else (Y4 p0 p1 (QA .i64 (x8+1)))) else (some (-1))
  partial_fixpoint
def aOt (p0:List (List aA)) (p1:uU):Option Int :=
  Y4 p0 p1 0
def aLo (p0:List (List aA)) (p1:uU):Option Bool :=
  (aOt p0 p1)>>=fun y1=>some (decide (0≤y1))
mutual
def aDx (p0:List (List aA)) (x9:Int) (rH:List (List aA)):Option (List (List aA)) :=
  aCd p0 (QA .i64 (x9+1)) rH
  partial_fixpoint
def aCd (p0:List (List aA)) (x9:Int) (bX:List (List aA)):Option (List (List aA)) :=
  if (decide (x9<(p0.length:Int)))=true then ((idx p0 x9)>>=fun y1=>(aLo bX (uU.mk y1))>>=fun y2=>if (!y2)=true then ((aD3 y1)>>=fun y3=>(appG 24 bX ([y3]:List (List aA)))>>=fun y4=>aDx p0 x9 y4) else (aDx p0 x9 bX)) else (some bX)
  partial_fixpoint
end
def aCw (p0:List (List aA)):Option (List (List aA)) :=
  aCd p0 0 ([]:List (List aA))
def aLw (E8:List (List aA)):Option ((List (List aA))×Int) :=
  some (E8,0)
def xX (p0:eZ) (sS:List (List aA)):Option ((List (List aA))×Int) :=
  (some (if (decide (0≤p0.limit))=true then (decide (p0.limit<(sS.length:Int))) else false))>>=fun y7=>if y7=true then ((iR sS 0 p0.limit)>>=fun y8=>aLw y8) else (aLw sS)
mutual
def aBc (p2:eZ) (x12:Int) (p0:aV) (p1:aV) (x8:Int):Option Int :=
  if (!decide (x8=0))=true then (some x8) else (aDi p2 p0 p1 (QA .i64 (x12+1)))
  partial_fixpoint
def aDi (p2:eZ) (p0:aV) (p1:aV) (x12:Int):Option Int :=
  if (decide (x12<(p2.order.length:Int)))=true then ((idx p2.order x12)>>=fun y1=>(idx p0.keys x12)>>=fun y2=>(idx p1.keys x12)>>=fun y3=>(Y5 y2 y3)>>=fun y4=>if y1.desc=true then (aBc p2 x12 p0 p1 (QA .i64 (0 - y4))) else (aBc p2 x12 p0 p1 y4)) else (some 0)
  partial_fixpoint
end
def vX (p0:aV) (p1:aV) (p2:eZ):Option Int :=
  aDi p2 p0 p1 0
mutual
def aA8 (p1:Int) (p2:Int) (p3:fD) (x8:Int) (x9:Int) (bZ:List aV):Option (List aV) :=
  (if (true&&((decide (p1<x9))==true))=true then idx bZ x9 else some default)>>=fun y2=>(if (true&&((decide (p1<x9))==true))=true then idx bZ x9 else some default)>>=fun y3=>(if (true&&((decide (p1<x9))==true))=true then idx bZ (QA .i64 (x9 - 1)) else some default)>>=fun y4=>(if (true&&((decide (p1<x9))==true))=true then idx bZ (QA .i64 (x9 - 1)) else some default)>>=fun y5=>(if (true&&((decide (p1<x9))==true))=true then vX y3 y5 p3.c0 else some default)>>=fun y6=>(some (if (decide (p1<x9))=true then (decide (y6<0)) else false))>>=fun y7=>if y7=true then ((idx bZ (QA .i64 (x9 - 1)))>>=fun y8=>(idx bZ (QA .i64 (x9 - 1)))>>=fun y9=>(idx bZ x9)>>=fun y10=>(idx bZ x9)>>=fun y11=>(idx bZ x9)>>=fun y12=>(jR bZ x9 y9)>>=fun y13=>(idx y13 (QA .i64 (x9 - 1)))>>=fun y14=>(jR y13 (QA .i64 (x9 - 1)) y11)>>=fun y15=>aA8 p1 p2 p3 x8 (QA .i64 (x9 - 1)) y15) else (H8 p1 p2 p3 (QA .i64 (x8+1)) bZ)
  partial_fixpoint
def H8 (p1:Int) (p2:Int) (p3:fD) (x8:Int) (aU:List aV):Option (List aV) :=
  if (decide (x8<p2))=true then (aA8 p1 p2 p3 x8 x8 aU) else (some aU)
  partial_fixpoint
end
def aEf (p0:List aV) (p1:Int) (p2:Int) (p3:fD):Option (List aV) :=
  H8 p1 p2 p3 (QA .i64 (p1+1)) p0
def aI2 (p1:Int) (p2:Int) (p3:Int) (x10:Int) (aU:List aV):Option (List aV) :=
  if (decide (x10<p3))=true then ((idx aU (QA .i64 (p2+x10)))>>=fun y1=>(idx aU (QA .i64 (p2+x10)))>>=fun y2=>(idx aU (QA .i64 (p1+x10)))>>=fun y3=>(idx aU (QA .i64 (p1+x10)))>>=fun y4=>(idx aU (QA .i64 (p1+x10)))>>=fun y5=>(jR aU (QA .i64 (p1+x10)) y2)>>=fun y6=>(idx y6 (QA .i64 (p2+x10)))>>=fun y7=>(jR y6 (QA .i64 (p2+x10)) y4)>>=fun y8=>aI2 p1 p2 p3 (QA .i64 (x10+1)) y8) else (some aU)
  partial_fixpoint
def aJ7 (p0:List aV) (p1:Int) (p2:Int) (p3:Int) (p4:fD):Option (List aV) :=
  aI2 p1 p2 p3 0 p0
def aFn (p2:Int) (p4:fD) (x10:Int) (x11:Int) (aU:List aV):Option (List aV) :=
  if (!decide (x10=x11))=true then (if (decide (x11<x10))=true then ((aJ7 aU (QA .i64 (p2 - x10)) p2 x11 p4)>>=fun y1=>aFn p2 p4 (QA .i64 (x10 - x11)) x11 y1) else ((aJ7 aU (QA .i64 (p2 - x10)) (QA .i64 ((QA .i64 (p2+x11)) - x10)) x10 p4)>>=fun y2=>aFn p2 p4 x10 (QA .i64 (x11 - x10)) y2)) else ((aJ7 aU (QA .i64 (p2 - x10)) p2 x10 p4)>>=fun y3=>some y3)
  partial_fixpoint
def aVf (p0:List aV) (p1:Int) (p2:Int) (p3:Int) (p4:fD):Option (List aV) :=
  aFn p2 p4 (QA .i64 (p2 - p1)) (QA .i64 (p3 - p2)) p0
def aHr (x10:Int) (x13:Int) (aU:List aV):Option (List aV) :=
  if (decide (x13<(QA .i64 (x10 - 1))))=true then ((idx aU (QA .i64 (x13+1)))>>=fun y14=>(idx aU (QA .i64 (x13+1)))>>=fun y15=>(idx aU x13)>>=fun y16=>(idx aU x13)>>=fun y17=>(idx aU x13)>>=fun y18=>(jR aU x13 y15)>>=fun y19=>(idx y19 (QA .i64 (x13+1)))>>=fun y20=>(jR y19 (QA .i64 (x13+1)) y17)>>=fun y21=>aHr x10 (QA .i64 (x13+1)) y21) else (some aU)
  partial_fixpoint
def aGl (p1:Int) (p4:fD) (p0:List aV) (x10:Int) (x11:Int):Option (List aV) :=
  if (decide (x10<x11))=true then ((idx p0 (QA .i64 (QB (QA .u64 (QA .i64 (x10+x11))) (2 ^ 1))))>>=fun y1=>(idx p0 (QA .i64 (QB (QA .u64 (QA .i64 (x10+x11))) (2 ^ 1))))>>=fun y2=>(idx p0 p1)>>=fun y3=>(idx p0 p1)>>=fun y4=>(vX y2 y4 p4.c0)>>=fun y5=>if (decide (y5<0))=true then (aGl p1 p4 p0 (QA .i64 ((QA .i64 (QB (QA .u64 (QA .i64 (x10+x11))) (2 ^ 1)))+1)) x11) else (aGl p1 p4 p0 x10 (QA .i64 (QB (QA .u64 (QA .i64 (x10+x11))) (2 ^ 1))))) else (aHr x10 p1 p0)
  partial_fixpoint
def aJj (x14:Int) (x17:Int) (eF:List aV):Option (List aV) :=
  if (decide (x14<x17))=true then ((idx eF (QA .i64 (x17 - 1)))>>=fun y22=>(idx eF (QA .i64 (x17 - 1)))>>=fun y23=>(idx eF x17)>>=fun y24=>(idx eF x17)>>=fun y25=>(idx eF x17)>>=fun y26=>(jR eF x17 y23)>>=fun y27=>(idx y27 (QA .i64 (x17 - 1)))>>=fun y28=>(jR y27 (QA .i64 (x17 - 1)) y25)>>=fun y29=>aJj x14 (QA .i64 (x17 - 1)) y29) else (some eF)
  partial_fixpoint
def aEg (p2:Int) (p4:fD) (p0:List aV) (x14:Int) (x15:Int):Option (List aV) :=
  if (decide (x14<x15))=true then ((idx p0 p2)>>=fun y6=>(idx p0 p2)>>=fun y7=>(idx p0 (QA .i64 (QB (QA .u64 (QA .i64 (x14+x15))) (2 ^ 1))))>>=fun y8=>(idx p0 (QA .i64 (QB (QA .u64 (QA .i64 (x14+x15))) (2 ^ 1))))>>=fun y9=>(vX y7 y9 p4.c0)>>=fun y10=>if (!(decide (y10<0)))=true then (aEg p2 p4 p0 (QA .i64 ((QA .i64 (QB (QA .u64 (QA .i64 (x14+x15))) (2 ^ 1)))+1)) x15) else (aEg p2 p4 p0 x14 (QA .i64 (QB (QA .u64 (QA .i64 (x14+x15))) (2 ^ 1))))) else (aJj x14 p2 p0)
  partial_fixpoint
mutual
def aHt (p3:Int) (p4:fD) (p1:Int) (p2:Int) (aY:Int) (iM:List aV):Option (List aV) :=
  (some (if (decide ((QA .i64 (QB (QA .u64 (QA .i64 (p1+p3))) (2 ^ 1)))<(QA .i64 ((QA .i64 ((QA .i64 (QB (QA .u64 (QA .i64 (p1+p3))) (2 ^ 1)))+p2)) - aY))))=true then (decide ((QA .i64 ((QA .i64 ((QA .i64 (QB (QA .u64 (QA .i64 (p1+p3))) (2 ^ 1)))+p2)) - aY))<p3)) else false))>>=fun y41=>if y41=true then ((aF5 iM (QA .i64 (QB (QA .u64 (QA .i64 (p1+p3))) (2 ^ 1))) (QA .i64 ((QA .i64 ((QA .i64 (QB (QA .u64 (QA .i64 (p1+p3))) (2 ^ 1)))+p2)) - aY)) p3 p4)>>=fun y42=>some y42) else (some iM)
  partial_fixpoint
def aRq (p1:Int) (p3:Int) (p4:fD) (aY:Int) (p2:Int) (iV:List aV):Option (List aV) :=
  (some (if (decide (p1<aY))=true then (decide (aY<(QA .i64 (QB (QA .u64 (QA .i64 (p1+p3))) (2 ^ 1))))) else false))>>=fun y38=>if y38=true then ((aF5 iV p1 aY (QA .i64 (QB (QA .u64 (QA .i64 (p1+p3))) (2 ^ 1))) p4)>>=fun y39=>aHt p3 p4 p1 p2 aY y39) else (aHt p3 p4 p1 p2 aY iV)
  partial_fixpoint
def aHs (p1:Int) (p2:Int) (p3:Int) (p4:fD) (p0:List aV) (aY:Int) (eG:Int):Option (List aV) :=
  if (decide (aY<eG))=true then ((idx p0 (QA .i64 ((QA .i64 ((QA .i64 ((QA .i64 (QB (QA .u64 (QA .i64 (p1+p3))) (2 ^ 1)))+p2)) - 1)) - (QA .i64 (QB (QA .u64 (QA .i64 (aY+eG))) (2 ^ 1))))))>>=fun y30=>(idx p0 (QA .i64 ((QA .i64 ((QA .i64 ((QA .i64 (QB (QA .u64 (QA .i64 (p1+p3))) (2 ^ 1)))+p2)) - 1)) - (QA .i64 (QB (QA .u64 (QA .i64 (aY+eG))) (2 ^ 1))))))>>=fun y31=>(idx p0 (QA .i64 (QB (QA .u64 (QA .i64 (aY+eG))) (2 ^ 1))))>>=fun y32=>(idx p0 (QA .i64 (QB (QA .u64 (QA .i64 (aY+eG))) (2 ^ 1))))>>=fun y33=>(vX y31 y33 p4.c0)>>=fun y34=>if (!(decide (y34<0)))=true then (aHs p1 p2 p3 p4 p0 (QA .i64 ((QA .i64 (QB (QA .u64 (QA .i64 (aY+eG))) (2 ^ 1)))+1)) eG) else (aHs p1 p2 p3 p4 p0 aY (QA .i64 (QB (QA .u64 (QA .i64 (aY+eG))) (2 ^ 1))))) else ((some (if (decide (aY<p2))=true then (decide (p2<(QA .i64 ((QA .i64 ((QA .i64 (QB (QA .u64 (QA .i64 (p1+p3))) (2 ^ 1)))+p2)) - aY)))) else false))>>=fun y35=>if y35=true then ((aVf p0 aY p2 (QA .i64 ((QA .i64 ((QA .i64 (QB (QA .u64 (QA .i64 (p1+p3))) (2 ^ 1)))+p2)) - aY)) p4)>>=fun y36=>aRq p1 p3 p4 aY p2 y36) else (aRq p1 p3 p4 aY p2 p0))
  partial_fixpoint
def aNz (p1:Int) (p2:Int) (p3:Int) (p4:fD) (p0:List aV) (x20:Int) (x21:Int):Option (List aV) :=
  aHs p1 p2 p3 p4 p0 x20 x21
  partial_fixpoint
def aF5 (p0:List aV) (p1:Int) (p2:Int) (p3:Int) (p4:fD):Option (List aV) :=
  if (decide ((QA .i64 (p2 - p1))=1))=true then (aGl p1 p4 p0 p2 p3) else (if (decide ((QA .i64 (p3 - p2))=1))=true then (aEg p2 p4 p0 p1 p2) else (if (decide ((QA .i64 (QB (QA .u64 (QA .i64 (p1+p3))) (2 ^ 1)))<p2))=true then (aNz p1 p2 p3 p4 p0 (QA .i64 ((QA .i64 ((QA .i64 (QB (QA .u64 (QA .i64 (p1+p3))) (2 ^ 1)))+p2)) - p3)) (QA .i64 (QB (QA .u64 (QA .i64 (p1+p3))) (2 ^ 1)))) else (aNz p1 p2 p3 p4 p0 p1 p2)))
  partial_fixpoint
end
mutual
def aJq (p1:Int) (p2:fD) (x6:Int) (jD:List aV):Option (List aV) :=
  aHo p1 p2 (QA .i64 (x6 * 2)) jD
  partial_fixpoint
def aOj (p1:Int) (p2:fD) (x6:Int) (fU:Int) (gI:Int) (gY:List aV):Option (List aV) :=
  if (decide (gI≤p1))=true then ((aF5 gY fU (QA .i64 (fU+x6)) gI p2)>>=fun y7=>aOj p1 p2 x6 gI (QA .i64 (gI+(QA .i64 (2 * x6)))) y7) else (if (decide ((QA .i64 (fU+x6))<p1))=true then ((aF5 gY fU (QA .i64 (fU+x6)) p1 p2)>>=fun y8=>aJq p1 p2 x6 y8) else (aJq p1 p2 x6 gY))
  partial_fixpoint
def aHo (p1:Int) (p2:fD) (x6:Int) (iP:List aV):Option (List aV) :=
  if (decide (x6<p1))=true then (aOj p1 p2 x6 0 (QA .i64 (2 * x6)) iP) else (some iP)
  partial_fixpoint
end
def aF7 (p1:Int) (p2:fD) (x7:Int) (x8:Int) (aU:List aV):Option (List aV) :=
  if (decide (x8≤p1))=true then ((aEf aU x7 x8 p2)>>=fun y1=>aF7 p1 p2 x8 (QA .i64 (x8+20)) y1) else ((aEf aU x7 p1 p2)>>=fun y2=>aHo p1 p2 20 y2)
  partial_fixpoint
def aMs (p0:List aV) (p1:Int) (p2:fD):Option (List aV) :=
  aF7 p1 p2 0 20 p0
def aJe (p0:List aV) (p1:fD):Option (List aV) :=
  (aMs p0 (p0.length:Int) p1)>>=fun y1=>some y1
def R9 (y2:List aV) (x14:List (List aA)) (x60:Int):Option ((List (List aA))×Int) :=
  if (decide (x60<(y2.length:Int)))=true then ((idx y2 x60)>>=fun y7=>(idx y2 x60)>>=fun y8=>(appG 24 x14 ([y8.row]:List (List aA)))>>=fun y9=>R9 y2 y9 (QA .i64 (x60+1))) else (some (x14,0))
  partial_fixpoint
mutual
def aDp (y1:List aA) (p1:List (List aA)) (x20:Int) (p0:eZ) (iG:List aV) (x9:List aA) (x28:Int):Option ((List (List aA))×Int) :=
  if (decide (x28<(p0.order.length:Int)))=true then ((idx p0.order x28)>>=fun y3=>(oO y1 y3.eval.c0 y3.eval.c1 y3.eval.c2 y3.eval.c3)>>=fun y4=>if (!decide (y4.2=0))=true then (some (([]:List (List aA)),y4.2)) else ((appG 32 x9 ([y4.1]:List aA))>>=fun y5=>aDp y1 p1 x20 p0 iG y5 (QA .i64 (x28+1)))) else ((appG 48 iG ([(aV.mk y1 x9)]:List aV))>>=fun y6=>O6 p1 p0 (QA .i64 (x20+1)) y6)
  partial_fixpoint
def O6 (p1:List (List aA)) (p0:eZ) (x20:Int) (iG:List aV):Option ((List (List aA))×Int) :=
  if (decide (x20<(p1.length:Int)))=true then ((idx p1 x20)>>=fun y1=>aDp y1 p1 x20 p0 iG ([]:List aA) 0) else ((aJe iG (fD.mk p0))>>=fun y2=>R9 y2 ([]:List (List aA)) 0)
  partial_fixpoint
def aLt (p0:eZ) (p1:List (List aA)):Option ((List (List aA))×Int) :=
  O6 p1 p0 0 ([]:List aV)
  partial_fixpoint
def aEk (p1:List aA) (p0:List bV) (x14:Int) (oU:List aA):Option ((List aA)×Int) :=
  if (decide (x14<(p0.length:Int)))=true then ((idx p0 x14)>>=fun y1=>(oO p1 y1.c0 y1.c1 y1.c2 y1.c3)>>=fun y2=>if (!decide (y2.2=0))=true then (some (([]:List aA),y2.2)) else ((appG 32 oU ([y2.1]:List aA))>>=fun y3=>aEk p1 p0 (QA .i64 (x14+1)) y3)) else (some (oU,0))
  partial_fixpoint
def aMp (p0:List bV) (p1:List aA):Option ((List aA)×Int) :=
  aEk p1 p0 0 ([]:List aA)
  partial_fixpoint
def aEy (p0:List aA) (p1:List bV):Option ((List aA)×Int) :=
  (aMp p1 p0)>>=fun y1=>some (y1.1,y1.2)
  partial_fixpoint
def aF3 (y2:(List (List aA))×Int) (p0:eZ) (x31:Int) (oM:List (List aA)):Option ((List (List aA))×Int) :=
  if (decide (x31<(y2.1.length:Int)))=true then ((idx y2.1 x31)>>=fun y3=>(aEy y3 p0.items.c0)>>=fun y4=>if (!decide (y4.2=0))=true then (some (([]:List (List aA)),y4.2)) else ((appG 24 oM ([y4.1]:List (List aA)))>>=fun y5=>aF3 y2 p0 (QA .i64 (x31+1)) y5)) else (if p0.distinct=true then ((aCw oM)>>=fun y6=>xX p0 y6) else (xX p0 oM))
  partial_fixpoint
def H7 (p2:List (List aA)) (p3:aJ) (p0:aP) (p1:GDb) (iA:List aA) (pO:Int) (qY:List (List aA)):Option (aA×Int) :=
  if (decide (pO<(p3.sub.length:Int)))=true then ((idx p3.sub pO)>>=fun y11=>(yC p0 p1 p2 y11)>>=fun y12=>if (!decide (y12.2=0))=true then (some ((aA.mk 0 0 []),y12.2)) else (H7 p2 p3 p0 p1 iA (QA .i64 (pO+1)) y12.1)) else ((aJf (pE.mk p3.kind p3.op p3.not_ p3.value iA qY))>>=fun y13=>some (y13.1,y13.2))
  partial_fixpoint
def aCg (p2:List (List aA)) (p3:aJ) (p0:aP) (p1:GDb) (x81:Int) (iA:List aA):Option (aA×Int) :=
  if (decide (x81<(p3.kids.length:Int)))=true then ((idx p3.kids x81)>>=fun y8=>(vL p0 p1 p2 y8)>>=fun y9=>if (!decide (y9.2=0))=true then (some ((aA.mk 0 0 []),y9.2)) else ((appG 32 iA ([y9.1]:List aA))>>=fun y10=>aCg p2 p3 p0 p1 (QA .i64 (x81+1)) y10)) else (H7 p2 p3 p0 p1 iA 0 ([]:List (List aA)))
  partial_fixpoint
def vL (p0:aP) (p1:GDb) (p2:List (List aA)) (p3:aJ):Option (aA×Int) :=
  (aL1 p3.kind (p3.kids.length:Int) (p3.sub.length:Int))>>=fun y1=>if (!y1)=true then (some ((aA.mk 0 0 []),4)) else (if (decide (p3.kind=2))=true then ((some (if (decide (p3.up<0))=true then true else (decide ((p2.length:Int)≤p3.up))))>>=fun y2=>(some (if y2=true then true else (decide (p3.at_<0))))>>=fun y3=>(if (true&&(y3==false))=true then idx p2 p3.up else some default)>>=fun y4=>(some (if y3=true then true else (decide ((y4.length:Int)≤p3.at_))))>>=fun y5=>if y5=true then (some ((aA.mk 0 0 []),4)) else ((idx p2 p3.up)>>=fun y6=>(idx y6 p3.at_)>>=fun y7=>some (y7,0))) else (aCg p2 p3 p0 p1 0 ([]:List aA)))
  partial_fixpoint
def oO (p0:List aA) (p1:aP) (p2:GDb) (p3:List (List aA)) (p4:aJ):Option (aA×Int) :=
  (appG 24 ([p0]:List (List aA)) p3)>>=fun y1=>(vL p1 p2 y1 p4)>>=fun y2=>some (y2.1,y2.2)
  partial_fixpoint
def aEd (y1:bV) (p1:List bV) (x15:Int) (x0:List (List aA)) (x22:Int) (qX:List (List aA)):Option ((List (List aA))×Int) :=
  P6 y1 p1 x15 x0 qX (QA .i64 (x22+1))
  partial_fixpoint
def P6 (y1:bV) (p1:List bV) (x15:Int) (x0:List (List aA)) (x8:List (List aA)) (x22:Int):Option ((List (List aA))×Int) :=
  if (decide (x22<(x0.length:Int)))=true then ((idx x0 x22)>>=fun y2=>(oO y2 y1.c0 y1.c1 y1.c2 y1.c3)>>=fun y3=>if (!decide (y3.2=0))=true then (some (([]:List (List aA)),y3.2)) else ((aL8 y3.1)>>=fun y4=>if y4=true then ((appG 24 x8 ([y2]:List (List aA)))>>=fun y5=>aEd y1 p1 x15 x0 x22 y5) else (aEd y1 p1 x15 x0 x22 x8))) else (M7 p1 x8 (QA .i64 (x15+1)))
  partial_fixpoint
def M7 (p1:List bV) (x0:List (List aA)) (x15:Int):Option ((List (List aA))×Int) :=
  if (decide (x15<(p1.length:Int)))=true then ((idx p1 x15)>>=fun y1=>P6 y1 p1 x15 x0 ([]:List (List aA)) 0) else (some (x0,0))
  partial_fixpoint
def aB4 (p0:List (List aA)) (p1:List bV):Option ((List (List aA))×Int) :=
  M7 p1 p0 0
  partial_fixpoint
def aD7 (x19:Int) (y1:List (List aA)) (y3:List aA) (p0:eZ) (x4:List (List aA)) (x27:Int) (nE:(List (List aA))×Int):Option ((List (List aA))×Int) :=
  if (decide (nE.2<(y1.length:Int)))=true then ((idx y1 nE.2)>>=fun y7=>(aKv ([y3,y7]:List (List aA)))>>=fun y8=>(appG 24 nE.1 ([y8]:List (List aA)))>>=fun y9=>aD7 x19 y1 y3 p0 x4 x27 (y9,(QA .i64 (nE.2+1)))) else (aAc x19 y1 p0 x4 nE.1 (QA .i64 (x27+1)))
  partial_fixpoint
def aAc (x19:Int) (y1:List (List aA)) (p0:eZ) (x4:List (List aA)) (x7:List (List aA)) (x27:Int):Option ((List (List aA))×Int) :=
  if (decide (x27<(x4.length:Int)))=true then ((idx x4 x27)>>=fun y3=>aD7 x19 y1 y3 p0 x4 x27 (x7,0)) else ((idx p0.on_ x19)>>=fun y5=>(aB4 x7 y5)>>=fun y6=>if (!decide (y6.2=0))=true then (some (([]:List (List aA)),y6.2)) else (aA0 p0 y6.1 (QA .i64 (x19+1))))
  partial_fixpoint
def aA0 (p0:eZ) (x4:List (List aA)) (x19:Int):Option ((List (List aA))×Int) :=
  if (decide (x19<(p0.tables.length:Int)))=true then ((idx p0.tables x19)>>=fun y1=>aAc x19 y1 p0 x4 ([]:List (List aA)) 0) else ((aB4 x4 p0.where_)>>=fun y2=>some (y2.1,y2.2))
  partial_fixpoint
def aQb (p0:eZ):Option ((List (List aA))×Int) :=
  aA0 p0 ([([]:List aA)]:List (List aA)) 0
  partial_fixpoint
def M5 (p0:eZ):Option ((List (List aA))×Int) :=
  (aQb p0)>>=fun y1=>if (!decide (y1.2=0))=true then (some (([]:List (List aA)),y1.2)) else ((aLt p0 y1.1)>>=fun y2=>if (!decide (y2.2=0))=true then (some (([]:List (List aA)),y2.2)) else (aF3 y2 p0 0 ([]:List (List aA))))
  partial_fixpoint
def aC9 (p0:aP) (p1:GDb) (p2:List (List aA)) (p3:aQ) (gZ:List (List bV)) (y9:List bV) (lY:(List (List (List aA)))×Int×(List nI)):Option ((List (List aA))×Int) :=
  if (decide (lY.2.1<(p3.order.length:Int)))=true then ((idx p3.order lY.2.1)>>=fun y10=>(U7 ([y10.expr]:List aJ) ((oG.mk p0 p1 p2).c0) ((oG.mk p0 p1 p2).c1) ((oG.mk p0 p1 p2).c2))>>=fun y11=>(idx y11 0)>>=fun y12=>(appG 16 lY.2.2 ([(nI.mk y12 y10.desc)]:List nI))>>=fun y13=>aC9 p0 p1 p2 p3 gZ y9 (lY.1,(QA .i64 (lY.2.1+1)),y13)) else ((U7 p3.items ((oG.mk p0 p1 p2).c0) ((oG.mk p0 p1 p2).c1) ((oG.mk p0 p1 p2).c2))>>=fun y14=>(M5 (eZ.mk lY.1 gZ y9 lY.2.2 (Z9.mk y14) p3.distinct p3.limit))>>=fun y15=>some (y15.1,y15.2))
  partial_fixpoint
def O1 (p0:aP) (p1:GDb) (p2:List (List aA)) (p3:aQ) (iE:List (List (List aA))) (x69:Int) (gZ:List (List bV)):Option ((List (List aA))×Int) :=
  if (decide (x69<(p3.on_.length:Int)))=true then ((idx p3.on_ x69)>>=fun y6=>(U7 y6 ((oG.mk p0 p1 p2).c0) ((oG.mk p0 p1 p2).c1) ((oG.mk p0 p1 p2).c2))>>=fun y7=>(appG 24 gZ ([y7]:List (List bV)))>>=fun y8=>O1 p0 p1 p2 p3 iE (QA .i64 (x69+1)) y8) else ((U7 p3.where_ ((oG.mk p0 p1 p2).c0) ((oG.mk p0 p1 p2).c1) ((oG.mk p0 p1 p2).c2))>>=fun y9=>aC9 p0 p1 p2 p3 gZ y9 (iE,0,([]:List nI)))
  partial_fixpoint
def aC7 (p3:aQ) (p0:aP) (p1:GDb) (p2:List (List aA)) (x40:Int) (iE:List (List (List aA))):Option ((List (List aA))×Int) :=
  if (decide (x40<(p3.tables.length:Int)))=true then ((idx p3.tables x40)>>=fun y2=>(some (if (decide (y2<0))=true then true else (decide ((p1.tables.length:Int)≤y2))))>>=fun y3=>if y3=true then (some (([]:List (List aA)),4)) else ((idx p1.tables y2)>>=fun y4=>(appG 24 iE ([y4.rows]:List (List (List aA))))>>=fun y5=>aC7 p3 p0 p1 p2 (QA .i64 (x40+1)) y5)) else (O1 p0 p1 p2 p3 iE 0 ([]:List (List bV)))
  partial_fixpoint
def yC (p0:aP) (p1:GDb) (p2:List (List aA)) (p3:aQ):Option ((List (List aA))×Int) :=
  (some (if (decide ((p3.tables.length:Int)=0))=true then true else (!decide ((p3.on_.length:Int)=(p3.tables.length:Int)))))>>=fun y1=>if y1=true then (some (([]:List (List aA)),4)) else (aC7 p3 p0 p1 p2 0 ([]:List (List (List aA))))
  partial_fixpoint
end
def aQi (p0:Int) (p1:Int):Option Bool :=
  (some (if (decide (p0≤24))=true then (decide (p1≤200)) else false))>>=fun y1=>some y1
def J8 (p0:aQ) (fE:List aJ) (x27:Int):Option (List aJ) :=
  if (decide (x27<(p0.order.length:Int)))=true then ((idx p0.order x27)>>=fun y5=>(appG 120 fE ([y5.expr]:List aJ))>>=fun y6=>J8 p0 y6 (QA .i64 (x27+1))) else ((appG 120 fE p0.items)>>=fun y7=>some y7)
  partial_fixpoint
def aCm (p0:aQ) (x3:List aJ) (x12:Int):Option (List aJ) :=
  if (decide (x12<(p0.on_.length:Int)))=true then ((idx p0.on_ x12)>>=fun y1=>(appG 120 x3 y1)>>=fun y2=>aCm p0 y2 (QA .i64 (x12+1))) else ((appG 120 x3 p0.where_)>>=fun y3=>J8 p0 y3 0)
  partial_fixpoint
def aFw (p0:aQ):Option (List aJ) :=
  aCm p0 ([]:List aJ) 0
mutual
def aAw (p0:aJ) (x3:Int) (x12:Int):Option Int :=
  if (decide (x12<(p0.sub.length:Int)))=true then ((idx p0.sub x12)>>=fun y2=>(zO y2)>>=fun y3=>aAw p0 (if y3>x3 then y3 else x3) (QA .i64 (x12+1))) else (some (QA .i64 (1+x3)))
  partial_fixpoint
def aAr (p0:aJ):Option Int :=
  (aEh p0.kids)>>=fun y1=>aAw p0 y1 0
  partial_fixpoint
def aBu (p0:List aJ) (x3:Int) (x8:Int):Option Int :=
  if (decide (x8<(p0.length:Int)))=true then ((idx p0 x8)>>=fun y1=>(aAr y1)>>=fun y2=>aBu p0 (if y2>x3 then y2 else x3) (QA .i64 (x8+1))) else (some x3)
  partial_fixpoint
def aEh (p0:List aJ):Option Int :=
  aBu p0 0 0
  partial_fixpoint
def zO (p0:aQ):Option Int :=
  (aFw p0)>>=fun y1=>(aEh y1)>>=fun y2=>some y2
  partial_fixpoint
end
mutual
def aDa (p0:aJ) (x3:Int) (x13:Int):Option Int :=
  if (decide (x13<(p0.sub.length:Int)))=true then ((idx p0.sub x13)>>=fun y2=>(H9 y2)>>=fun y3=>aDa p0 (QA .i64 (x3+y3)) (QA .i64 (x13+1))) else (some x3)
  partial_fixpoint
def yX (p0:aJ):Option Int :=
  (aGn p0.kids)>>=fun y1=>aDa p0 (QA .i64 (1+y1)) 0
  partial_fixpoint
def aEs (p0:List aJ) (x3:Int) (x8:Int):Option Int :=
  if (decide (x8<(p0.length:Int)))=true then ((idx p0 x8)>>=fun y1=>(yX y1)>>=fun y2=>aEs p0 (QA .i64 (x3+y2)) (QA .i64 (x8+1))) else (some x3)
  partial_fixpoint
def aGn (p0:List aJ):Option Int :=
  aEs p0 0 0
  partial_fixpoint
def H9 (p0:aQ):Option Int :=
  (aFw p0)>>=fun y1=>(aGn y1)>>=fun y2=>some y2
  partial_fixpoint
end
def aJb (p0:List aJ):Option Bool :=
  some (decide (1<(p0.length:Int)))
def Z5 (p0:List (List aJ)) (x8:Int):Option Int :=
  if (decide (x8<(p0.length:Int)))=true then ((idx p0 x8)>>=fun y1=>(aJb y1)>>=fun y2=>if y2=true then (some x8) else (Z5 p0 (QA .i64 (x8+1)))) else (some (-1))
  partial_fixpoint
def aNf (p0:List (List aJ)):Option Int :=
  Z5 p0 0
def aKb (p0:List (List aJ)):Option Bool :=
  (aNf p0)>>=fun y1=>some (decide (0≤y1))
def aKx (p0:List UInt8):Option Bool :=
  (qZ p0)>>=fun y1=>some (!y1)
def O0 (p0:List (List UInt8)) (x8:Int):Option Int :=
  if (decide (x8<(p0.length:Int)))=true then ((idx p0 x8)>>=fun y1=>(aKx y1)>>=fun y2=>if y2=true then (some x8) else (O0 p0 (QA .i64 (x8+1)))) else (some (-1))
  partial_fixpoint
def aMo (p0:List (List UInt8)):Option Int :=
  O0 p0 0
def aJ2 (p0:List (List UInt8)):Option Bool :=
  (aMo p0)>>=fun y1=>some (decide (0≤y1))
def aIl (p0:aQ):Option Bool :=
  (some (if (decide ((p0.tables.length:Int)<1))=true then true else (decide (3<(p0.tables.length:Int)))))>>=fun y1=>(some (if y1=true then true else (!decide ((p0.on_.length:Int)=(p0.tables.length:Int)))))>>=fun y2=>(if (true&&(y2==false))=true then idx p0.on_ 0 else some default)>>=fun y3=>(some (if y2=true then true else (decide (0<(y3.length:Int)))))>>=fun y4=>(some (if y4=true then true else (decide (1<(p0.where_.length:Int)))))>>=fun y5=>(some (if y5=true then true else (decide (12<(p0.order.length:Int)))))>>=fun y6=>if y6=true then (some false) else ((some (if (decide (1≤(p0.items.length:Int)))=true then (decide ((p0.items.length:Int)≤12)) else false))>>=fun y7=>(some (if y7=true then (decide ((p0.names.length:Int)=(p0.items.length:Int))) else false))>>=fun y8=>(some (if y8=true then (decide ((-1)≤p0.limit)) else false))>>=fun y9=>(if (true&&(y9==true))=true then aKb p0.on_ else some default)>>=fun y10=>(some (if y9=true then (!y10) else false))>>=fun y11=>(if (true&&(y11==true))=true then aJ2 p0.names else some default)>>=fun y12=>(some (if y11=true then (!y12) else false))>>=fun y13=>some y13)
def aDr (p0:Int):Option Bool :=
  (some (if (decide (p0=0))=true then true else (decide (p0=3))))>>=fun y1=>some y1
def aHe (p0:aJ):Option Bool :=
  (K4 (eT.mk p0.kind p0.op false p0.value [] [120] ([]:List eT) ([]:List jK)))>>=fun y1=>(if (true&&(y1.2==true))=true then some (if y1.1.op=true then true else (decide (p0.op=0))) else some default)>>=fun y2=>(some (if y1.2=true then y2 else false))>>=fun y3=>(if (true&&(y3==true))=true then some (if y1.1.not_=true then true else (!p0.not_)) else some default)>>=fun y4=>(some (if y3=true then y4 else false))>>=fun y5=>(if (true&&(y5==true))=true then some (if y1.1.value=true then true else ((decide (p0.value.kind=0))&&((decide (p0.value.num=0))&&((decide (p0.value.text=[]))&&true)))) else some default)>>=fun y6=>(some (if y5=true then y6 else false))>>=fun y7=>(if ((true&&(y7==true))&&(y1.1.name==false))=true then some (if (decide (p0.up=0))=true then (decide (p0.at_=0)) else false) else some default)>>=fun y8=>(if (true&&(y7==true))=true then some (if y1.1.name=true then true else y8) else some default)>>=fun y9=>(some (if y7=true then y9 else false))>>=fun y10=>(some (if y10=true then (decide (y1.1.least≤(p0.kids.length:Int))) else false))>>=fun y11=>(some (if y11=true then (decide ((p0.kids.length:Int)≤y1.1.most)) else false))>>=fun y12=>(some (if y12=true then (decide ((p0.sub.length:Int)=y1.1.subs)) else false))>>=fun y13=>some y13
def aD9 (p0:Int) (p1:Int) (p2:Int):Option Bool :=
  (some (if (decide (p1=p0))=true then true else (decide (p1=0))))>>=fun y1=>(if (true&&(y1==true))=true then some (if (decide (p2=p0))=true then true else (decide (p2=0))) else some default)>>=fun y2=>(some (if y1=true then y2 else false))>>=fun y3=>some y3
def L9 (x8:Int) (x9:Bool):Option (Int×Bool) :=
  if (!x9)=true then (some (0,false)) else (some (x8,true))
def aJd (p0:Int):Option Bool :=
  (some (if (decide (0≤p0))=true then (decide (p0≤3)) else false))>>=fun y1=>some y1
def aGm (p0:Int) (p1:Int):Option (Int×Bool) :=
  (aJd p0)>>=fun y1=>(if (true&&((!y1)==false))=true then aJd p1 else some default)>>=fun y2=>(some (if (!y1)=true then true else (!y2)))>>=fun y3=>if y3=true then (some (0,false)) else (if (decide (p0=0))=true then (some (p1,true)) else ((some (if (decide (p1=0))=true then true else (decide (p0=p1))))>>=fun y4=>if y4=true then (some (p0,true)) else (some (0,false))))
def aJ1 (p0:Int) (p1:Int) (p2:Int):Option (Int×Bool) :=
  (some (if (decide (p0<1))=true then true else (decide (14<p0))))>>=fun y1=>if y1=true then (L9 0 false) else (if (decide (p0≤2))=true then ((aDr p1)>>=fun y2=>(if (true&&(y2==true))=true then aDr p2 else some default)>>=fun y3=>(some (if y2=true then y3 else false))>>=fun y4=>L9 3 y4) else (if (decide (p0≤8))=true then ((aGm p1 p2)>>=fun y5=>L9 3 y5.2) else (if (decide (p0=9))=true then ((aD9 2 p1 p2)>>=fun y6=>L9 2 y6) else ((aD9 1 p1 p2)>>=fun y7=>L9 1 y7))))
def aLx (p0:List Int):Option (List Int) :=
  if (decide ((p0.length:Int)=0))=true then (some ([]:List Int)) else ((appG 8 ([]:List Int) p0)>>=fun y1=>some y1)
def U9 (p0:List Int) (x4:Int) (x11:Int):Option (Int×Bool) :=
  if (decide (x11<(p0.length:Int)))=true then ((idx p0 x11)>>=fun y1=>(aGm x4 y1)>>=fun y2=>if (!y2.2)=true then (some (0,false)) else (U9 p0 y2.1 (QA .i64 (x11+1)))) else (some (x4,true))
  partial_fixpoint
def aIv (p0:List Int):Option (Int×Bool) :=
  U9 p0 0 0
def V6 (p1:List Int) (p2:List Int) (x40:Bool):Option (Int×Bool) :=
  if x40=true then (some (3,true)) else ((aLx p1)>>=fun y6=>(appG 8 y6 p2)>>=fun y7=>(aIv y7)>>=fun y8=>if (!y8.2)=true then (some (0,false)) else (some (3,true)))
def aHy (p0:Int) (p1:Int):Option (Int×Bool) :=
  (if (true&&((decide (p0=15))==true))=true then aDr p1 else some default)>>=fun y1=>(some (if (decide (p0=15))=true then y1 else false))>>=fun y2=>if y2=true then (some (3,true)) else ((if (true&&((decide (p0=16))==true))=true then aD9 1 p1 p1 else some default)>>=fun y3=>(some (if (decide (p0=16))=true then y3 else false))>>=fun y4=>if y4=true then (some (1,true)) else (some (0,false)))
def wX (p0:aJ) (p1:List Int) (p2:List Int):Option (Int×Bool) :=
  if (decide (p0.kind=1))=true then (some (p0.value.kind,true)) else (if (decide (p0.kind=3))=true then ((idx p1 0)>>=fun y1=>(aHy p0.op y1)>>=fun y2=>some (y2.1,y2.2)) else (if (decide (p0.kind=4))=true then ((idx p1 0)>>=fun y3=>(idx p1 1)>>=fun y4=>(aJ1 p0.op y3 y4)>>=fun y5=>some (y5.1,y5.2)) else (if (decide (p0.kind=5))=true then (V6 p1 p2 (decide (p0.kind=5))) else (V6 p1 p2 (decide (p0.kind=9))))))
def aGj (p0:List Int) (p1:List (List Int)):Option (List (List Int)) :=
  (appG 24 ([p0]:List (List Int)) p1)>>=fun y1=>some y1
def R3 (p1:List Int) (p0:aP) (x6:List Int) (x12:Int):Option ((List Int)×Bool) :=
  if (decide (x12<(p1.length:Int)))=true then ((idx p1 x12)>>=fun y1=>(some (if (decide (y1<0))=true then true else (decide ((p0.tables.length:Int)≤y1))))>>=fun y2=>if y2=true then (some (([]:List Int),false)) else ((idx p0.tables y1)>>=fun y3=>(aA9 y3)>>=fun y4=>(appG 8 x6 y4)>>=fun y5=>R3 p1 p0 y5 (QA .i64 (x12+1)))) else (some (x6,true))
  partial_fixpoint
def aH0 (p0:aP) (p1:List Int):Option ((List Int)×Bool) :=
  R3 p1 p0 ([]:List Int) 0
mutual
def zH (y9:List (List Int)) (p2:aQ) (p0:aP) (x19:List Int) (x95:Int):Option ((List Int)×Bool) :=
  if (decide (x95<(p2.items.length:Int)))=true then ((idx p2.items x95)>>=fun y13=>(R7 p0 y9 y13)>>=fun y14=>if (!y14.2)=true then (some (([]:List Int),false)) else ((appG 8 x19 ([y14.1]:List Int))>>=fun y15=>zH y9 p2 p0 y15 (QA .i64 (x95+1)))) else (some (x19,true))
  partial_fixpoint
def Y0 (y9:List (List Int)) (p2:aQ) (p0:aP) (x76:Int):Option ((List Int)×Bool) :=
  if (decide (x76<(p2.order.length:Int)))=true then ((idx p2.order x76)>>=fun y11=>(R7 p0 y9 y11.expr)>>=fun y12=>if (!y12.2)=true then (some (([]:List Int),false)) else (Y0 y9 p2 p0 (QA .i64 (x76+1)))) else (zH y9 p2 p0 ([]:List Int) 0)
  partial_fixpoint
def zG (p1:List (List Int)) (x8:List Int) (p2:aJ) (p0:aP) (x9:List Int) (x85:Int):Option (Int×Bool) :=
  if (decide (x85<(p2.sub.length:Int)))=true then ((idx p2.sub x85)>>=fun y11=>(aGp p0 p1 y11)>>=fun y12=>(if (true&&((!y12.2)==false))=true then some (if (decide (p2.kind=8))=true then (!decide ((y12.1.length:Int)=1)) else false) else some default)>>=fun y13=>(some (if (!y12.2)=true then true else y13))>>=fun y14=>if y14=true then (some (0,false)) else (zG p1 x8 p2 p0 y12.1 (QA .i64 (x85+1)))) else ((wX p2 x8 x9)>>=fun y15=>some (y15.1,y15.2))
  partial_fixpoint
def vJ (p1:List (List Int)) (p2:aJ) (p0:aP) (x8:List Int) (x64:Int):Option (Int×Bool) :=
  if (decide (x64<(p2.kids.length:Int)))=true then ((idx p2.kids x64)>>=fun y8=>(R7 p0 p1 y8)>>=fun y9=>if (!y9.2)=true then (some (0,false)) else ((appG 8 x8 ([y9.1]:List Int))>>=fun y10=>vJ p1 p2 p0 y10 (QA .i64 (x64+1)))) else (zG p1 x8 p2 p0 ([]:List Int) 0)
  partial_fixpoint
def R7 (p0:aP) (p1:List (List Int)) (p2:aJ):Option (Int×Bool) :=
  (aHe p2)>>=fun y1=>if (!y1)=true then (some (0,false)) else (if (decide (p2.kind=2))=true then ((some (if (decide (p2.up<0))=true then true else (decide ((p1.length:Int)≤p2.up))))>>=fun y2=>(some (if y2=true then true else (decide (p2.at_<0))))>>=fun y3=>(if (true&&(y3==false))=true then idx p1 p2.up else some default)>>=fun y4=>(some (if y3=true then true else (decide ((y4.length:Int)≤p2.at_))))>>=fun y5=>if y5=true then (some (0,false)) else ((idx p1 p2.up)>>=fun y6=>(idx y6 p2.at_)>>=fun y7=>some (y7,true))) else (vJ p1 p2 p0 ([]:List Int) 0))
  partial_fixpoint
def aOa (p0:aJ) (p1:aP) (c1_0:List (List Int)):Option Bool :=
  (R7 p1 c1_0 p0)>>=fun y1=>(if (true&&((!y1.2)==false))=true then aDr y1.1 else some default)>>=fun y2=>(some (if (!y1.2)=true then true else (!y2)))>>=fun y3=>some y3
  partial_fixpoint
def aBk (p0:List aJ) (c0:aP) (c1_0:List (List Int)) (x8:Int):Option Int :=
  if (decide (x8<(p0.length:Int)))=true then ((idx p0 x8)>>=fun y1=>(aOa y1 c0 c1_0)>>=fun y2=>if y2=true then (some x8) else (aBk p0 c0 c1_0 (QA .i64 (x8+1)))) else (some (-1))
  partial_fixpoint
def aO2 (p0:List aJ) (c0:aP) (c1_0:List (List Int)):Option Int :=
  aBk p0 c0 c1_0 0
  partial_fixpoint
def aQ8 (p0:List aJ) (c0:aP) (c1_0:List (List Int)):Option Bool :=
  (aO2 p0 c0 c1_0)>>=fun y1=>some (decide (0≤y1))
  partial_fixpoint
def aFq (p0:aP) (p1:List (List Int)) (p2:List aJ):Option Bool :=
  (aQ8 p2 p0 p1)>>=fun y1=>some (!y1)
  partial_fixpoint
def aDe (p1:List (List Int)) (y1:(List Int)×Bool) (p2:aQ) (p0:aP) (x41:Int):Option ((List Int)×Bool) :=
  if (decide (x41<(p2.on_.length:Int)))=true then ((idx p2.on_ x41)>>=fun y4=>(iR p2.tables 0 (QA .i64 (x41+1)))>>=fun y5=>(aH0 p0 y5)>>=fun y6=>(aGj y6.1 p1)>>=fun y7=>(aFq p0 y7 y4)>>=fun y8=>if (!y8)=true then (some (([]:List Int),false)) else (aDe p1 y1 p2 p0 (QA .i64 (x41+1)))) else ((aGj y1.1 p1)>>=fun y9=>(aFq p0 y9 p2.where_)>>=fun y10=>if (!y10)=true then (some (([]:List Int),false)) else (Y0 y9 p2 p0 0))
  partial_fixpoint
def aGp (p0:aP) (p1:List (List Int)) (p2:aQ):Option ((List Int)×Bool) :=
  (aH0 p0 p2.tables)>>=fun y1=>(if (true&&((!y1.2)==false))=true then aIl p2 else some default)>>=fun y2=>(some (if (!y1.2)=true then true else (!y2)))>>=fun y3=>if y3=true then (some (([]:List Int),false)) else (aDe p1 y1 p2 p0 0)
  partial_fixpoint
end
def aFr (p0:aP) (p1:aQ):Option Bool :=
  (aGe p0)>>=fun y1=>(if (true&&((!y1)==false))=true then zO p1 else some default)>>=fun y2=>(if (true&&((!y1)==false))=true then H9 p1 else some default)>>=fun y3=>(if (true&&((!y1)==false))=true then aQi y2 y3 else some default)>>=fun y4=>(some (if (!y1)=true then true else (!y4)))>>=fun y5=>if y5=true then (some false) else ((aGp p0 ([]:List (List Int)) p1)>>=fun y6=>some y6.2)
def aK7 (p0:aP) (p1:GDb) (p2:aQ):Option ((List (List aA))×Int) :=
  (aFr p0 p2)>>=fun y1=>(if (true&&((!y1)==false))=true then aFk p0 p1 else some default)>>=fun y2=>(some (if (!y1)=true then true else (!y2)))>>=fun y3=>if y3=true then (some (([]:List (List aA)),4)) else ((yC p0 p1 ([]:List (List aA)) p2)>>=fun y4=>some (y4.1,y4.2))
def aKg (y1:aL×aP×GDb×aQ) (nK:List aJ) (F9:List fI):Option (aP×GDb×aQ) :=
  some (y1.2.1,(GDb.mk F9),(aQ.mk y1.2.2.2.tables y1.2.2.2.on_ y1.2.2.2.where_ y1.2.2.2.order nK y1.2.2.2.names y1.2.2.2.distinct y1.2.2.2.limit))
def aHw (p0:aL) (x3:Int) (dR:Int):Option (Int×aL) :=
  some (x3,(aL.mk p0.b dR (QA .i64 ((QA .i64 (p0.h * 6364136223846793005))+1442695040888963407))))
def A9 (p0:aL):Option (Int×aL) :=
  if (decide (p0.i<(p0.b.length:Int)))=true then ((idx p0.b p0.i)>>=fun y1=>aHw p0 (QA .i64 ((BitVec.ofInt (QC .i64) (QA .i64 ((QA .i64 ((BitVec.ofInt (QC .i64) (QA .i64 ((BitVec.ofInt (QC .i64) (QB (QA .i64 ((QA .i64 (p0.h * 6364136223846793005))+1442695040888963407)) (2 ^ 33)) ^^^ BitVec.ofInt (QC .i64) (QB (QA .i64 ((QA .i64 (p0.h * 6364136223846793005))+1442695040888963407)) (2 ^ 45))).toNat:Int)) &&& BitVec.ofInt (QC .i64) 255).toNat:Int))+(QA .i64 y1))) &&& BitVec.ofInt (QC .i64) 255).toNat:Int)) (QA .i64 (p0.i+1))) else (aHw p0 (QA .i64 ((BitVec.ofInt (QC .i64) (QA .i64 ((BitVec.ofInt (QC .i64) (QB (QA .i64 ((QA .i64 (p0.h * 6364136223846793005))+1442695040888963407)) (2 ^ 33)) ^^^ BitVec.ofInt (QC .i64) (QB (QA .i64 ((QA .i64 (p0.h * 6364136223846793005))+1442695040888963407)) (2 ^ 45))).toNat:Int)) &&& BitVec.ofInt (QC .i64) 255).toNat:Int)) p0.i)
def iI (p0:aL) (p1:Int):Option (Int×aL) :=
  if (decide (p1≤0))=true then (some (0,p0)) else (if (decide (p1≤256))=true then ((A9 p0)>>=fun y1=>(yE y1.1 p1)>>=fun y2=>some (y2,y1.2)) else ((A9 p0)>>=fun y3=>(A9 y3.2)>>=fun y4=>(A9 y4.2)>>=fun y5=>(A9 y5.2)>>=fun y6=>(yE (QA .i64 ((QA .i64 ((QA .i64 ((QA .i64 (y3.1 * 16777216))+(QA .i64 (y4.1 * 65536))))+(QA .i64 (y5.1 * 256))))+y6.1)) p1)>>=fun y7=>some (y7,y6.2)))
def iJ (p0:aL) (p1:Int):Option (Bool×aL) :=
  (iI p0 p1)>>=fun y1=>some ((decide (y1.1=0)),y1.2)
def aH9 (y1:aL×aP×GDb×aQ) (X4:List Int) (O3:Int) (M8:Int) (nK:List aJ):Option (aP×GDb×aQ) :=
  (iJ (aL.mk X4 O3 M8) 12)>>=fun y5=>if y5.1=true then ((appG 24 y1.2.2.1.tables ([(fI.mk ([]:List (List aA)))]:List fI))>>=fun y6=>aKg y1 nK y6) else (aKg y1 nK y1.2.2.1.tables)
def wV (p1:aJ) (dI:Int) (jY:Int) (oI:Bool) (G9:Int) (yO:Int) (yP:List UInt8) (zJ:Int) (oP:Int) (eB:List Int) (dR:Int) (eD:Int) (zX:List aQ):Option (aJ×aL) :=
  some ((aJ.mk dI jY oI (aA.mk G9 yO yP) zJ oP p1.kids zX),(aL.mk eB dR eD))
def aAl (p0:aL) (p1:List Int):Option (Int×aL) :=
  (iI p0 (p1.length:Int))>>=fun y1=>(idx p1 y1.1)>>=fun y2=>some (y2,y1.2)
def wJ (p0:aL):Option (Int×aL) :=
  (iI p0 3)>>=fun y1=>if (decide (y1.1=0))=true then ((aAl y1.2 ([0,1,(-1),63,64,(-64),(-65),127,128,16383,16384,9223372036854775807,(-9223372036854775808),4611686018427387904]:List Int))>>=fun y2=>some (y2.1,y2.2)) else (if (decide (y1.1=1))=true then ((iI y1.2 1000000)>>=fun y3=>some ((QA .i64 (y3.1 - 500000)),y3.2)) else ((iI y1.2 20)>>=fun y4=>some (y4.1,y4.2)))
def uW (p0:aL) (p1:List (List UInt8)):Option ((List UInt8)×aL) :=
  (iI p0 (p1.length:Int))>>=fun y1=>(idx p1 y1.1)>>=fun y2=>some (y2,y1.2)
def wU (dI:Int) (jY:Int) (oI:List UInt8) (eB:List Int) (dR:Int) (eD:Int):Option (aA×aL) :=
  some ((aA.mk dI jY oI),(aL.mk eB dR eD))
def aAj (y1:aA×aL) (oJ:List UInt8) (uY:List Int) (uD:Int) (uM:Int):Option (aA×aL) :=
  (iJ (aL.mk uY uD uM) 2)>>=fun y10=>(some (if y10.1=true then (decide ((oJ.length:Int)<400)) else false))>>=fun y11=>if y11=true then ((pW oJ oJ)>>=fun y12=>(pW y12 [48,49,50,51,52,53,54,55,56,57])>>=fun y13=>aAj y1 y13 y10.2.b y10.2.i y10.2.h) else (wU y1.1.kind y1.1.num oJ y10.2.b y10.2.i y10.2.h)
  partial_fixpoint
def qV (p0:Bool):Option aA :=
  if p0=true then (some (aA.mk 3 1 [])) else (some (aA.mk 3 0 []))
def wT (p0:Int):Option aA :=
  some (aA.mk 1 p0 [])
def aEi (p0:List UInt8):Option aA :=
  some (aA.mk 2 0 p0)
def aHq (p0:aL):Option (aA×aL) :=
  (iI p0 6)>>=fun y1=>if (decide (y1.1=0))=true then (some ((aA.mk 0 0 []),y1.2)) else (if (decide (y1.1=1))=true then ((uW y1.2 ([[],[97],[98],[105,116,39,115],[97,98],[255]]:List (List UInt8)))>>=fun y2=>(aEi y2.1)>>=fun y3=>some (y3,y2.2)) else (if (decide (y1.1=2))=true then ((iJ y1.2 2)>>=fun y4=>(qV y4.1)>>=fun y5=>some (y5,y4.2)) else (if (decide (y1.1=3))=true then ((wJ y1.2)>>=fun y6=>(wT y6.1)>>=fun y7=>some (y7,y6.2)) else ((iI y1.2 7)>>=fun y8=>(wT (QA .i64 (y8.1 - 2)))>>=fun y9=>some (y9,y8.2)))))
def aKa (p0:aL):Option (aA×aL) :=
  (aHq p0)>>=fun y1=>(iI y1.2 14)>>=fun y2=>if (decide (y2.1=0))=true then ((iI y2.2 6)>>=fun y3=>wU (QA .i64 (y3.1 - 1)) y1.1.num y1.1.text y3.2.b y3.2.i y3.2.h) else (if (decide (y2.1=1))=true then ((wJ y2.2)>>=fun y4=>wU y1.1.kind y4.1 y1.1.text y4.2.b y4.2.i y4.2.h) else (if (decide (y2.1=2))=true then ((uW y2.2 ([[120],[],[108,111,110,103]]:List (List UInt8)))>>=fun y5=>aAj y1 y5.1 y5.2.b y5.2.i y5.2.h) else (wU y1.1.kind y1.1.num y1.1.text y2.2.b y2.2.i y2.2.h)))
def aD5 (p0:aL) (p1:aJ):Option (aJ×aL) :=
  (if (true&&((decide (0<(p1.kids.length:Int)))==true))=true then iJ p0 2 else some ((default:Bool),p0))>>=fun y1=>(some (if (decide (0<(p1.kids.length:Int)))=true then y1.1 else false))>>=fun y2=>if y2=true then ((iI y1.2 (p1.kids.length:Int))>>=fun y3=>(idx p1.kids y3.1)>>=fun y4=>(aD5 y3.2 y4)>>=fun y5=>some ((aJ.mk p1.kind p1.op p1.not_ p1.value p1.up p1.at_ (p1.kids.set (y3.1).toNat y5.1) p1.sub),y5.2)) else ((iI y1.2 7)>>=fun y6=>if (decide (y6.1=0))=true then ((wJ y6.2)>>=fun y7=>wV p1 y7.1 p1.op p1.not_ p1.value.kind p1.value.num p1.value.text p1.up p1.at_ y7.2.b y7.2.i y7.2.h p1.sub) else (if (decide (y6.1=1))=true then ((wJ y6.2)>>=fun y8=>wV p1 p1.kind y8.1 p1.not_ p1.value.kind p1.value.num p1.value.text p1.up p1.at_ y8.2.b y8.2.i y8.2.h p1.sub) else (if (decide (y6.1=2))=true then ((wJ y6.2)>>=fun y9=>wV p1 p1.kind p1.op p1.not_ p1.value.kind p1.value.num p1.value.text y9.1 p1.at_ y9.2.b y9.2.i y9.2.h p1.sub) else (if (decide (y6.1=3))=true then ((wJ y6.2)>>=fun y10=>wV p1 p1.kind p1.op p1.not_ p1.value.kind p1.value.num p1.value.text p1.up y10.1 y10.2.b y10.2.i y10.2.h p1.sub) else (if (decide (y6.1=4))=true then ((aKa y6.2)>>=fun y11=>wV p1 p1.kind p1.op p1.not_ y11.1.kind y11.1.num y11.1.text p1.up p1.at_ y11.2.b y11.2.i y11.2.h p1.sub) else (if (decide (y6.1=5))=true then (wV p1 p1.kind p1.op (!p1.not_) p1.value.kind p1.value.num p1.value.text p1.up p1.at_ y6.2.b y6.2.i y6.2.h p1.sub) else ((appG 160 p1.sub ([(aQ.mk ([]:List Int) ([]:List (List aJ)) ([]:List aJ) ([]:List dV) ([]:List aJ) ([]:List (List UInt8)) false 0)]:List aQ))>>=fun y12=>wV p1 p1.kind p1.op p1.not_ p1.value.kind p1.value.num p1.value.text p1.up p1.at_ y6.2.b y6.2.i y6.2.h y12)))))))
  partial_fixpoint
def R4 (p0:List Int) (x3:Int) (x4:Int):Option aL :=
  (some (if (decide (x4<(p0.length:Int)))=true then (decide (x4<4000)) else false))>>=fun y1=>if y1=true then ((idx p0 x4)>>=fun y2=>R4 p0 (QA .i64 ((BitVec.ofInt (QC .i64) (QA .i64 ((QA .i64 ((QA .i64 (x3 * 131))+(QA .i64 y2)))+7)) &&& BitVec.ofInt (QC .i64) 1073741823).toNat:Int)) (QA .i64 (x4+1))) else (some (aL.mk p0 0 x3))
  partial_fixpoint
def aK1 (p0:List Int):Option aL :=
  R4 p0 (QA .i64 (28322+(p0.length:Int))) 0
def aJ3 (p0:List Int) (p1:Int):Option Int :=
  if (decide (p1<(QA .i64 (2+(QA .i64 (QD (p0.length:Int) 20))))))=true then (some p1) else (some (QA .i64 (2+(QA .i64 (QD (p0.length:Int) 20)))))
def zF (p1:List UInt8) (p0:eP) (x5:Int):Option Int :=
  if (decide (x5<(p0.cols.length:Int)))=true then ((idx p0.cols x5)>>=fun y1=>if (decide (y1.name=p1))=true then (some x5) else (zF p1 p0 (QA .i64 (x5+1)))) else (some (-1))
  partial_fixpoint
def xQ (p0:eP) (p1:List UInt8):Option Int :=
  zF p1 p0 0
def aIx (p0:aL):Option ((List UInt8)×aL) :=
  (iJ p0 6)>>=fun y1=>if y1.1=true then ((uW y1.2 ([[97,32,98],[102,114,111,109],[83,101,108,101,99,116],[49,120],[113,34,113],[0],[34],[105,116,39,115],[120,46,121],[45]]:List (List UInt8)))>>=fun y2=>some (y2.1,y2.2)) else ((uW y1.2 ([[97],[98],[99],[116],[117],[118],[105,100],[110,97,109,101],[65],[95,120,49]]:List (List UInt8)))>>=fun y3=>some (y3.1,y3.2))
mutual
def aD2 (y1:Int×aL) (x6:Int) (y3:Int×aL) (x9:Int) (dI:List eP) (y2:List UInt8) (mX:(List Int)×Int×Int×(List gJ)):Option (aP×aL) :=
  aBf y1 x6 y3 dI y2 (QA .i64 (x9+1)) (mX.2.2.2,mX.1,mX.2.1,mX.2.2.1)
  partial_fixpoint
def aEw (y1:Int×aL) (x6:Int) (y3:Int×aL) (x9:Int) (dI:List eP) (y2:List UInt8) (qF:List gJ) (ky8:(Int×aL)×(List UInt8)×(List Int)×Int×Int):Option (aP×aL) :=
  (xQ (eP.mk y2 qF) ky8.2.1)>>=fun y15=>if (decide (y15<0))=true then ((appG 24 qF ([(gJ.mk ky8.2.1 ky8.1.1)]:List gJ))>>=fun y16=>aD2 y1 x6 y3 x9 dI y2 (ky8.2.2.1,ky8.2.2.2.1,ky8.2.2.2.2,y16)) else (aD2 y1 x6 y3 x9 dI y2 (ky8.2.2.1,ky8.2.2.2.1,ky8.2.2.2.2,qF))
  partial_fixpoint
def aBf (y1:Int×aL) (x6:Int) (y3:Int×aL) (dI:List eP) (y2:List UInt8) (x9:Int) (jX:(List gJ)×(List Int)×Int×Int):Option (aP×aL) :=
  if (decide (x9<(QA .i64 (1+y3.1))))=true then ((uW (aL.mk jX.2.1 jX.2.2.1 jX.2.2.2) ([[97],[98],[99],[105,100],[110,97,109,101]]:List (List UInt8)))>>=fun y7=>(aAl y7.2 ([1,1,2,3]:List Int))>>=fun y8=>(iJ y8.2 20)>>=fun y9=>if y9.1=true then ((aIx y9.2)>>=fun y10=>aEw y1 x6 y3 x9 dI y2 jX.1 (y8,y10.1,y10.2.b,y10.2.i,y10.2.h)) else (aEw y1 x6 y3 x9 dI y2 jX.1 (y8,y7.1,y9.2.b,y9.2.i,y9.2.h))) else ((appG 40 dI ([(eP.mk y2 jX.1)]:List eP))>>=fun y14=>aA6 y1 (QA .i64 (x6+1)) y14 jX.2.1 jX.2.2.1 jX.2.2.2)
  partial_fixpoint
def aA6 (y1:Int×aL) (x6:Int) (dI:List eP) (eB:List Int) (dR:Int) (eD:Int):Option (aP×aL) :=
  if (decide (x6<(QA .i64 (1+y1.1))))=true then ((idx ([[116],[117],[118]]:List (List UInt8)) x6)>>=fun y2=>(iI (aL.mk eB dR eD) 3)>>=fun y3=>aBf y1 x6 y3 dI y2 0 (([]:List gJ),y3.2.b,y3.2.i,y3.2.h)) else (some ((aP.mk dI),(aL.mk eB dR eD)))
  partial_fixpoint
end
def aKe (p0:aL):Option (aP×aL) :=
  (iI p0 3)>>=fun y1=>aA6 y1 0 ([]:List eP) y1.2.b y1.2.i y1.2.h
def U5 (p0:List Int) (p1:List (List Int)):Option (List (List Int)) :=
  (appG 24 ([p0]:List (List Int)) p1)>>=fun y1=>some y1
def aFe (y1:Bool×aL) (nQ:List dV) (nR:List aJ) (gN:List (List UInt8)) (gM:List aJ) (gH:List (List aJ)) (gL:List Int) (K8:Int) (F8:List Int) (D7:Int) (F5:Int):Option (aQ×aL) :=
  some ((aQ.mk gL gH nR nQ gM gN y1.1 K8),(aL.mk F8 D7 F5))
def Z6 (y1:Bool×aL) (nR:List aJ) (gN:List (List UInt8)) (gM:List aJ) (gH:List (List aJ)) (gL:List Int) (Q9:List Int) (W9:Int) (aAk:Int) (nQ:List dV):Option (aQ×aL) :=
  (iJ (aL.mk Q9 W9 aAk) 4)>>=fun y38=>if y38.1=true then ((iI y38.2 4)>>=fun y39=>aFe y1 nQ nR gN gM gH gL y39.1 y39.2.b y39.2.i y39.2.h) else (aFe y1 nQ nR gN gM gH gL (-1) y38.2.b y38.2.i y38.2.h)
mutual
def Z7 (p1:List (List Int)) (p2:Int) (x9:Int) (x10:Int) (uG:Int) (uO:Int) (uN:Int) (uX:Int) (lW:(List UInt8)×Int×Int×(List Int)×Int×Int):Option (aJ×aL) :=
  aDh p1 p2 x9 uG (QA .i64 (x10+1)) uO uN uX (lW.1,lW.2.1,lW.2.2.1,lW.2.2.2.1,lW.2.2.2.2.1,lW.2.2.2.2.2)
  partial_fixpoint
def aDh (p1:List (List Int)) (p2:Int) (x9:Int) (pM:Int) (x10:Int) (qN:Int) (sH:Int) (rQ:Int) (iC:(List UInt8)×Int×Int×(List Int)×Int×Int):Option (aJ×aL) :=
  (idx p1 x9)>>=fun y12=>if (decide (x10<(y12.length:Int)))=true then ((idx p1 x9)>>=fun y13=>(idx y13 x10)>>=fun y14=>if (decide (y14=p2))=true then ((iJ (aL.mk iC.2.2.2.1 iC.2.2.2.2.1 iC.2.2.2.2.2) (QA .i64 (pM+1)))>>=fun y15=>if y15.1=true then (Z7 p1 p2 x9 x10 (QA .i64 (pM+1)) 2 0 0 ([],x9,x10,y15.2.b,y15.2.i,y15.2.h)) else (Z7 p1 p2 x9 x10 (QA .i64 (pM+1)) qN sH rQ (iC.1,iC.2.1,iC.2.2.1,y15.2.b,y15.2.i,y15.2.h))) else (Z7 p1 p2 x9 x10 pM qN sH rQ (iC.1,iC.2.1,iC.2.2.1,iC.2.2.2.1,iC.2.2.2.2.1,iC.2.2.2.2.2))) else (aDt p1 p2 pM (QA .i64 (x9+1)) qN sH rQ (iC.1,iC.2.1,iC.2.2.1,iC.2.2.2.1,iC.2.2.2.2.1,iC.2.2.2.2.2))
  partial_fixpoint
def aDt (p1:List (List Int)) (p2:Int) (x7:Int) (x9:Int) (rD:Int) (qW:Int) (rA:Int) (gU:(List UInt8)×Int×Int×(List Int)×Int×Int):Option (aJ×aL) :=
  if (decide (x9<(p1.length:Int)))=true then (aDh p1 p2 x9 x7 0 rD qW rA (gU.1,gU.2.1,gU.2.2.1,gU.2.2.2.1,gU.2.2.2.2.1,gU.2.2.2.2.2)) else (some ((aJ.mk rD 0 false (aA.mk qW rA gU.1) gU.2.1 gU.2.2.1 ([]:List aJ) ([]:List aQ)),(aL.mk gU.2.2.2.1 gU.2.2.2.2.1 gU.2.2.2.2.2)))
  partial_fixpoint
end
def aLy (y1:aA×aL) (P5:Int) (eB:List Int) (dR:Int) (eD:Int):Option (aA×aL) :=
  some ((aA.mk y1.1.kind P5 y1.1.text),(aL.mk eB dR eD))
def aEq (p0:aL) (p1:Int):Option (aA×aL) :=
  (iJ p0 6)>>=fun y1=>if y1.1=true then (some ((aA.mk 0 0 []),y1.2)) else (if (decide (p1=2))=true then ((uW y1.2 ([[],[97],[98],[97,98]]:List (List UInt8)))>>=fun y2=>(aEi y2.1)>>=fun y3=>some (y3,y2.2)) else (if (decide (p1=3))=true then ((iJ y1.2 2)>>=fun y4=>(qV y4.1)>>=fun y5=>some (y5,y4.2)) else ((wJ y1.2)>>=fun y6=>(wT y6.1)>>=fun y7=>some (y7,y6.2))))
def aCv (p0:aL) (p1:Int):Option (aA×aL) :=
  (aEq p0 p1)>>=fun y1=>if (decide (y1.1.kind=1))=true then ((aAl y1.2 ([0,1,2,3,5,1,2,9223372036854775807]:List Int))>>=fun y2=>aLy y1 y2.1 y2.2.b y2.2.i y2.2.h) else (aLy y1 y1.1.num y1.2.b y1.2.i y1.2.h)
def aFp (p0:aL) (p1:List (List Int)) (p2:Int):Option (aJ×aL) :=
  (aCv p0 p2)>>=fun y1=>aDt p1 p2 0 0 1 y1.1.kind y1.1.num (y1.1.text,0,0,y1.2.b,y1.2.i,y1.2.h)
def fM (p0:Int) (p1:Int) (p2:Int):Option Bool :=
  (some (if (decide (p1≤p0))=true then (decide (p0≤p2)) else false))>>=fun y1=>some y1
def wC (p0:eP) (x3:List Int) (x4:Int):Option (List Int) :=
  if (decide (x4<(p0.cols.length:Int)))=true then ((idx p0.cols x4)>>=fun y1=>(appG 8 x3 ([y1.type]:List Int))>>=fun y2=>wC p0 y2 (QA .i64 (x4+1))) else (some x3)
  partial_fixpoint
def yY (p0:eP):Option (List Int) :=
  wC p0 ([]:List Int) 0
def X7 (p1:List Int) (p0:aP) (x6:List Int) (x7:Int):Option ((List Int)×Bool) :=
  if (decide (x7<(p1.length:Int)))=true then ((idx p1 x7)>>=fun y1=>(fM y1 0 (QA .i64 ((p0.tables.length:Int) - 1)))>>=fun y2=>if (!y2)=true then (some (([]:List Int),false)) else ((idx p1 x7)>>=fun y3=>(idx p0.tables y3)>>=fun y4=>(yY y4)>>=fun y5=>(appG 8 x6 y5)>>=fun y6=>X7 p1 p0 y6 (QA .i64 (x7+1)))) else (some (x6,true))
  partial_fixpoint
def D9 (p0:aP) (p1:List Int):Option ((List Int)×Bool) :=
  X7 p1 p0 ([]:List Int) 0
mutual
def xY (p2:List (List Int)) (p3:Int) (p4:Int) (p5:Int) (p1:aP) (x14:Int) (jF:(List Int)×Int×Int×(List aJ)):Option ((List aJ)×aL) :=
  if (decide (x14<p5))=true then ((rP (aL.mk jF.1 jF.2.1 jF.2.2.1) p1 p2 p3 (QA .i64 (p4 - 1)))>>=fun y1=>(appG 120 jF.2.2.2 ([y1.1]:List aJ))>>=fun y2=>xY p2 p3 p4 p5 p1 (QA .i64 (x14+1)) (y1.2.b,y1.2.i,y1.2.h,y2)) else (some (jF.2.2.2,(aL.mk jF.1 jF.2.1 jF.2.2.1)))
  partial_fixpoint
def oH (p0:aL) (p1:aP) (p2:List (List Int)) (p3:Int) (p4:Int) (p5:Int):Option ((List aJ)×aL) :=
  xY p2 p3 p4 p5 p1 0 (p0.b,p0.i,p0.h,([]:List aJ))
  partial_fixpoint
def aB3 (p2:List (List Int)) (p3:Int) (y1:Int×aL) (p1:aP) (y3:Int×aL):Option (aJ×aL) :=
  (iI y3.2 6)>>=fun y14=>(oH y14.2 p1 p2 (QA .i64 (1+y1.1)) p3 2)>>=fun y15=>some ((aJ.mk 4 (QA .i64 (3+y14.1)) false (aA.mk 0 0 []) 0 0 y15.1 ([]:List aQ)),y15.2)
  partial_fixpoint
def aFd (p2:List (List Int)) (p3:Int) (y1:Int×aL) (y2:Bool×aL) (y3:Int×aL) (p1:aP) (x18:Bool):Option (aJ×aL) :=
  if x18=true then ((iI y3.2 2)>>=fun y4=>(oH y4.2 p1 p2 3 p3 2)>>=fun y5=>some ((aJ.mk 4 (QA .i64 (1+y4.1)) false (aA.mk 0 0 []) 0 0 y5.1 ([]:List aQ)),y5.2)) else (if (decide (y3.1=2))=true then ((oH y3.2 p1 p2 3 p3 1)>>=fun y6=>some ((aJ.mk 3 15 false (aA.mk 0 0 []) 0 0 y6.1 ([]:List aQ)),y6.2)) else (if (decide (y3.1=3))=true then ((oH y3.2 p1 p2 (QA .i64 (1+y1.1)) p3 1)>>=fun y7=>some ((aJ.mk 5 0 y2.1 (aA.mk 0 0 []) 0 0 y7.1 ([]:List aQ)),y7.2)) else (if (decide (y3.1=4))=true then ((oH y3.2 p1 p2 (QA .i64 (1+y1.1)) p3 3)>>=fun y8=>some ((aJ.mk 6 0 y2.1 (aA.mk 0 0 []) 0 0 y8.1 ([]:List aQ)),y8.2)) else (if (decide (y3.1=5))=true then ((iI y3.2 3)>>=fun y9=>(oH y9.2 p1 p2 (QA .i64 (1+y1.1)) p3 (QA .i64 (2+y9.1)))>>=fun y10=>some ((aJ.mk 7 0 y2.1 (aA.mk 0 0 []) 0 0 y10.1 ([]:List aQ)),y10.2)) else (if (decide (y3.1=6))=true then (if (decide (1<p3))=true then ((oH y3.2 p1 p2 (QA .i64 (1+y1.1)) p3 1)>>=fun y11=>(yG y11.2 p1 p2 ([(QA .i64 (1+y1.1))]:List Int) (QA .i64 (p3 - 2)))>>=fun y12=>some ((aJ.mk 8 0 y2.1 (aA.mk 0 0 []) 0 0 y11.1 ([y12.1]:List aQ)),y12.2)) else (aB3 p2 p3 y1 p1 y3)) else (if (decide (y3.1=7))=true then (if (decide (1<p3))=true then ((yG y3.2 p1 p2 ([(QA .i64 (1+y1.1))]:List Int) (QA .i64 (p3 - 2)))>>=fun y13=>some ((aJ.mk 9 0 false (aA.mk 0 0 []) 0 0 ([]:List aJ) ([y13.1]:List aQ)),y13.2)) else (aB3 p2 p3 y1 p1 y3)) else (aB3 p2 p3 y1 p1 y3)))))))
  partial_fixpoint
def aOo (p0:aL) (p1:aP) (p2:List (List Int)) (p3:Int):Option (aJ×aL) :=
  (iI p0 3)>>=fun y1=>(iJ y1.2 3)>>=fun y2=>(iI y2.2 10)>>=fun y3=>if (decide (y3.1=0))=true then (aFd p2 p3 y1 y2 y3 p1 (decide (y3.1=0))) else (aFd p2 p3 y1 y2 y3 p1 (decide (y3.1=1)))
  partial_fixpoint
def rP (p0:aL) (p1:aP) (p2:List (List Int)) (p3:Int) (p4:Int):Option (aJ×aL) :=
  (if (true&&((decide (p4≤0))==false))=true then iJ p0 4 else some ((default:Bool),p0))>>=fun y1=>(some (if (decide (p4≤0))=true then true else y1.1))>>=fun y2=>if y2=true then ((iJ y1.2 3)>>=fun y3=>if y3.1=true then ((aCv y3.2 p3)>>=fun y4=>some ((aJ.mk 1 0 false y4.1 0 0 ([]:List aJ) ([]:List aQ)),y4.2)) else ((aFp y3.2 p2 p3)>>=fun y5=>some (y5.1,y5.2))) else (if (decide (p3=1))=true then ((iJ y1.2 5)>>=fun y6=>if y6.1=true then ((oH y6.2 p1 p2 p3 p4 1)>>=fun y7=>some ((aJ.mk 3 16 false (aA.mk 0 0 []) 0 0 y7.1 ([]:List aQ)),y7.2)) else ((iI y6.2 5)>>=fun y8=>(oH y8.2 p1 p2 p3 p4 2)>>=fun y9=>some ((aJ.mk 4 (QA .i64 (10+y8.1)) false (aA.mk 0 0 []) 0 0 y9.1 ([]:List aQ)),y9.2))) else (if (decide (p3=2))=true then ((oH y1.2 p1 p2 p3 p4 2)>>=fun y10=>some ((aJ.mk 4 9 false (aA.mk 0 0 []) 0 0 y10.1 ([]:List aQ)),y10.2)) else ((aOo y1.2 p1 p2 p4)>>=fun y11=>some (y11.1,y11.2))))
  partial_fixpoint
def P7 (p4:Int) (y15:List (List Int)) (p1:aP) (y1:Bool×aL) (gN:List (List UInt8)) (gM:List aJ) (jU:(List (List aJ))×(List Int)×(List Int)×Int×Int×(List aJ)):Option (aQ×aL) :=
  (iJ (aL.mk jU.2.2.1 jU.2.2.2.1 jU.2.2.2.2.1) 3)>>=fun y30=>if y30.1=true then ((iI y30.2 3)>>=fun y31=>(rP y31.2 p1 y15 (QA .i64 (1+y31.1)) p4)>>=fun y32=>(iJ y32.2 2)>>=fun y33=>(appG 128 ([]:List dV) ([(dV.mk y32.1 y33.1)]:List dV))>>=fun y34=>Z6 y1 jU.2.2.2.2.2 gN gM jU.1 jU.2.1 y33.2.b y33.2.i y33.2.h y34) else (Z6 y1 jU.2.2.2.2.2 gN gM jU.1 jU.2.1 y30.2.b y30.2.i y30.2.h ([]:List dV))
  partial_fixpoint
def xN (p3:List Int) (p4:Int) (y15:List (List Int)) (p1:aP) (y1:Bool×aL) (gH:List (List aJ)) (gL:List Int) (kx20:Int×(List Int)×Int×Int×(((List (List UInt8))×(List aJ)))):Option (aQ×aL) :=
  if (decide (kx20.1<(p3.length:Int)))=true then ((idx p3 kx20.1)>>=fun y20=>(rP (aL.mk kx20.2.1 kx20.2.2.1 kx20.2.2.2.1) p1 y15 y20 p4)>>=fun y21=>(appG 120 kx20.2.2.2.2.2 ([y21.1]:List aJ))>>=fun y22=>(uW y21.2 ([[97],[98],[99],[120],[121,32,122],[99,49]]:List (List UInt8)))>>=fun y23=>(appG 16 kx20.2.2.2.2.1 ([y23.1]:List (List UInt8)))>>=fun y24=>xN p3 p4 y15 p1 y1 gH gL ((QA .i64 (kx20.1+1)),y23.2.b,y23.2.i,y23.2.h,y24,y22)) else ((iJ (aL.mk kx20.2.1 kx20.2.2.1 kx20.2.2.2.1) 2)>>=fun y25=>if y25.1=true then ((rP y25.2 p1 y15 3 p4)>>=fun y26=>P7 p4 y15 p1 y1 kx20.2.2.2.2.1 kx20.2.2.2.2.2 (gH,gL,y26.2.b,y26.2.i,y26.2.h,([y26.1]:List aJ))) else (P7 p4 y15 p1 y1 kx20.2.2.2.2.1 kx20.2.2.2.2.2 (gH,gL,y25.2.b,y25.2.i,y25.2.h,([]:List aJ))))
  partial_fixpoint
def Y9 (p2:List (List Int)) (p3:List Int) (p4:Int) (y2:Int×aL) (x13:Int) (p1:aP) (y1:Bool×aL) (ky4:(List Int)×(((List (List aJ))×(List Int)×Int×Int×(List aJ)))):Option (aQ×aL) :=
  (appG 24 ky4.2.1 ([ky4.2.2.2.2.2]:List (List aJ)))>>=fun y19=>vD p2 p3 p4 y2 p1 y1 ((QA .i64 (x13+1)),ky4.2.2.1,ky4.2.2.2.1,ky4.2.2.2.2.1,y19,ky4.1)
  partial_fixpoint
def vD (p2:List (List Int)) (p3:List Int) (p4:Int) (y2:Int×aL) (p1:aP) (y1:Bool×aL) (kx13:Int×(List Int)×Int×Int×(((List (List aJ))×(List Int)))):Option (aQ×aL) :=
  if (decide (kx13.1<(QA .i64 (1+y2.1))))=true then ((iI (aL.mk kx13.2.1 kx13.2.2.1 kx13.2.2.2.1) (p1.tables.length:Int))>>=fun y3=>(appG 8 kx13.2.2.2.2.2 ([y3.1]:List Int))>>=fun y4=>(D9 p1 y4)>>=fun y5=>(if (true&&((decide (0<kx13.1))==true))=true then iJ y3.2 2 else some ((default:Bool),y3.2))>>=fun y6=>(some (if (decide (0<kx13.1))=true then y6.1 else false))>>=fun y7=>if y7=true then ((U5 y5.1 p2)>>=fun y8=>(rP y6.2 p1 y8 3 p4)>>=fun y9=>(appG 120 ([]:List aJ) ([y9.1]:List aJ))>>=fun y10=>Y9 p2 p3 p4 y2 kx13.1 p1 y1 (y4,kx13.2.2.2.2.1,y9.2.b,y9.2.i,y9.2.h,y10)) else (Y9 p2 p3 p4 y2 kx13.1 p1 y1 (y4,kx13.2.2.2.2.1,y6.2.b,y6.2.i,y6.2.h,([]:List aJ)))) else ((D9 p1 kx13.2.2.2.2.2)>>=fun y14=>(U5 y14.1 p2)>>=fun y15=>xN p3 p4 y15 p1 y1 kx13.2.2.2.2.1 kx13.2.2.2.2.2 (0,kx13.2.1,kx13.2.2.1,kx13.2.2.2.1,([]:List (List UInt8)),([]:List aJ)))
  partial_fixpoint
def yG (p0:aL) (p1:aP) (p2:List (List Int)) (p3:List Int) (p4:Int):Option (aQ×aL) :=
  (iJ p0 4)>>=fun y1=>(iI y1.2 2)>>=fun y2=>vD p2 p3 p4 y2 p1 y1 (0,y2.2.b,y2.2.i,y2.2.h,([]:List (List aJ)),([]:List Int))
  partial_fixpoint
end
def aFv (p1:Int) (y1:aP×aL) (x7:List Int) (eB:List Int) (dR:Int) (eD:Int):Option (aP×aQ×aL) :=
  (yG (aL.mk eB dR eD) y1.1 ([]:List (List Int)) x7 p1)>>=fun y6=>some (y1.1,y6.1,y6.2)
def aM4 (p0:aL) (p1:Int):Option (aP×aQ×aL) :=
  (aKe p0)>>=fun y1=>(iI y1.2 3)>>=fun y2=>(iJ y2.2 2)>>=fun y3=>if y3.1=true then ((iI y3.2 3)>>=fun y4=>(appG 8 ([(QA .i64 (1+y2.1))]:List Int) ([(QA .i64 (1+y4.1))]:List Int))>>=fun y5=>aFv p1 y1 y5 y4.2.b y4.2.i y4.2.h) else (aFv p1 y1 ([(QA .i64 (1+y2.1))]:List Int) y3.2.b y3.2.i y3.2.h)
def aIo (p0:aL) (p1:Int):Option (aA×aL) :=
  (if (true&&((decide (p1=1))==true))=true then iJ p0 12 else some ((default:Bool),p0))>>=fun y1=>(some (if (decide (p1=1))=true then (!y1.1) else false))>>=fun y2=>if y2=true then ((iI y1.2 5)>>=fun y3=>(wT (QA .i64 (y3.1 - 1)))>>=fun y4=>some (y4,y3.2)) else ((aEq y1.2 p1)>>=fun y5=>some (y5.1,y5.2))
mutual
def O8 (x6:Int) (y1:Int×aL) (x9:Int) (p1:aP) (gK:List (List aA)) (bX:List fI) (x10:List aA) (kx11:Int×(List Int)×Int×Int):Option (GDb×aL) :=
  (idx p1.tables x6)>>=fun y9=>if (decide (kx11.1<(y9.cols.length:Int)))=true then ((idx p1.tables x6)>>=fun y10=>(idx y10.cols kx11.1)>>=fun y11=>(aIo (aL.mk kx11.2.1 kx11.2.2.1 kx11.2.2.2) y11.type)>>=fun y12=>(appG 32 x10 ([y12.1]:List aA))>>=fun y13=>O8 x6 y1 x9 p1 gK bX y13 ((QA .i64 (kx11.1+1)),y12.2.b,y12.2.i,y12.2.h)) else ((appG 24 gK ([x10]:List (List aA)))>>=fun y14=>N8 x6 y1 p1 bX (QA .i64 (x9+1)) y14 (kx11.2.1,kx11.2.2.1,kx11.2.2.2))
  partial_fixpoint
def N8 (x6:Int) (y1:Int×aL) (p1:aP) (bX:List fI) (x9:Int) (gK:List (List aA)) (mK:(List Int)×Int×Int):Option (GDb×aL) :=
  if (decide (x9<y1.1))=true then (O8 x6 y1 x9 p1 gK bX ([]:List aA) (0,mK.1,mK.2.1,mK.2.2)) else ((appG 24 bX ([(fI.mk gK)]:List fI))>>=fun y8=>aCn p1 (QA .i64 (x6+1)) mK.1 mK.2.1 mK.2.2 y8)
  partial_fixpoint
def aCn (p1:aP) (x6:Int) (eB:List Int) (dR:Int) (eD:Int) (bX:List fI):Option (GDb×aL) :=
  if (decide (x6<(p1.tables.length:Int)))=true then ((iI (aL.mk eB dR eD) 5)>>=fun y1=>N8 x6 y1 p1 bX 0 ([]:List (List aA)) (y1.2.b,y1.2.i,y1.2.h)) else (some ((GDb.mk bX),(aL.mk eB dR eD)))
  partial_fixpoint
end
def aLi (p0:aL) (p1:aP):Option (GDb×aL) :=
  aCn p1 0 p0.b p0.i p0.h ([]:List fI)
def aJr (p0:List Int):Option (aL×aP×GDb×aQ) :=
  (aK1 p0)>>=fun y1=>(aJ3 p0 4)>>=fun y2=>(iI y1 y2)>>=fun y3=>(aM4 y3.2 y3.1)>>=fun y4=>(aLi y4.2.2 y4.1)>>=fun y5=>some (y5.2,y4.1,y5.1,y4.2.1)
def aJo (p0:List Int):Option (aP×GDb×aQ) :=
  (aJr p0)>>=fun y1=>(iJ y1.1 8)>>=fun y2=>if y2.1=true then ((idx y1.2.2.2.items 0)>>=fun y3=>(aD5 y2.2 y3)>>=fun y4=>aH9 y1 y4.2.b y4.2.i y4.2.h (y1.2.2.2.items.set (0:Int).toNat y4.1)) else (aH9 y1 y2.2.b y2.2.i y2.2.h y1.2.2.2.items)
def pV (p0:List UInt8):Option Bool :=
  (fM (p0.length:Int) 1 20)>>=fun y1=>some y1
def Z4 (p1:List UInt8) (p0:aP) (x5:Int):Option Int :=
  if (decide (x5<(p0.tables.length:Int)))=true then ((idx p0.tables x5)>>=fun y1=>if (decide (y1.name=p1))=true then (some x5) else (Z4 p1 p0 (QA .i64 (x5+1)))) else (some (-1))
  partial_fixpoint
def wN (p0:aP) (p1:List UInt8):Option Int :=
  Z4 p1 p0 0
mutual
def yU (x3:Int) (p0:aP) (y1:eP) (x5:Int):Option Bool :=
  if (decide (x5<(y1.cols.length:Int)))=true then ((idx y1.cols x5)>>=fun y7=>(pV y7.name)>>=fun y8=>(if (true&&((!y8)==false))=true then idx y1.cols x5 else some default)>>=fun y9=>(if (true&&((!y8)==false))=true then xQ y1 y9.name else some default)>>=fun y10=>(some (if (!y8)=true then true else (!decide (y10=x5))))>>=fun y11=>(if (true&&(y11==false))=true then idx y1.cols x5 else some default)>>=fun y12=>(if (true&&(y11==false))=true then fM y12.type 1 3 else some default)>>=fun y13=>(some (if y11=true then true else (!y13)))>>=fun y14=>if y14=true then (some false) else (yU x3 p0 y1 (QA .i64 (x5+1)))) else (Y6 p0 (QA .i64 (x3+1)))
  partial_fixpoint
def Y6 (p0:aP) (x3:Int):Option Bool :=
  if (decide (x3<(p0.tables.length:Int)))=true then ((idx p0.tables x3)>>=fun y1=>(pV y1.name)>>=fun y2=>(if (true&&((!y2)==false))=true then wN p0 y1.name else some default)>>=fun y3=>(some (if (!y2)=true then true else (!decide (y3=x3))))>>=fun y4=>(if (true&&(y4==false))=true then fM (y1.cols.length:Int) 1 4 else some default)>>=fun y5=>(some (if y4=true then true else (!y5)))>>=fun y6=>if y6=true then (some false) else (yU x3 p0 y1 0)) else (some true)
  partial_fixpoint
end
def aHf (p0:aP):Option Bool :=
  if (decide (4<(p0.tables.length:Int)))=true then (some false) else (Y6 p0 0)
def kU (p0:aA):Option Bool :=
  if (decide (p0.kind=0))=true then ((some (if (decide (p0.num=0))=true then (decide (p0.text=[])) else false))>>=fun y1=>some y1) else (if (decide (p0.kind=1))=true then (some (decide (p0.text=[]))) else (if (decide (p0.kind=2))=true then ((some (if (decide (p0.num=0))=true then (decide ((p0.text.length:Int)≤200)) else false))>>=fun y2=>some y2) else (if (decide (p0.kind=3))=true then ((fM p0.num 0 1)>>=fun y3=>(some (if y3=true then (decide (p0.text=[])) else false))>>=fun y4=>some y4) else (some false))))
def aG1 (p0:aA) (p1:Int):Option Bool :=
  (kU p0)>>=fun y1=>(if (true&&(y1==true))=true then some (if (decide (p0.kind=0))=true then true else (decide (p0.kind=p1))) else some default)>>=fun y2=>(some (if y1=true then y2 else false))>>=fun y3=>some y3
def V4 (p0:List aA) (p1:List Int) (x5:Int):Option Bool :=
  if (decide (x5<(p0.length:Int)))=true then ((idx p0 x5)>>=fun y1=>(idx p1 x5)>>=fun y2=>(aG1 y1 y2)>>=fun y3=>if (!y3)=true then (some false) else (V4 p0 p1 (QA .i64 (x5+1)))) else (some true)
  partial_fixpoint
def aFm (p0:List aA) (p1:List Int):Option Bool :=
  if (!decide ((p0.length:Int)=(p1.length:Int)))=true then (some false) else (V4 p0 p1 0)
mutual
def zY (x5:Int) (p0:aP) (p1:GDb) (x6:Int):Option Bool :=
  (idx p1.tables x5)>>=fun y4=>if (decide (x6<(y4.rows.length:Int)))=true then ((idx p1.tables x5)>>=fun y5=>(idx y5.rows x6)>>=fun y6=>(idx p0.tables x5)>>=fun y7=>(yY y7)>>=fun y8=>(aFm y6 y8)>>=fun y9=>if (!y9)=true then (some false) else (zY x5 p0 p1 (QA .i64 (x6+1)))) else (aDk p0 p1 (QA .i64 (x5+1)))
  partial_fixpoint
def aDk (p0:aP) (p1:GDb) (x5:Int):Option Bool :=
  if (decide (x5<(p1.tables.length:Int)))=true then ((idx p1.tables x5)>>=fun y3=>if (decide (6<(y3.rows.length:Int)))=true then (some false) else (zY x5 p0 p1 0)) else (some true)
  partial_fixpoint
end
def aA5 (p0:aP) (p1:GDb):Option Bool :=
  (aHf p0)>>=fun y1=>(some (if (!y1)=true then true else (!decide ((p1.tables.length:Int)=(p0.tables.length:Int)))))>>=fun y2=>if y2=true then (some false) else (aDk p0 p1 0)
def aAv (p0:List aA):Option (List aA) :=
  (appG 32 ([]:List aA) p0)>>=fun y1=>some y1
def aPg (p0:Int) (p1:Int):Option (Int×Bool) :=
  (some (if (decide (0<p1))=true then (decide ((QA .i64 (9223372036854775807 - p1))<p0)) else false))>>=fun y1=>(if (true&&(y1==false))=true then some (if (decide (p1<0))=true then (decide (p0<(QA .i64 ((-9223372036854775808) - p1)))) else false) else some default)>>=fun y2=>(some (if y1=true then true else y2))>>=fun y3=>if y3=true then (some (0,false)) else (some ((QA .i64 (p0+p1)),true))
def aBd (p0:Int) (p1:Int):Option Bool :=
  if (decide (p0=3))=true then (some (decide (p1=0))) else (if (decide (p0=4))=true then (some (!decide (p1=0))) else (if (decide (p0=5))=true then (some (decide (p1<0))) else (if (decide (p0=6))=true then (some (decide (p1≤0))) else (if (decide (p0=7))=true then (some (decide (0<p1))) else (some (decide (0≤p1)))))))
def I9 (p0:Int) (p1:Bool):Option (aA×Int) :=
  if (!p1)=true then (some ((aA.mk 0 0 []),2)) else ((wT p0)>>=fun y1=>some (y1,0))
def aF2 (p0:Int) (p1:Int):Option (Int×Bool) :=
  (some (if (decide (p1<0))=true then (decide ((QA .i64 (9223372036854775807+p1))<p0)) else false))>>=fun y1=>(if (true&&(y1==false))=true then some (if (decide (0<p1))=true then (decide (p0<(QA .i64 ((-9223372036854775808)+p1)))) else false) else some default)>>=fun y2=>(some (if y1=true then true else y2))>>=fun y3=>if y3=true then (some (0,false)) else (some ((QA .i64 (p0 - p1)),true))
def aLj (p0:Int) (p1:Int) (p2:Int):Option (aA×Int) :=
  if (decide (p2=0))=true then (some ((aA.mk 0 0 []),3)) else (if (decide (p2=(-1)))=true then (if (decide (p0=14))=true then ((wT 0)>>=fun y1=>some (y1,0)) else ((aF2 0 p1)>>=fun y2=>(I9 y2.1 y2.2)>>=fun y3=>some (y3.1,y3.2))) else (if (decide (p0=14))=true then ((yE p1 p2)>>=fun y4=>(wT y4)>>=fun y5=>some (y5,0)) else ((xZ .i64 p1 p2)>>=fun y6=>(wT y6)>>=fun y7=>some (y7,0))))
def vG (p0:aA) (p1:aA):Option Int :=
  if (decide (p0.kind<p1.kind))=true then (some (-1)) else (if (decide (p1.kind<p0.kind))=true then (some 1) else (if (decide (p0.num<p1.num))=true then (some (-1)) else (if (decide (p1.num<p0.num))=true then (some 1) else (if (Op.bytesLess p0.text p1.text)=true then (some (-1)) else (if (!(Op.bytesLess p0.text p1.text||decide (p0.text=p1.text)))=true then (some 1) else (some 0))))))
def aGw (p0:Int) (p1:aA) (p2:aA) (V5:Bool):Option (aA×Int) :=
  if V5=true then ((aLj p0 p1.num p2.num)>>=fun y19=>some (y19.1,y19.2)) else ((vG p1 p2)>>=fun y20=>(aBd p0 y20)>>=fun y21=>(qV y21)>>=fun y22=>some (y22,0))
def vF (p0:aA):Option Bool :=
  some (decide (p0.kind=0))
def vT (p0:aA) (p1:Int):Option Bool :=
  (if (true&&((decide (p0.kind=p1))==false))=true then vF p0 else some default)>>=fun y1=>(some (if (decide (p0.kind=p1))=true then true else y1))>>=fun y2=>some y2
def aIr (p0:Int) (p1:aA) (p2:aA):Option (aA×Int) :=
  (vT p1 3)>>=fun y1=>(if (true&&((!y1)==false))=true then vT p2 3 else some default)>>=fun y2=>(some (if (!y1)=true then true else (!y2)))>>=fun y3=>if y3=true then (some ((aA.mk 0 0 []),1)) else ((qV (decide (p0=1)))>>=fun y4=>(some (if ((decide (p1.kind=y4.kind))&&((decide (p1.num=y4.num))&&((decide (p1.text=y4.text))&&true)))=true then true else ((decide (p2.kind=y4.kind))&&((decide (p2.num=y4.num))&&((decide (p2.text=y4.text))&&true)))))>>=fun y5=>if y5=true then (some (y4,0)) else ((vF p1)>>=fun y6=>(if (true&&(y6==false))=true then vF p2 else some default)>>=fun y7=>(some (if y6=true then true else y7))>>=fun y8=>if y8=true then (some ((aA.mk 0 0 []),0)) else ((qV (decide (p0=2)))>>=fun y9=>some (y9,0))))
def aH6 (p0:Int) (p1:aA) (p2:aA):Option Bool :=
  if (decide (p0=9))=true then ((vT p1 2)>>=fun y1=>(if (true&&(y1==true))=true then vT p2 2 else some default)>>=fun y2=>(some (if y1=true then y2 else false))>>=fun y3=>some y3) else (if (decide (10≤p0))=true then ((vT p1 1)>>=fun y4=>(if (true&&(y4==true))=true then vT p2 1 else some default)>>=fun y5=>(some (if y4=true then y5 else false))>>=fun y6=>some y6) else ((if (true&&((decide (p1.kind=p2.kind))==false))=true then vF p1 else some default)>>=fun y7=>(some (if (decide (p1.kind=p2.kind))=true then true else y7))>>=fun y8=>(if (true&&(y8==false))=true then vF p2 else some default)>>=fun y9=>(some (if y8=true then true else y9))>>=fun y10=>some y10))
def aIk (p0:Int) (p1:Int):Option (Int×Bool) :=
  (some (if (decide (p0=0))=true then true else (decide (p1=0))))>>=fun y1=>if y1=true then (some (0,true)) else ((some (if (decide (p0=(-1)))=true then (decide (p1=(-9223372036854775808))) else false))>>=fun y2=>(if (true&&(y2==false))=true then some (if (decide (p1=(-1)))=true then (decide (p0=(-9223372036854775808))) else false) else some default)>>=fun y3=>(some (if y2=true then true else y3))>>=fun y4=>if y4=true then (some (0,false)) else ((xZ .i64 (QA .i64 (p0 * p1)) p1)>>=fun y5=>if (!decide (y5=p0))=true then (some (0,false)) else (some ((QA .i64 (p0 * p1)),true))))
def qU (p0:Int) (p1:aA) (p2:aA):Option (aA×Int) :=
  (fM p0 1 14)>>=fun y1=>(if (true&&((!y1)==false))=true then kU p1 else some default)>>=fun y2=>(some (if (!y1)=true then true else (!y2)))>>=fun y3=>(if (true&&(y3==false))=true then kU p2 else some default)>>=fun y4=>(some (if y3=true then true else (!y4)))>>=fun y5=>if y5=true then (some ((aA.mk 0 0 []),1)) else (if (decide (p0≤2))=true then ((aIr p0 p1 p2)>>=fun y6=>some (y6.1,y6.2)) else ((aH6 p0 p1 p2)>>=fun y7=>if (!y7)=true then (some ((aA.mk 0 0 []),1)) else ((vF p1)>>=fun y8=>(if (true&&(y8==false))=true then vF p2 else some default)>>=fun y9=>(some (if y8=true then true else y9))>>=fun y10=>if y10=true then (some ((aA.mk 0 0 []),0)) else (if (decide (p0=9))=true then (if (decide (200<(QA .i64 ((p1.text.length:Int)+(p2.text.length:Int)))))=true then (some ((aA.mk 0 0 []),2)) else ((pW p1.text p2.text)>>=fun y11=>(aEi y11)>>=fun y12=>some (y12,0))) else (if (decide (p0=10))=true then ((aPg p1.num p2.num)>>=fun y13=>(I9 y13.1 y13.2)>>=fun y14=>some (y14.1,y14.2)) else (if (decide (p0=11))=true then ((aF2 p1.num p2.num)>>=fun y15=>(I9 y15.1 y15.2)>>=fun y16=>some (y16.1,y16.2)) else (if (decide (p0=12))=true then ((aIk p1.num p2.num)>>=fun y17=>(I9 y17.1 y17.2)>>=fun y18=>some (y18.1,y18.2)) else (if (decide (p0=13))=true then (aGw p0 p1 p2 (decide (p0=13))) else (aGw p0 p1 p2 (decide (p0=14)))))))))))
def aJ0 (p0:aA) (p1:aA) (p2:aA):Option (aA×Int) :=
  (qU 8 p0 p1)>>=fun y1=>if (!decide (y1.2=0))=true then (some ((aA.mk 0 0 []),y1.2)) else ((qU 6 p0 p2)>>=fun y2=>if (!decide (y2.2=0))=true then (some ((aA.mk 0 0 []),y2.2)) else ((qU 2 y1.1 y2.1)>>=fun y3=>some (y3.1,y3.2)))
def aGu (p0:Int) (p1:aA):Option (aA×Int) :=
  (kU p1)>>=fun y1=>if (!y1)=true then (some ((aA.mk 0 0 []),1)) else (if (decide (p0=15))=true then ((vT p1 3)>>=fun y2=>if (!y2)=true then (some ((aA.mk 0 0 []),1)) else ((vF p1)>>=fun y3=>if y3=true then (some (p1,0)) else ((qV (decide (p1.num=0)))>>=fun y4=>some (y4,0)))) else (if (decide (p0=16))=true then ((vT p1 1)>>=fun y5=>if (!y5)=true then (some ((aA.mk 0 0 []),1)) else ((vF p1)>>=fun y6=>if y6=true then (some (p1,0)) else ((aF2 0 p1.num)>>=fun y7=>(I9 y7.1 y7.2)>>=fun y8=>some (y8.1,y8.2)))) else (some ((aA.mk 0 0 []),1))))
def aD0 (p0:aJ) (p1:aA) (p2:Int):Option (aA×Int) :=
  if (!decide (p2=0))=true then (some ((aA.mk 0 0 []),p2)) else (if p0.not_=true then ((aGu 15 p1)>>=fun y1=>some (y1.1,y1.2)) else (some (p1,0)))
def aAb (p1:List aA) (p0:aA) (x7:Int) (jC:Int) (jA:Int) (iZ:List UInt8):Option (aA×Int) :=
  if (decide (x7<(p1.length:Int)))=true then ((idx p1 x7)>>=fun y2=>(qU 3 p0 y2)>>=fun y3=>if (!decide (y3.2=0))=true then (some ((aA.mk 0 0 []),y3.2)) else ((qU 1 (aA.mk jC jA iZ) y3.1)>>=fun y4=>aAb p1 p0 (QA .i64 (x7+1)) y4.1.kind y4.1.num y4.1.text)) else (some ((aA.mk jC jA iZ),0))
  partial_fixpoint
def aFz (p0:aA) (p1:List aA):Option (aA×Int) :=
  (qV false)>>=fun y1=>aAb p1 p0 0 y1.kind y1.num y1.text
def H5 (x10:List aA) (x14:List (List aA)) (p3:aJ) (x21:List aA) (x22:Int):Option (aA×Int) :=
  if (decide (x22<(x14.length:Int)))=true then ((idx x14 x22)>>=fun y30=>if (decide ((y30.length:Int)=0))=true then (some ((aA.mk 0 0 []),4)) else ((idx x14 x22)>>=fun y31=>(idx y31 0)>>=fun y32=>(appG 32 x21 ([y32]:List aA))>>=fun y33=>H5 x10 x14 p3 y33 (QA .i64 (x22+1)))) else ((idx x10 0)>>=fun y34=>(aFz y34 x21)>>=fun y35=>(aD0 p3 y35.1 y35.2)>>=fun y36=>some (y36.1,y36.2))
  partial_fixpoint
def vP (p2:List (List aA)) (x10:List aA) (p3:aJ) (x14:List (List aA)):Option (aA×Int) :=
  if (decide (p3.kind=1))=true then (some (p3.value,0)) else (if (decide (p3.kind=2))=true then ((fM p3.up 0 (QA .i64 ((p2.length:Int) - 1)))>>=fun y7=>(if (true&&((!y7)==false))=true then idx p2 p3.up else some default)>>=fun y8=>(if (true&&((!y7)==false))=true then fM p3.at_ 0 (QA .i64 ((y8.length:Int) - 1)) else some default)>>=fun y9=>(some (if (!y7)=true then true else (!y9)))>>=fun y10=>if y10=true then (some ((aA.mk 0 0 []),4)) else ((idx p2 p3.up)>>=fun y11=>(idx y11 p3.at_)>>=fun y12=>some (y12,0))) else (if (decide (p3.kind=3))=true then ((idx x10 0)>>=fun y13=>(aGu p3.op y13)>>=fun y14=>some (y14.1,y14.2)) else (if (decide (p3.kind=4))=true then ((idx x10 0)>>=fun y15=>(idx x10 1)>>=fun y16=>(qU p3.op y15 y16)>>=fun y17=>some (y17.1,y17.2)) else (if (decide (p3.kind=5))=true then ((idx x10 0)>>=fun y18=>(qV (!((decide (y18.kind=0))==p3.not_)))>>=fun y19=>some (y19,0)) else (if (decide (p3.kind=6))=true then ((idx x10 0)>>=fun y20=>(idx x10 1)>>=fun y21=>(idx x10 2)>>=fun y22=>(aJ0 y20 y21 y22)>>=fun y23=>(aD0 p3 y23.1 y23.2)>>=fun y24=>some (y24.1,y24.2)) else (if (decide (p3.kind=7))=true then ((idx x10 0)>>=fun y25=>(iR x10 1 (x10.length:Int))>>=fun y26=>(aFz y25 y26)>>=fun y27=>(aD0 p3 y27.1 y27.2)>>=fun y28=>some (y28.1,y28.2)) else (if (decide (p3.kind=9))=true then ((qV (decide (0<(x14.length:Int))))>>=fun y29=>some (y29,0)) else (H5 x10 x14 p3 ([]:List aA) 0))))))))
def aKs (p0:aJ) (x20:Bool):Option Bool :=
  if x20=true then ((some (if (decide ((p0.kids.length:Int)=1))=true then (decide ((p0.sub.length:Int)=0)) else false))>>=fun y1=>some y1) else (if (decide (p0.kind=4))=true then ((some (if (decide ((p0.kids.length:Int)=2))=true then (decide ((p0.sub.length:Int)=0)) else false))>>=fun y2=>some y2) else (if (decide (p0.kind=6))=true then ((some (if (decide ((p0.kids.length:Int)=3))=true then (decide ((p0.sub.length:Int)=0)) else false))>>=fun y3=>some y3) else (if (decide (p0.kind=7))=true then ((fM (p0.kids.length:Int) 2 9)>>=fun y4=>(some (if y4=true then (decide ((p0.sub.length:Int)=0)) else false))>>=fun y5=>some y5) else (if (decide (p0.kind=8))=true then ((some (if (decide ((p0.kids.length:Int)=1))=true then (decide ((p0.sub.length:Int)=1)) else false))>>=fun y6=>some y6) else (if (decide (p0.kind=9))=true then ((some (if (decide ((p0.kids.length:Int)=0))=true then (decide ((p0.sub.length:Int)=1)) else false))>>=fun y7=>some y7) else (some false))))))
def aKt (p0:aJ) (x13:Bool):Option Bool :=
  if x13=true then (some (decide ((QA .i64 ((p0.kids.length:Int)+(p0.sub.length:Int)))=0))) else (if (decide (p0.kind=3))=true then (aKs p0 (decide (p0.kind=3))) else (aKs p0 (decide (p0.kind=5))))
def aJa (p0:aJ):Option Bool :=
  if (decide (p0.kind=1))=true then (aKt p0 (decide (p0.kind=1))) else (aKt p0 (decide (p0.kind=2)))
def aIy (p0:aA):Option Bool :=
  (some (if (decide (p0.kind=3))=true then (decide (p0.num=1)) else false))>>=fun y1=>some y1
def aB1 (p0:List aA) (p1:List (List aA)):Option (List (List aA)) :=
  (appG 24 ([p0]:List (List aA)) p1)>>=fun y1=>some y1
def R6 (p0:GDb) (p1:aQ) (x5:Int):Option Bool :=
  if (decide (x5<(p1.tables.length:Int)))=true then ((idx p1.tables x5)>>=fun y2=>(fM y2 0 (QA .i64 ((p0.tables.length:Int) - 1)))>>=fun y3=>if (!y3)=true then (some false) else (R6 p0 p1 (QA .i64 (x5+1)))) else (some true)
  partial_fixpoint
def aLk (p0:GDb) (p1:aQ):Option Bool :=
  (some (if (decide ((p1.tables.length:Int)=0))=true then true else (!decide ((p1.on_.length:Int)=(p1.tables.length:Int)))))>>=fun y1=>if y1=true then (some false) else (R6 p0 p1 0)
mutual
def aBa (p0:List aA) (p1:List aA) (p2:List dV) (x7:Int) (x8:Int):Option Bool :=
  if (!decide (x8=0))=true then (some (decide (x8<0))) else (aDq p0 p1 p2 (QA .i64 (x7+1)))
  partial_fixpoint
def aDq (p0:List aA) (p1:List aA) (p2:List dV) (x7:Int):Option Bool :=
  if (decide (x7<(p2.length:Int)))=true then ((idx p0 x7)>>=fun y1=>(idx p1 x7)>>=fun y2=>(vG y1 y2)>>=fun y3=>(idx p2 x7)>>=fun y4=>if y4.desc=true then (aBa p0 p1 p2 x7 (QA .i64 (0 - y3))) else (aBa p0 p1 p2 x7 y3)) else (some false)
  partial_fixpoint
end
def aJs (p0:List aA) (p1:List aA) (p2:List dV):Option Bool :=
  aDq p0 p1 p2 0
def aAa (p0:List aA) (p1:List aA) (x5:Int):Option Bool :=
  if (decide (x5<(p0.length:Int)))=true then ((idx p0 x5)>>=fun y1=>(idx p1 x5)>>=fun y2=>if (!((decide (y1.kind=y2.kind))&&((decide (y1.num=y2.num))&&((decide (y1.text=y2.text))&&true))))=true then (some false) else (aAa p0 p1 (QA .i64 (x5+1)))) else (some true)
  partial_fixpoint
def aKo (p0:List aA) (p1:List aA):Option Bool :=
  if (!decide ((p0.length:Int)=(p1.length:Int)))=true then (some false) else (aAa p0 p1 0)
mutual
def L6 (p0:List (List aA)) (x4:Int) (uL:List (List aA)):Option (List (List aA)) :=
  aB6 p0 uL (QA .i64 (x4+1))
  partial_fixpoint
def aDm (p0:List (List aA)) (x3:List (List aA)) (x4:Int) (x5:Bool) (x6:Int):Option (List (List aA)) :=
  if (decide (x6<(x3.length:Int)))=true then ((if (true&&(x5==false))=true then idx x3 x6 else some default)>>=fun y1=>(if (true&&(x5==false))=true then idx p0 x4 else some default)>>=fun y2=>(if (true&&(x5==false))=true then aKo y1 y2 else some default)>>=fun y3=>(some (if x5=true then true else y3))>>=fun y4=>aDm p0 x3 x4 y4 (QA .i64 (x6+1))) else (if (!x5)=true then ((idx p0 x4)>>=fun y5=>(aAv y5)>>=fun y6=>(appG 24 x3 ([y6]:List (List aA)))>>=fun y7=>L6 p0 x4 y7) else (L6 p0 x4 x3))
  partial_fixpoint
def aB6 (p0:List (List aA)) (x3:List (List aA)) (x4:Int):Option (List (List aA)) :=
  if (decide (x4<(p0.length:Int)))=true then (aDm p0 x3 x4 false 0) else (some x3)
  partial_fixpoint
end
def aGr (p0:List (List aA)):Option (List (List aA)) :=
  aB6 p0 ([]:List (List aA)) 0
def aJg (V9:List (List aA)):Option ((List (List aA))×Int) :=
  some (V9,0)
def O4 (p3:aQ) (vY:List (List aA)):Option ((List (List aA))×Int) :=
  (some (if (decide (0≤p3.limit))=true then (decide (p3.limit<(vY.length:Int))) else false))>>=fun y8=>if y8=true then ((iR vY 0 p3.limit)>>=fun y9=>aJg y9) else (aJg vY)
mutual
def aBn (p2:List (List aA)) (p3:List (List aA)) (p4:List aJ) (x12:List (List aA)) (x13:Int) (p0:aP) (kp1:GDb×(List aA)×Int):Option ((List (List aA))×Int) :=
  if (decide (kp1.2.2<(p4.length:Int)))=true then ((idx p3 x13)>>=fun y1=>(aB1 y1 p2)>>=fun y2=>(idx p4 kp1.2.2)>>=fun y3=>(fT p0 kp1.1 y2 y3)>>=fun y4=>if (!decide (y4.2=0))=true then (some (([]:List (List aA)),y4.2)) else ((appG 32 kp1.2.1 ([y4.1]:List aA))>>=fun y5=>aBn p2 p3 p4 x12 x13 p0 (kp1.1,y5,(QA .i64 (kp1.2.2+1))))) else ((appG 24 x12 ([kp1.2.1]:List (List aA)))>>=fun y6=>aAn p2 p3 p4 p0 kp1.1 y6 (QA .i64 (x13+1)))
  partial_fixpoint
def aAn (p2:List (List aA)) (p3:List (List aA)) (p4:List aJ) (p0:aP) (p1:GDb) (x12:List (List aA)) (x13:Int):Option ((List (List aA))×Int) :=
  if (decide (x13<(p3.length:Int)))=true then (aBn p2 p3 p4 x12 x13 p0 (p1,([]:List aA),0)) else (some (x12,0))
  partial_fixpoint
def aIh (p0:aP) (p1:GDb) (p2:List (List aA)) (p3:List (List aA)) (p4:List aJ):Option ((List (List aA))×Int) :=
  aAn p2 p3 p4 p0 p1 ([]:List (List aA)) 0
  partial_fixpoint
def aGq (p2:List (List aA)) (p0:aP) (p1:GDb) (p3:aQ) (x11:List (List aA)):Option ((List (List aA))×Int) :=
  (aIh p0 p1 p2 x11 p3.items)>>=fun y5=>if (!decide (y5.2=0))=true then (some (([]:List (List aA)),y5.2)) else (if p3.distinct=true then ((aGr y5.1)>>=fun y6=>O4 p3 y6) else (O4 p3 y5.1))
  partial_fixpoint
def Q4 (p2:List (List aA)) (p3:List (List aA)) (p4:List dV) (x12:List (List aA)) (x13:List (List aA)) (x14:Int) (kx15q:(List aA)×aP×GDb×Int):Option ((List (List aA))×Int) :=
  (if (true&&((decide (0<kx15q.2.2.2))==true))=true then idx x13 (QA .i64 (kx15q.2.2.2 - 1)) else some default)>>=fun y6=>(if (true&&((decide (0<kx15q.2.2.2))==true))=true then aJs kx15q.1 y6 p4 else some default)>>=fun y7=>(some (if (decide (0<kx15q.2.2.2))=true then y7 else false))>>=fun y8=>if y8=true then (Q4 p2 p3 p4 x12 x13 x14 (kx15q.1,kx15q.2.1,kx15q.2.2.1,(QA .i64 (kx15q.2.2.2 - 1)))) else ((iR x12 0 kx15q.2.2.2)>>=fun y9=>(appG 24 ([]:List (List aA)) y9)>>=fun y10=>(idx p3 x14)>>=fun y11=>(appG 24 y10 ([y11]:List (List aA)))>>=fun y12=>(iR x12 kx15q.2.2.2 (x12.length:Int))>>=fun y13=>(appG 24 y12 y13)>>=fun y14=>(iR x13 0 kx15q.2.2.2)>>=fun y15=>(appG 24 ([]:List (List aA)) y15)>>=fun y16=>(appG 24 y16 ([kx15q.1]:List (List aA)))>>=fun y17=>(iR x13 kx15q.2.2.2 (x13.length:Int))>>=fun y18=>(appG 24 y17 y18)>>=fun y19=>xM p2 p3 p4 kx15q.2.1 kx15q.2.2.1 y14 (y19,(QA .i64 (x14+1))))
  partial_fixpoint
def aEe (p2:List (List aA)) (p3:List (List aA)) (p4:List dV) (x12:List (List aA)) (x13:List (List aA)) (x14:Int) (kp0q:aP×GDb×(List aA)×Int):Option ((List (List aA))×Int) :=
  if (decide (kp0q.2.2.2<(p4.length:Int)))=true then ((idx p3 x14)>>=fun y1=>(aB1 y1 p2)>>=fun y2=>(idx p4 kp0q.2.2.2)>>=fun y3=>(fT kp0q.1 kp0q.2.1 y2 y3.expr)>>=fun y4=>if (!decide (y4.2=0))=true then (some (([]:List (List aA)),y4.2)) else ((appG 32 kp0q.2.2.1 ([y4.1]:List aA))>>=fun y5=>aEe p2 p3 p4 x12 x13 x14 (kp0q.1,kp0q.2.1,y5,(QA .i64 (kp0q.2.2.2+1))))) else (Q4 p2 p3 p4 x12 x13 x14 (kp0q.2.2.1,kp0q.1,kp0q.2.1,(x12.length:Int)))
  partial_fixpoint
def xM (p2:List (List aA)) (p3:List (List aA)) (p4:List dV) (p0:aP) (p1:GDb) (x12:List (List aA)) (kx13:(List (List aA))×Int):Option ((List (List aA))×Int) :=
  if (decide (kx13.2<(p3.length:Int)))=true then (aEe p2 p3 p4 x12 kx13.1 kx13.2 (p0,p1,([]:List aA),0)) else (some (x12,0))
  partial_fixpoint
def aJy (p0:aP) (p1:GDb) (p2:List (List aA)) (p3:List (List aA)) (p4:List dV):Option ((List (List aA))×Int) :=
  xM p2 p3 p4 p0 p1 ([]:List (List aA)) (([]:List (List aA)),0)
  partial_fixpoint
def aEv (p2:List (List aA)) (x3:List (List aA)) (p4:List aJ) (x12:Int) (x14:Int) (p0:aP) (kp1:GDb×(List (List aA))):Option ((List (List aA))×Int) :=
  aCy p2 x3 p4 x12 p0 kp1.1 (kp1.2,(QA .i64 (x14+1)))
  partial_fixpoint
def aD1 (p2:List (List aA)) (p0:aP) (p1:GDb) (p3:aJ) (x10:List aA) (x11:Int):Option (aA×Int) :=
  if (decide (x11<(p3.kids.length:Int)))=true then ((idx p3.kids x11)>>=fun y2=>(fT p0 p1 p2 y2)>>=fun y3=>if (!decide (y3.2=0))=true then (some ((aA.mk 0 0 []),y3.2)) else ((appG 32 x10 ([y3.1]:List aA))>>=fun y4=>aD1 p2 p0 p1 p3 y4 (QA .i64 (x11+1)))) else (if (decide (0<(p3.sub.length:Int)))=true then ((idx p3.sub 0)>>=fun y5=>(wF p0 p1 p2 y5)>>=fun y6=>if (!decide (y6.2=0))=true then (some ((aA.mk 0 0 []),y6.2)) else (vP p2 x10 p3 y6.1)) else (vP p2 x10 p3 ([]:List (List aA))))
  partial_fixpoint
def fT (p0:aP) (p1:GDb) (p2:List (List aA)) (p3:aJ):Option (aA×Int) :=
  (aJa p3)>>=fun y1=>if (!y1)=true then (some ((aA.mk 0 0 []),4)) else (aD1 p2 p0 p1 p3 ([]:List aA) 0)
  partial_fixpoint
def aCy (p2:List (List aA)) (x3:List (List aA)) (p4:List aJ) (x12:Int) (p0:aP) (p1:GDb) (kx13:(List (List aA))×Int):Option ((List (List aA))×Int) :=
  if (decide (kx13.2<(x3.length:Int)))=true then ((idx x3 kx13.2)>>=fun y1=>(aB1 y1 p2)>>=fun y2=>(idx p4 x12)>>=fun y3=>(fT p0 p1 y2 y3)>>=fun y4=>if (!decide (y4.2=0))=true then (some (([]:List (List aA)),y4.2)) else ((aIy y4.1)>>=fun y5=>if y5=true then ((idx x3 kx13.2)>>=fun y6=>(appG 24 kx13.1 ([y6]:List (List aA)))>>=fun y7=>aEv p2 x3 p4 x12 kx13.2 p0 (p1,y7)) else (aEv p2 x3 p4 x12 kx13.2 p0 (p1,kx13.1)))) else (aA7 p2 p4 p0 p1 kx13.1 (QA .i64 (x12+1)))
  partial_fixpoint
def aA7 (p2:List (List aA)) (p4:List aJ) (p0:aP) (p1:GDb) (x3:List (List aA)) (x12:Int):Option ((List (List aA))×Int) :=
  if (decide (x12<(p4.length:Int)))=true then (aCy p2 x3 p4 x12 p0 p1 (([]:List (List aA)),0)) else (some (x3,0))
  partial_fixpoint
def aCp (p0:aP) (p1:GDb) (p2:List (List aA)) (p3:List (List aA)) (p4:List aJ):Option ((List (List aA))×Int) :=
  aA7 p2 p4 p0 p1 p3 0
  partial_fixpoint
def aCr (p2:List (List aA)) (x10:List (List aA)) (x11:Int) (y2:fI) (x14:Int) (p0:aP) (kp1:GDb×aQ×(((List (List aA))×Int))):Option ((List (List aA))×Int) :=
  if (decide (kp1.2.2.2<(y2.rows.length:Int)))=true then ((idx x10 x14)>>=fun y6=>(aAv y6)>>=fun y7=>(idx y2.rows kp1.2.2.2)>>=fun y8=>(appG 32 y7 y8)>>=fun y9=>(appG 24 kp1.2.2.1 ([y9]:List (List aA)))>>=fun y10=>aCr p2 x10 x11 y2 x14 p0 (kp1.1,kp1.2.1,y10,(QA .i64 (kp1.2.2.2+1)))) else (aA3 p2 x10 x11 y2 p0 kp1.1 (kp1.2.1,kp1.2.2.1,(QA .i64 (x14+1))))
  partial_fixpoint
def aA3 (p2:List (List aA)) (x10:List (List aA)) (x11:Int) (y2:fI) (p0:aP) (p1:GDb) (kp3q:aQ×(((List (List aA))×Int))):Option ((List (List aA))×Int) :=
  if (decide (kp3q.2.2<(x10.length:Int)))=true then (aCr p2 x10 x11 y2 kp3q.2.2 p0 (p1,kp3q.1,kp3q.2.1,0)) else ((idx kp3q.1.on_ x11)>>=fun y4=>(aCp p0 p1 p2 kp3q.2.1 y4)>>=fun y5=>if (!decide (y5.2=0))=true then (some (([]:List (List aA)),y5.2)) else (U8 p2 p0 p1 kp3q.1 y5.1 (QA .i64 (x11+1))))
  partial_fixpoint
def U8 (p2:List (List aA)) (p0:aP) (p1:GDb) (p3:aQ) (x10:List (List aA)) (x11:Int):Option ((List (List aA))×Int) :=
  if (decide (x11<(p3.tables.length:Int)))=true then ((idx p3.tables x11)>>=fun y1=>(idx p1.tables y1)>>=fun y2=>aA3 p2 x10 x11 y2 p0 p1 (p3,([]:List (List aA)),0)) else (some (x10,0))
  partial_fixpoint
def aQj (p0:aP) (p1:GDb) (p2:List (List aA)) (p3:aQ):Option ((List (List aA))×Int) :=
  U8 p2 p0 p1 p3 ([([]:List aA)]:List (List aA)) 0
  partial_fixpoint
def wF (p0:aP) (p1:GDb) (p2:List (List aA)) (p3:aQ):Option ((List (List aA))×Int) :=
  (aLk p1 p3)>>=fun y1=>if (!y1)=true then (some (([]:List (List aA)),4)) else ((aQj p0 p1 p2 p3)>>=fun y2=>if (!decide (y2.2=0))=true then (some (([]:List (List aA)),y2.2)) else ((aCp p0 p1 p2 y2.1 p3.where_)>>=fun y3=>if (!decide (y3.2=0))=true then (some (([]:List (List aA)),y3.2)) else (if (decide (0<(p3.order.length:Int)))=true then ((aJy p0 p1 p2 y3.1 p3.order)>>=fun y4=>if (!decide (y4.2=0))=true then (some (([]:List (List aA)),y4.2)) else (aGq p2 p0 p1 p3 y4.1)) else (aGq p2 p0 p1 p3 y3.1))))
  partial_fixpoint
end
def yT (p0:aQ) (fE:List aJ) (x5:Int):Option (List aJ) :=
  if (decide (x5<(p0.order.length:Int)))=true then ((idx p0.order x5)>>=fun y5=>(appG 120 fE ([y5.expr]:List aJ))>>=fun y6=>yT p0 y6 (QA .i64 (x5+1))) else ((appG 120 fE p0.items)>>=fun y7=>some y7)
  partial_fixpoint
def aDv (p0:aQ) (x3:List aJ) (x4:Int):Option (List aJ) :=
  if (decide (x4<(p0.on_.length:Int)))=true then ((idx p0.on_ x4)>>=fun y1=>(appG 120 x3 y1)>>=fun y2=>aDv p0 y2 (QA .i64 (x4+1))) else ((appG 120 x3 p0.where_)>>=fun y3=>yT p0 y3 0)
  partial_fixpoint
def aGi (p0:aQ):Option (List aJ) :=
  aDv p0 ([]:List aJ) 0
def xO (p0:Int) (p1:Int):Option Int :=
  if (decide (p1<p0))=true then (some p0) else (some p1)
mutual
def X3 (p0:aJ) (fE:Int) (x5:Int):Option Int :=
  if (decide (x5<(p0.sub.length:Int)))=true then ((idx p0.sub x5)>>=fun y5=>(aCh y5)>>=fun y6=>(xO fE y6)>>=fun y7=>X3 p0 y7 (QA .i64 (x5+1))) else (some (QA .i64 (fE+1)))
  partial_fixpoint
def aFt (p0:aJ) (x3:Int) (x4:Int):Option Int :=
  if (decide (x4<(p0.kids.length:Int)))=true then ((idx p0.kids x4)>>=fun y1=>(zU y1)>>=fun y2=>(xO x3 y2)>>=fun y3=>aFt p0 y3 (QA .i64 (x4+1))) else (X3 p0 x3 0)
  partial_fixpoint
def zU (p0:aJ):Option Int :=
  aFt p0 0 0
  partial_fixpoint
def aCk (y1:List aJ) (x3:Int) (x5:Int):Option Int :=
  if (decide (x5<(y1.length:Int)))=true then ((idx y1 x5)>>=fun y2=>(zU y2)>>=fun y3=>(xO x3 y3)>>=fun y4=>aCk y1 y4 (QA .i64 (x5+1))) else (some x3)
  partial_fixpoint
def aCh (p0:aQ):Option Int :=
  (aGi p0)>>=fun y1=>aCk y1 0 0
  partial_fixpoint
end
mutual
def P8 (p0:aJ) (tK:Int) (x5:Int):Option Int :=
  if (decide (x5<(p0.sub.length:Int)))=true then ((idx p0.sub x5)>>=fun y4=>(aBg y4)>>=fun y5=>P8 p0 (QA .i64 (tK+y5)) (QA .i64 (x5+1))) else (some tK)
  partial_fixpoint
def aFa (p0:aJ) (x3:Int) (x4:Int):Option Int :=
  if (decide (x4<(p0.kids.length:Int)))=true then ((idx p0.kids x4)>>=fun y1=>(C9 y1)>>=fun y2=>aFa p0 (QA .i64 (x3+y2)) (QA .i64 (x4+1))) else (P8 p0 x3 0)
  partial_fixpoint
def C9 (p0:aJ):Option Int :=
  aFa p0 1 0
  partial_fixpoint
def aCu (y1:List aJ) (x3:Int) (x5:Int):Option Int :=
  if (decide (x5<(y1.length:Int)))=true then ((idx y1 x5)>>=fun y2=>(C9 y2)>>=fun y3=>aCu y1 (QA .i64 (x3+y3)) (QA .i64 (x5+1))) else (some x3)
  partial_fixpoint
def aBg (p0:aQ):Option Int :=
  (aGi p0)>>=fun y1=>aCu y1 0 0
  partial_fixpoint
end
def E9 (p0:aP) (p1:aQ) (x6:Int):Option Bool :=
  if (decide (x6<(p1.names.length:Int)))=true then ((idx p1.names x6)>>=fun y12=>(pV y12)>>=fun y13=>if (!y13)=true then (some false) else (E9 p0 p1 (QA .i64 (x6+1)))) else ((D9 p0 p1.tables)>>=fun y14=>some y14.2)
  partial_fixpoint
def yV (p0:aP) (p1:aQ) (x5:Int):Option Bool :=
  if (decide (x5<(p1.on_.length:Int)))=true then ((idx p1.on_ x5)>>=fun y11=>if (decide (1<(y11.length:Int)))=true then (some false) else (yV p0 p1 (QA .i64 (x5+1)))) else (E9 p0 p1 0)
  partial_fixpoint
def aKk (p0:aP) (p1:aQ):Option Bool :=
  (fM (p1.tables.length:Int) 1 3)>>=fun y1=>(some (if (!y1)=true then true else (!decide ((p1.on_.length:Int)=(p1.tables.length:Int)))))>>=fun y2=>(if (true&&(y2==false))=true then idx p1.on_ 0 else some default)>>=fun y3=>(some (if y2=true then true else (decide (0<(y3.length:Int)))))>>=fun y4=>(some (if y4=true then true else (decide (1<(p1.where_.length:Int)))))>>=fun y5=>(some (if y5=true then true else (decide (12<(p1.order.length:Int)))))>>=fun y6=>(if (true&&(y6==false))=true then fM (p1.items.length:Int) 1 12 else some default)>>=fun y7=>(some (if y6=true then true else (!y7)))>>=fun y8=>(some (if y8=true then true else (!decide ((p1.names.length:Int)=(p1.items.length:Int)))))>>=fun y9=>(some (if y9=true then true else (decide (p1.limit<(-1)))))>>=fun y10=>if y10=true then (some false) else (yV p0 p1 0)
def aAm (p0:Int):Option Bool :=
  (some (if (decide (p0=0))=true then true else (decide (p0=3))))>>=fun y1=>some y1
def U0 (p0:aA):Option Bool :=
  (kU p0)>>=fun y1=>(if (true&&(y1==true))=true then some (if (!decide (p0.kind=1))=true then true else (decide (0≤p0.num))) else some default)>>=fun y2=>(some (if y1=true then y2 else false))>>=fun y3=>(some (if y3=true then (decide ((p0.text.length:Int)≤40)) else false))>>=fun y4=>some y4
def zM (p0:List UInt8):Option Bool :=
  (if (true&&((decide (p0=[]))==false))=true then pV p0 else some default)>>=fun y1=>(some (if (decide (p0=[]))=true then true else y1))>>=fun y2=>some y2
def aAy (p0:eT):Option Bool :=
  (if (true&&((!decide (p0.kind=2))==true))=true then some (if (!decide (p0.qual=[]))=true then true else (!decide (p0.name=[]))) else some default)>>=fun y1=>(some (if (!decide (p0.kind=2))=true then y1 else false))>>=fun y2=>(if (true&&(y2==false))=true then some (if (!decide (p0.kind=1))=true then (!((decide (p0.value.kind=0))&&((decide (p0.value.num=0))&&((decide (p0.value.text=[]))&&true)))) else false) else some default)>>=fun y3=>(some (if y2=true then true else y3))>>=fun y4=>if y4=true then (some false) else ((some (if (!decide (p0.kind=3))=true then (!decide (p0.kind=4)) else false))>>=fun y5=>(some (if y5=true then (!decide (p0.op=0)) else false))>>=fun y6=>(if ((true&&(y6==false))&&(p0.not_==true))=true then fM p0.kind 5 8 else some default)>>=fun y7=>(if (true&&(y6==false))=true then some (if p0.not_=true then (!y7) else false) else some default)>>=fun y8=>(some (if y6=true then true else y8))>>=fun y9=>if y9=true then (some false) else (if (decide (p0.kind=1))=true then ((U0 p0.value)>>=fun y10=>(some (if y10=true then (decide ((QA .i64 ((p0.kids.length:Int)+(p0.sub.length:Int)))=0)) else false))>>=fun y11=>some y11) else (if (decide (p0.kind=2))=true then ((pV p0.name)>>=fun y12=>(if (true&&(y12==true))=true then zM p0.qual else some default)>>=fun y13=>(some (if y12=true then y13 else false))>>=fun y14=>(some (if y14=true then (decide ((QA .i64 ((p0.kids.length:Int)+(p0.sub.length:Int)))=0)) else false))>>=fun y15=>some y15) else (if (decide (p0.kind=3))=true then ((some (if (decide (p0.op=15))=true then true else (decide (p0.op=16))))>>=fun y16=>(some (if y16=true then (decide ((p0.kids.length:Int)=1)) else false))>>=fun y17=>(some (if y17=true then (decide ((p0.sub.length:Int)=0)) else false))>>=fun y18=>some y18) else (if (decide (p0.kind=4))=true then ((fM p0.op 1 14)>>=fun y19=>(some (if y19=true then (decide ((p0.kids.length:Int)=2)) else false))>>=fun y20=>(some (if y20=true then (decide ((p0.sub.length:Int)=0)) else false))>>=fun y21=>some y21) else (if (decide (p0.kind=5))=true then ((some (if (decide ((p0.kids.length:Int)=1))=true then (decide ((p0.sub.length:Int)=0)) else false))>>=fun y22=>some y22) else (if (decide (p0.kind=6))=true then ((some (if (decide ((p0.kids.length:Int)=3))=true then (decide ((p0.sub.length:Int)=0)) else false))>>=fun y23=>some y23) else (if (decide (p0.kind=7))=true then ((fM (p0.kids.length:Int) 2 9)>>=fun y24=>(some (if y24=true then (decide ((p0.sub.length:Int)=0)) else false))>>=fun y25=>some y25) else (if (decide (p0.kind=8))=true then ((some (if (decide ((p0.kids.length:Int)=1))=true then (decide ((p0.sub.length:Int)=1)) else false))>>=fun y26=>some y26) else (if (decide (p0.kind=9))=true then ((some (if (decide ((p0.kids.length:Int)=0))=true then (decide ((p0.sub.length:Int)=1)) else false))>>=fun y27=>some y27) else (some false)))))))))))
def aLz (p0:aJ) (y3:List eT) (y4:List jK) (oP:List UInt8):Option Bool :=
  (aAy (eT.mk p0.kind p0.op p0.not_ p0.value [] oP y3 y4))>>=fun y5=>some y5
def aGs (p0:aJ):Option Bool :=
  (if (true&&((!decide (p0.kind=2))==true))=true then some (if (!decide (p0.up=0))=true then true else (!decide (p0.at_=0))) else some default)>>=fun y1=>(some (if (!decide (p0.kind=2))=true then y1 else false))>>=fun y2=>if y2=true then (some false) else ((mkG 136 (p0.kids.length:Int) ((eT.mk 0 0 false (aA.mk 0 0 []) [] [] ([]:List eT) ([]:List jK)):eT))>>=fun y3=>(mkG 112 (p0.sub.length:Int) ((jK.mk false ([]:List pX) ([]:List qI) ([]:List eT) ([]:List pY) 0):jK))>>=fun y4=>if (decide (p0.kind=2))=true then (aLz p0 y3 y4 [97]) else (aLz p0 y3 y4 []))
def sV (p0:Int) (p1:Bool):Option (Int×Bool) :=
  if (!p1)=true then (some (0,false)) else (some (p0,true))
def aBe (p0:Int) (p1:Int):Option Bool :=
  (some (if (decide (p0=0))=true then true else (decide (p0=p1))))>>=fun y1=>some y1
def aLs (p1:Int) (p2:Int) (x10:Int):Option (Int×Bool) :=
  (aBe p1 x10)>>=fun y12=>(if (true&&(y12==true))=true then aBe p2 x10 else some default)>>=fun y13=>(some (if y12=true then y13 else false))>>=fun y14=>(sV x10 y14)>>=fun y15=>some (y15.1,y15.2)
def zI (p0:Int):Option Bool :=
  (fM p0 0 3)>>=fun y1=>some y1
def aA1 (p0:Int) (p1:Int):Option (Int×Bool) :=
  (zI p0)>>=fun y1=>(if (true&&((!y1)==false))=true then zI p1 else some default)>>=fun y2=>(some (if (!y1)=true then true else (!y2)))>>=fun y3=>if y3=true then (some (0,false)) else (if (decide (p0=0))=true then (some (p1,true)) else ((some (if (decide (p1=0))=true then true else (decide (p0=p1))))>>=fun y4=>if y4=true then (some (p0,true)) else (some (0,false))))
def aJ9 (p0:Int) (p1:Int) (p2:Int):Option (Int×Bool) :=
  (fM p0 1 14)>>=fun y1=>(if (true&&((!y1)==false))=true then zI p1 else some default)>>=fun y2=>(some (if (!y1)=true then true else (!y2)))>>=fun y3=>(if (true&&(y3==false))=true then zI p2 else some default)>>=fun y4=>(some (if y3=true then true else (!y4)))>>=fun y5=>if y5=true then (some (0,false)) else (if (decide (p0≤2))=true then ((aAm p1)>>=fun y6=>(if (true&&(y6==true))=true then aAm p2 else some default)>>=fun y7=>(some (if y6=true then y7 else false))>>=fun y8=>(sV 3 y8)>>=fun y9=>some (y9.1,y9.2)) else (if (decide (p0≤8))=true then ((aA1 p1 p2)>>=fun y10=>(sV 3 y10.2)>>=fun y11=>some (y11.1,y11.2)) else (if (decide (p0=9))=true then (aLs p1 p2 2) else (aLs p1 p2 1))))
def F4 (p0:List Int) (x3:Int) (x4:Int):Option Bool :=
  if (decide (x4<(p0.length:Int)))=true then ((idx p0 x4)>>=fun y1=>(aA1 x3 y1)>>=fun y2=>if (!y2.2)=true then (some false) else (F4 p0 y2.1 (QA .i64 (x4+1)))) else (some true)
  partial_fixpoint
def M4 (p0:List Int):Option Bool :=
  F4 p0 0 0
def xH (p2:aJ) (U6:List Int):Option (Int×Bool) :=
  if (decide (p2.kind=5))=true then (some (3,true)) else ((M4 U6)>>=fun y23=>(sV 3 y23)>>=fun y24=>some (y24.1,y24.2))
def aJx (p0:Int) (p1:Int):Option (Int×Bool) :=
  if (decide (p0=15))=true then ((aAm p1)>>=fun y1=>(sV 3 y1)>>=fun y2=>some (y2.1,y2.2)) else (if (decide (p0=16))=true then ((aBe p1 1)>>=fun y3=>(sV 1 y3)>>=fun y4=>some (y4.1,y4.2)) else (some (0,false)))
mutual
def J9 (y8:List (List Int)) (p0:aP) (p2:aQ) (x17:List Int) (x18:Int):Option ((List Int)×Bool) :=
  if (decide (x18<(p2.items.length:Int)))=true then ((idx p2.items x18)>>=fun y12=>(U2 p0 y8 y12)>>=fun y13=>if (!y13.2)=true then (some (([]:List Int),false)) else ((appG 8 x17 ([y13.1]:List Int))>>=fun y14=>J9 y8 p0 p2 y14 (QA .i64 (x18+1)))) else (some (x17,true))
  partial_fixpoint
def Q3 (y8:List (List Int)) (p0:aP) (p2:aQ) (x14:Int):Option ((List Int)×Bool) :=
  if (decide (x14<(p2.order.length:Int)))=true then ((idx p2.order x14)>>=fun y10=>(U2 p0 y8 y10.expr)>>=fun y11=>if (!y11.2)=true then (some (([]:List Int),false)) else (Q3 y8 p0 p2 (QA .i64 (x14+1)))) else (J9 y8 p0 p2 ([]:List Int) 0)
  partial_fixpoint
def rV (p1:List (List Int)) (p0:aP) (p2:aJ) (x8:List Int) (x9:Int):Option (Int×Bool) :=
  if (decide (x9<(p2.kids.length:Int)))=true then ((idx p2.kids x9)>>=fun y2=>(U2 p0 p1 y2)>>=fun y3=>if (!y3.2)=true then (some (0,false)) else ((appG 8 x8 ([y3.1]:List Int))>>=fun y4=>rV p1 p0 p2 y4 (QA .i64 (x9+1)))) else (if (decide (p2.kind=1))=true then (some (p2.value.kind,true)) else (if (decide (p2.kind=2))=true then ((fM p2.up 0 (QA .i64 ((p1.length:Int) - 1)))>>=fun y5=>(if (true&&((!y5)==false))=true then idx p1 p2.up else some default)>>=fun y6=>(if (true&&((!y5)==false))=true then fM p2.at_ 0 (QA .i64 ((y6.length:Int) - 1)) else some default)>>=fun y7=>(some (if (!y5)=true then true else (!y7)))>>=fun y8=>if y8=true then (some (0,false)) else ((idx p1 p2.up)>>=fun y9=>(idx y9 p2.at_)>>=fun y10=>some (y10,true))) else (if (decide (p2.kind=3))=true then ((idx x8 0)>>=fun y11=>(aJx p2.op y11)>>=fun y12=>some (y12.1,y12.2)) else (if (decide (p2.kind=4))=true then ((idx x8 0)>>=fun y13=>(idx x8 1)>>=fun y14=>(aJ9 p2.op y13 y14)>>=fun y15=>some (y15.1,y15.2)) else (if (decide (0<(p2.sub.length:Int)))=true then ((idx p2.sub 0)>>=fun y16=>(aEj p0 p1 y16)>>=fun y17=>(if (true&&((!y17.2)==false))=true then some (if (decide (p2.kind=8))=true then (!decide ((y17.1.length:Int)=1)) else false) else some default)>>=fun y18=>(some (if (!y17.2)=true then true else y18))>>=fun y19=>if y19=true then (some (0,false)) else (if (decide (p2.kind=8))=true then ((idx y17.1 0)>>=fun y20=>(appG 8 x8 ([y20]:List Int))>>=fun y21=>xH p2 y21) else (xH p2 x8))) else (xH p2 x8))))))
  partial_fixpoint
def U2 (p0:aP) (p1:List (List Int)) (p2:aJ):Option (Int×Bool) :=
  (aGs p2)>>=fun y1=>if (!y1)=true then (some (0,false)) else (rV p1 p0 p2 ([]:List Int) 0)
  partial_fixpoint
def aBm (p1:List (List Int)) (p2:List aJ) (p0:aP) (x7:Int):Option Bool :=
  if (decide (x7<(p2.length:Int)))=true then ((idx p2 x7)>>=fun y1=>(U2 p0 p1 y1)>>=fun y2=>(if (true&&((!y2.2)==false))=true then aAm y2.1 else some default)>>=fun y3=>(some (if (!y2.2)=true then true else (!y3)))>>=fun y4=>if y4=true then (some false) else (aBm p1 p2 p0 (QA .i64 (x7+1)))) else (some true)
  partial_fixpoint
def aH5 (p0:aP) (p1:List (List Int)) (p2:List aJ):Option Bool :=
  aBm p1 p2 p0 0
  partial_fixpoint
def aCe (p1:List (List Int)) (p0:aP) (p2:aQ) (x8:Int):Option ((List Int)×Bool) :=
  if (decide (x8<(p2.on_.length:Int)))=true then ((iR p2.tables 0 (QA .i64 (x8+1)))>>=fun y2=>(D9 p0 y2)>>=fun y3=>(U5 y3.1 p1)>>=fun y4=>(idx p2.on_ x8)>>=fun y5=>(aH5 p0 y4 y5)>>=fun y6=>if (!y6)=true then (some (([]:List Int),false)) else (aCe p1 p0 p2 (QA .i64 (x8+1)))) else ((D9 p0 p2.tables)>>=fun y7=>(U5 y7.1 p1)>>=fun y8=>(aH5 p0 y8 p2.where_)>>=fun y9=>if (!y9)=true then (some (([]:List Int),false)) else (Q3 y8 p0 p2 0))
  partial_fixpoint
def aEj (p0:aP) (p1:List (List Int)) (p2:aQ):Option ((List Int)×Bool) :=
  (aKk p0 p2)>>=fun y1=>if (!y1)=true then (some (([]:List Int),false)) else (aCe p1 p0 p2 0)
  partial_fixpoint
end
def aC6 (p0:aP) (p1:aQ):Option Bool :=
  (aHf p0)>>=fun y1=>(if (true&&((!y1)==false))=true then aCh p1 else some default)>>=fun y2=>(some (if (!y1)=true then true else (decide (24<y2))))>>=fun y3=>(if (true&&(y3==false))=true then aBg p1 else some default)>>=fun y4=>(some (if y3=true then true else (decide (200<y4))))>>=fun y5=>if y5=true then (some false) else ((aEj p0 ([]:List (List Int)) p1)>>=fun y6=>some y6.2)
def aKj (p0:aP) (p1:GDb) (p2:aQ):Option ((List (List aA))×Int) :=
  (aC6 p0 p2)>>=fun y1=>(if (true&&((!y1)==false))=true then aA5 p0 p1 else some default)>>=fun y2=>(some (if (!y1)=true then true else (!y2)))>>=fun y3=>if y3=true then (some (([]:List (List aA)),4)) else ((wF p0 p1 ([]:List (List aA)) p2)>>=fun y4=>some (y4.1,y4.2))
def aPd (p0:List Int):Option Bool :=
  some (decide (1048576<(p0.length:Int)))
mutual
def aDu (x0:Int) (p0:Int) (x4:List UInt8) (x5:Int):Option (List UInt8) :=
  (ofBytes ([(QA .u8 (QA .i64 (48+x5)))]:List Int))>>=fun y2=>(pW y2 x4)>>=fun y3=>aBq p0 (QA .i64 (QD x0 10)) y3
  partial_fixpoint
def aBq (p0:Int) (x0:Int) (x4:List UInt8):Option (List UInt8) :=
  if (!decide (x0=0))=true then (if (decide ((QE x0 10)<0))=true then (aDu x0 p0 x4 (QA .i64 (0 - (QE x0 10)))) else (aDu x0 p0 x4 (QE x0 10))) else (if (decide (p0<0))=true then ((pW [45] x4)>>=fun y1=>some y1) else (some x4))
  partial_fixpoint
end
def aIa (p0:Int):Option (List UInt8) :=
  if (decide (p0=0))=true then (some [48]) else (aBq p0 p0 [])
mutual
def aBt (p0:List UInt8) (p1:Int) (x6:Int) (uK:List Int):Option (List UInt8) :=
  (aG5 p0 x6)>>=fun y6=>(appG 1 uK ([y6]:List Int))>>=fun y7=>aBh p0 p1 y7 (QA .i64 (x6+1))
  partial_fixpoint
def aBh (p0:List UInt8) (p1:Int) (x5:List Int) (x6:Int):Option (List UInt8) :=
  if (decide (x6<(p0.length:Int)))=true then ((aG5 p0 x6)>>=fun y1=>if (decide (y1=p1))=true then ((appG 1 x5 ([p1]:List Int))>>=fun y2=>aBt p0 p1 x6 y2) else (aBt p0 p1 x6 x5)) else ((appG 1 x5 ([p1]:List Int))>>=fun y4=>(ofBytes y4)>>=fun y5=>some y5)
  partial_fixpoint
end
def aHi (p0:List UInt8) (p1:Int):Option (List UInt8) :=
  aBh p0 p1 ([p1]:List Int) 0
def aQv (p0:List UInt8):Option (List UInt8) :=
  (aHi p0 39)>>=fun y1=>some y1
def aCb (p0:aA):Option (List UInt8) :=
  (kU p0)>>=fun y1=>if (!y1)=true then (some [63]) else (if (decide (p0.kind=1))=true then ((aIa p0.num)>>=fun y2=>some y2) else (if (decide (p0.kind=2))=true then ((aQv p0.text)>>=fun y3=>some y3) else (if (decide (p0.kind=3))=true then (if (decide (p0.num=1))=true then (some [84,82,85,69]) else (some [70,65,76,83,69])) else (some [78,85,76,76]))))
mutual
def aCs (p0:List (List aA)) (x4:Int) (x5:Int) (uQ:List Int):Option (List UInt8) :=
  (idx p0 x4)>>=fun y7=>(idx y7 x5)>>=fun y8=>(aCb y8)>>=fun y9=>(appG 1 uQ (mG y9))>>=fun y10=>aDl p0 x4 y10 (QA .i64 (x5+1))
  partial_fixpoint
def aDl (p0:List (List aA)) (x4:Int) (rG:List Int) (x5:Int):Option (List UInt8) :=
  (idx p0 x4)>>=fun y3=>if (decide (x5<(y3.length:Int)))=true then (if (decide (0<x5))=true then ((appG 1 rG ([124]:List Int))>>=fun y4=>aCs p0 x4 x5 y4) else (aCs p0 x4 x5 rG)) else ((appG 1 rG ([10]:List Int))>>=fun y6=>R5 p0 y6 (QA .i64 (x4+1)))
  partial_fixpoint
def R5 (p0:List (List aA)) (x3:List Int) (x4:Int):Option (List UInt8) :=
  if (decide (x4<(p0.length:Int)))=true then (aDl p0 x4 x3 0) else ((ofBytes x3)>>=fun y2=>some y2)
  partial_fixpoint
end
def yR (p0:List (List aA)):Option (List UInt8) :=
  R5 p0 ([]:List Int) 0
def U4 (p0:List aA) (p1:List aA) (x13:Int):Option Int :=
  if (decide (x13<(p0.length:Int)))=true then ((idx p0 x13)>>=fun y1=>if (decide ((p1.length:Int)≤x13))=true then (some 1) else ((idx p1 x13)>>=fun y2=>(Y5 y1 y2)>>=fun y3=>if (!decide (y3=0))=true then (some y3) else (U4 p0 p1 (QA .i64 (x13+1))))) else (if (decide ((p0.length:Int)<(p1.length:Int)))=true then (some (-1)) else (some 0))
  partial_fixpoint
def aOd (p0:List aA) (p1:List aA):Option Int :=
  U4 p0 p1 0
def sQ (p0:List aA) (p1:List aA):Option Int :=
  (aOd p0 p1)>>=fun y1=>some y1
mutual
def X8 (p1:Int) (p2:Int) (x8:Int) (x9:Int) (bZ:List (Value×(List aA))):Option (List (Value×(List aA))) :=
  (if (true&&((decide (p1<x9))==true))=true then idx bZ x9 else some default)>>=fun y2=>(if (true&&((decide (p1<x9))==true))=true then idx bZ x9 else some default)>>=fun y3=>(if (true&&((decide (p1<x9))==true))=true then idx bZ (QA .i64 (x9 - 1)) else some default)>>=fun y4=>(if (true&&((decide (p1<x9))==true))=true then idx bZ (QA .i64 (x9 - 1)) else some default)>>=fun y5=>(if (true&&((decide (p1<x9))==true))=true then sQ y3.2 y5.2 else some default)>>=fun y6=>(some (if (decide (p1<x9))=true then (decide (y6<0)) else false))>>=fun y7=>if y7=true then ((idx bZ (QA .i64 (x9 - 1)))>>=fun y8=>(idx bZ (QA .i64 (x9 - 1)))>>=fun y9=>(idx bZ x9)>>=fun y10=>(idx bZ x9)>>=fun y11=>(idx bZ x9)>>=fun y12=>(jR bZ x9 y9)>>=fun y13=>(idx y13 (QA .i64 (x9 - 1)))>>=fun y14=>(jR y13 (QA .i64 (x9 - 1)) y11)>>=fun y15=>X8 p1 p2 x8 (QA .i64 (x9 - 1)) y15) else (I8 p1 p2 (QA .i64 (x8+1)) bZ)
  partial_fixpoint
def I8 (p1:Int) (p2:Int) (x8:Int) (aU:List (Value×(List aA))):Option (List (Value×(List aA))) :=
  if (decide (x8<p2))=true then (X8 p1 p2 x8 x8 aU) else (some aU)
  partial_fixpoint
end
def aEn (p0:List (Value×(List aA))) (p1:Int) (p2:Int):Option (List (Value×(List aA))) :=
  I8 p1 p2 (QA .i64 (p1+1)) p0
def aJw (p1:Int) (p2:Int) (p3:Int) (x10:Int) (aU:List (Value×(List aA))):Option (List (Value×(List aA))) :=
  if (decide (x10<p3))=true then ((idx aU (QA .i64 (p2+x10)))>>=fun y1=>(idx aU (QA .i64 (p2+x10)))>>=fun y2=>(idx aU (QA .i64 (p1+x10)))>>=fun y3=>(idx aU (QA .i64 (p1+x10)))>>=fun y4=>(idx aU (QA .i64 (p1+x10)))>>=fun y5=>(jR aU (QA .i64 (p1+x10)) y2)>>=fun y6=>(idx y6 (QA .i64 (p2+x10)))>>=fun y7=>(jR y6 (QA .i64 (p2+x10)) y4)>>=fun y8=>aJw p1 p2 p3 (QA .i64 (x10+1)) y8) else (some aU)
  partial_fixpoint
def aIt (p0:List (Value×(List aA))) (p1:Int) (p2:Int) (p3:Int):Option (List (Value×(List aA))) :=
  aJw p1 p2 p3 0 p0
def aEu (p2:Int) (x10:Int) (x11:Int) (aU:List (Value×(List aA))):Option (List (Value×(List aA))) :=
  if (!decide (x10=x11))=true then (if (decide (x11<x10))=true then ((aIt aU (QA .i64 (p2 - x10)) p2 x11)>>=fun y1=>aEu p2 (QA .i64 (x10 - x11)) x11 y1) else ((aIt aU (QA .i64 (p2 - x10)) (QA .i64 ((QA .i64 (p2+x11)) - x10)) x10)>>=fun y2=>aEu p2 x10 (QA .i64 (x11 - x10)) y2)) else ((aIt aU (QA .i64 (p2 - x10)) p2 x10)>>=fun y3=>some y3)
  partial_fixpoint
def aVm (p0:List (Value×(List aA))) (p1:Int) (p2:Int) (p3:Int):Option (List (Value×(List aA))) :=
  aEu p2 (QA .i64 (p2 - p1)) (QA .i64 (p3 - p2)) p0
def aKc (x10:Int) (x13:Int) (aU:List (Value×(List aA))):Option (List (Value×(List aA))) :=
  if (decide (x13<(QA .i64 (x10 - 1))))=true then ((idx aU (QA .i64 (x13+1)))>>=fun y14=>(idx aU (QA .i64 (x13+1)))>>=fun y15=>(idx aU x13)>>=fun y16=>(idx aU x13)>>=fun y17=>(idx aU x13)>>=fun y18=>(jR aU x13 y15)>>=fun y19=>(idx y19 (QA .i64 (x13+1)))>>=fun y20=>(jR y19 (QA .i64 (x13+1)) y17)>>=fun y21=>aKc x10 (QA .i64 (x13+1)) y21) else (some aU)
  partial_fixpoint
def aE8 (p1:Int) (p0:List (Value×(List aA))) (x10:Int) (x11:Int):Option (List (Value×(List aA))) :=
  if (decide (x10<x11))=true then ((idx p0 (QA .i64 (QB (QA .u64 (QA .i64 (x10+x11))) (2 ^ 1))))>>=fun y1=>(idx p0 (QA .i64 (QB (QA .u64 (QA .i64 (x10+x11))) (2 ^ 1))))>>=fun y2=>(idx p0 p1)>>=fun y3=>(idx p0 p1)>>=fun y4=>(sQ y2.2 y4.2)>>=fun y5=>if (decide (y5<0))=true then (aE8 p1 p0 (QA .i64 ((QA .i64 (QB (QA .u64 (QA .i64 (x10+x11))) (2 ^ 1)))+1)) x11) else (aE8 p1 p0 x10 (QA .i64 (QB (QA .u64 (QA .i64 (x10+x11))) (2 ^ 1))))) else (aKc x10 p1 p0)
  partial_fixpoint
def aHu (x14:Int) (x17:Int) (eF:List (Value×(List aA))):Option (List (Value×(List aA))) :=
  if (decide (x14<x17))=true then ((idx eF (QA .i64 (x17 - 1)))>>=fun y22=>(idx eF (QA .i64 (x17 - 1)))>>=fun y23=>(idx eF x17)>>=fun y24=>(idx eF x17)>>=fun y25=>(idx eF x17)>>=fun y26=>(jR eF x17 y23)>>=fun y27=>(idx y27 (QA .i64 (x17 - 1)))>>=fun y28=>(jR y27 (QA .i64 (x17 - 1)) y25)>>=fun y29=>aHu x14 (QA .i64 (x17 - 1)) y29) else (some eF)
  partial_fixpoint
def aF8 (p2:Int) (p0:List (Value×(List aA))) (x14:Int) (x15:Int):Option (List (Value×(List aA))) :=
  if (decide (x14<x15))=true then ((idx p0 p2)>>=fun y6=>(idx p0 p2)>>=fun y7=>(idx p0 (QA .i64 (QB (QA .u64 (QA .i64 (x14+x15))) (2 ^ 1))))>>=fun y8=>(idx p0 (QA .i64 (QB (QA .u64 (QA .i64 (x14+x15))) (2 ^ 1))))>>=fun y9=>(sQ y7.2 y9.2)>>=fun y10=>if (!(decide (y10<0)))=true then (aF8 p2 p0 (QA .i64 ((QA .i64 (QB (QA .u64 (QA .i64 (x14+x15))) (2 ^ 1)))+1)) x15) else (aF8 p2 p0 x14 (QA .i64 (QB (QA .u64 (QA .i64 (x14+x15))) (2 ^ 1))))) else (aHu x14 p2 p0)
  partial_fixpoint
mutual
def aIp (p3:Int) (p1:Int) (p2:Int) (aY:Int) (iM:List (Value×(List aA))):Option (List (Value×(List aA))) :=
  (some (if (decide ((QA .i64 (QB (QA .u64 (QA .i64 (p1+p3))) (2 ^ 1)))<(QA .i64 ((QA .i64 ((QA .i64 (QB (QA .u64 (QA .i64 (p1+p3))) (2 ^ 1)))+p2)) - aY))))=true then (decide ((QA .i64 ((QA .i64 ((QA .i64 (QB (QA .u64 (QA .i64 (p1+p3))) (2 ^ 1)))+p2)) - aY))<p3)) else false))>>=fun y41=>if y41=true then ((aG4 iM (QA .i64 (QB (QA .u64 (QA .i64 (p1+p3))) (2 ^ 1))) (QA .i64 ((QA .i64 ((QA .i64 (QB (QA .u64 (QA .i64 (p1+p3))) (2 ^ 1)))+p2)) - aY)) p3)>>=fun y42=>some y42) else (some iM)
  partial_fixpoint
def aNo (p1:Int) (p3:Int) (aY:Int) (p2:Int) (iV:List (Value×(List aA))):Option (List (Value×(List aA))) :=
  (some (if (decide (p1<aY))=true then (decide (aY<(QA .i64 (QB (QA .u64 (QA .i64 (p1+p3))) (2 ^ 1))))) else false))>>=fun y38=>if y38=true then ((aG4 iV p1 aY (QA .i64 (QB (QA .u64 (QA .i64 (p1+p3))) (2 ^ 1))))>>=fun y39=>aIp p3 p1 p2 aY y39) else (aIp p3 p1 p2 aY iV)
  partial_fixpoint
def aHn (p1:Int) (p2:Int) (p3:Int) (p0:List (Value×(List aA))) (aY:Int) (eG:Int):Option (List (Value×(List aA))) :=
  if (decide (aY<eG))=true then ((idx p0 (QA .i64 ((QA .i64 ((QA .i64 ((QA .i64 (QB (QA .u64 (QA .i64 (p1+p3))) (2 ^ 1)))+p2)) - 1)) - (QA .i64 (QB (QA .u64 (QA .i64 (aY+eG))) (2 ^ 1))))))>>=fun y30=>(idx p0 (QA .i64 ((QA .i64 ((QA .i64 ((QA .i64 (QB (QA .u64 (QA .i64 (p1+p3))) (2 ^ 1)))+p2)) - 1)) - (QA .i64 (QB (QA .u64 (QA .i64 (aY+eG))) (2 ^ 1))))))>>=fun y31=>(idx p0 (QA .i64 (QB (QA .u64 (QA .i64 (aY+eG))) (2 ^ 1))))>>=fun y32=>(idx p0 (QA .i64 (QB (QA .u64 (QA .i64 (aY+eG))) (2 ^ 1))))>>=fun y33=>(sQ y31.2 y33.2)>>=fun y34=>if (!(decide (y34<0)))=true then (aHn p1 p2 p3 p0 (QA .i64 ((QA .i64 (QB (QA .u64 (QA .i64 (aY+eG))) (2 ^ 1)))+1)) eG) else (aHn p1 p2 p3 p0 aY (QA .i64 (QB (QA .u64 (QA .i64 (aY+eG))) (2 ^ 1))))) else ((some (if (decide (aY<p2))=true then (decide (p2<(QA .i64 ((QA .i64 ((QA .i64 (QB (QA .u64 (QA .i64 (p1+p3))) (2 ^ 1)))+p2)) - aY)))) else false))>>=fun y35=>if y35=true then ((aVm p0 aY p2 (QA .i64 ((QA .i64 ((QA .i64 (QB (QA .u64 (QA .i64 (p1+p3))) (2 ^ 1)))+p2)) - aY)))>>=fun y36=>aNo p1 p3 aY p2 y36) else (aNo p1 p3 aY p2 p0))
  partial_fixpoint
def aOl (p1:Int) (p2:Int) (p3:Int) (p0:List (Value×(List aA))) (x20:Int) (x21:Int):Option (List (Value×(List aA))) :=
  aHn p1 p2 p3 p0 x20 x21
  partial_fixpoint
def aG4 (p0:List (Value×(List aA))) (p1:Int) (p2:Int) (p3:Int):Option (List (Value×(List aA))) :=
  if (decide ((QA .i64 (p2 - p1))=1))=true then (aE8 p1 p0 p2 p3) else (if (decide ((QA .i64 (p3 - p2))=1))=true then (aF8 p2 p0 p1 p2) else (if (decide ((QA .i64 (QB (QA .u64 (QA .i64 (p1+p3))) (2 ^ 1)))<p2))=true then (aOl p1 p2 p3 p0 (QA .i64 ((QA .i64 ((QA .i64 (QB (QA .u64 (QA .i64 (p1+p3))) (2 ^ 1)))+p2)) - p3)) (QA .i64 (QB (QA .u64 (QA .i64 (p1+p3))) (2 ^ 1)))) else (aOl p1 p2 p3 p0 p1 p2)))
  partial_fixpoint
end
mutual
def aIe (p1:Int) (x6:Int) (jD:List (Value×(List aA))):Option (List (Value×(List aA))) :=
  aKm p1 (QA .i64 (x6 * 2)) jD
  partial_fixpoint
def aNb (p1:Int) (x6:Int) (fU:Int) (gI:Int) (gY:List (Value×(List aA))):Option (List (Value×(List aA))) :=
  if (decide (gI≤p1))=true then ((aG4 gY fU (QA .i64 (fU+x6)) gI)>>=fun y7=>aNb p1 x6 gI (QA .i64 (gI+(QA .i64 (2 * x6)))) y7) else (if (decide ((QA .i64 (fU+x6))<p1))=true then ((aG4 gY fU (QA .i64 (fU+x6)) p1)>>=fun y8=>aIe p1 x6 y8) else (aIe p1 x6 gY))
  partial_fixpoint
def aKm (p1:Int) (x6:Int) (iP:List (Value×(List aA))):Option (List (Value×(List aA))) :=
  if (decide (x6<p1))=true then (aNb p1 x6 0 (QA .i64 (2 * x6)) iP) else (some iP)
  partial_fixpoint
end
def aGv (p1:Int) (x7:Int) (x8:Int) (aU:List (Value×(List aA))):Option (List (Value×(List aA))) :=
  if (decide (x8≤p1))=true then ((aEn aU x7 x8)>>=fun y1=>aGv p1 x8 (QA .i64 (x8+20)) y1) else ((aEn aU x7 p1)>>=fun y2=>aKm p1 20 y2)
  partial_fixpoint
def aNa (p0:List (Value×(List aA))) (p1:Int):Option (List (Value×(List aA))) :=
  aGv p1 0 20 p0
def aH7 (p0:List (Value×(List aA))):Option (List (Value×(List aA))) :=
  (aNa p0 (p0.length:Int))>>=fun y1=>some y1
def aF6 (p0:List (List aA)):Option (List (List aA)) :=
  if (decide (p0.length<20)&&p0.all fun r=>decide (r.length≤1000))=true then (aH7 (p0.map fun x=>(default,x)))>>=fun y=>some (y.map Prod.snd) else none
def aAu (p0:List (List aA)) (x9:Int) (bX:List (List aA)):Option (List (List aA)) :=
  if (decide (x9<(p0.length:Int)))=true then ((idx p0 x9)>>=fun y1=>(aD3 y1)>>=fun y2=>(appG 24 bX ([y2]:List (List aA)))>>=fun y3=>aAu p0 (QA .i64 (x9+1)) y3) else (some bX)
  partial_fixpoint
def aI1 (p0:List (List aA)):Option (List (List aA)) :=
  aAu p0 0 ([]:List (List aA))
def aH4 (p0:List (List aA)):Option (List (List aA)) :=
  (aI1 p0)>>=fun y1=>(aF6 y1)>>=fun y2=>some y2
def zC (x10:List UInt8) (y2:aP×GDb×aQ) (x16:List UInt8) (x17:Int):Option Bool :=
  if (decide (x17<(y2.2.1.tables.length:Int)))=true then ((idx y2.2.1.tables x17)>>=fun y15=>(yR y15.rows)>>=fun y16=>(pW x16 y16)>>=fun y17=>(pW y17 [47])>>=fun y18=>zC x10 y2 y18 (QA .i64 (x17+1))) else (some (decide (x10=x16)))
  partial_fixpoint
def F7 (x10:List UInt8) (y2:aP×GDb×aQ) (x15:Int) (kX:List (List aA)):Option Bool :=
  if (decide (x15<(kX.length:Int)))=true then ((idx kX x15)>>=fun y13=>(idx y13 0)>>=fun y14=>F7 x10 y2 (QA .i64 (x15+1)) (kX.set (x15).toNat (y13.set (0:Int).toNat (aA.mk 1 4712 [])))) else (zC x10 y2 [] 0)
  partial_fixpoint
mutual
def Y7 (x10:List UInt8) (x12:Int) (y2:aP×GDb×aQ) (x13:Int) (kJ:List (List aA)):Option Bool :=
  (idx kJ x12)>>=fun y11=>if (decide (x13<(y11.length:Int)))=true then ((idx y11 x13)>>=fun y12=>Y7 x10 x12 y2 (QA .i64 (x13+1)) (kJ.set (x12).toNat (y11.set (x13).toNat (aA.mk 1 4711 [])))) else (zK x10 y2 (QA .i64 (x12+1)) (kJ.set (x12).toNat y11))
  partial_fixpoint
def zK (x10:List UInt8) (y2:aP×GDb×aQ) (x12:Int) (nM:List (List aA)):Option Bool :=
  if (decide (x12<(nM.length:Int)))=true then (Y7 x10 x12 y2 0 nM) else ((idx y2.2.1.tables 0)>>=fun y9=>(aH4 y9.rows)>>=fun y10=>F7 x10 y2 0 y10)
  partial_fixpoint
end
def N7 (y2:aP×GDb×aQ) (y3:(List (List aA))×Int) (x10:List UInt8) (x11:Int):Option Bool :=
  if (decide (x11<(y2.2.1.tables.length:Int)))=true then ((idx y2.2.1.tables x11)>>=fun y5=>(yR y5.rows)>>=fun y6=>(pW x10 y6)>>=fun y7=>(pW y7 [47])>>=fun y8=>N7 y2 y3 y8 (QA .i64 (x11+1))) else (zK x10 y2 0 y3.1)
  partial_fixpoint
def aM3 (p0:List Int):Option Bool :=
  (aPd p0)>>=fun y1=>if y1=true then (some true) else ((aJo p0)>>=fun y2=>(aK7 y2.1 y2.2.1 y2.2.2)>>=fun y3=>(aKj y2.1 y2.2.1 y2.2.2)>>=fun y4=>if (!decide (y3.2=y4.2))=true then (some false) else (N7 y2 y3 [] 0))
end Go.Ab
