/- The functions of the program,as Lean functions (printed by a program). -/
import Derived.Test.YtcbkkemcgcdhdabGreatAbF2
import Derived.Test.YtcbkkemcgcdhdabGreatAbF0
namespace Go.Ab
open Go
open Go.IntKind renaming wrap→QA
open _root_.Int renaming fdiv→QB,tmod→QC
structure bP where
  name:(List UInt8)
  type:Int
instance:Inhabited bP:=⟨(bP.mk [] 0)⟩
structure bH where
  name:(List UInt8)
  cols:(List bP)
instance:Inhabited bH:=⟨(bH.mk [] [])⟩
structure aX where
  tables:(List bH)
instance:Inhabited aX:=⟨(aX.mk [])⟩
structure aA where
  kind:Int
  num:Int
  text:(List UInt8)
instance:Inhabited aA:=⟨(aA.mk 0 0 [])⟩
structure bN where
  rows:(List (List aA))
instance:Inhabited bN:=⟨(bN.mk [])⟩
structure GDb where
  tables:(List bN)
instance:Inhabited GDb:=⟨(GDb.mk [])⟩
mutual
structure aJ where
  kind:Int
  op:Int
  not_:Bool
  value:aA
  up:Int
  at_:Int
  kids:(List aJ)
  sub:(List aQ)
structure bD where
  expr:aJ
  desc:Bool
structure aQ where
  tables:(List Int)
  on_:(List (List aJ))
  where_:(List aJ)
  order:(List bD)
  items:(List aJ)
  names:(List (List UInt8))
  distinct:Bool
  limit:Int
end
instance:Inhabited aJ:=⟨(aJ.mk 0 0 false (aA.mk 0 0 []) 0 0 [] [])⟩
instance:Inhabited bD:=⟨(bD.mk (aJ.mk 0 0 false (aA.mk 0 0 []) 0 0 [] []) false)⟩
instance:Inhabited aQ:=⟨(aQ.mk [] [] [] [] [] [] false 0)⟩
structure tK where
  c0:(List aA)
instance:Inhabited tK:=⟨(tK.mk [])⟩
mutual
structure eZ where
  kind:Int
  op:Int
  not_:Bool
  value:aA
  qual:(List UInt8)
  name:(List UInt8)
  kids:(List eZ)
  sub:(List jI)
structure pO where
  star:Bool
  qual:(List UInt8)
  expr:eZ
  as_:(List UInt8)
structure jI where
  distinct:Bool
  items:(List pO)
  from_:(List oP)
  where_:(List eZ)
  order:(List oW)
  limit:Int
structure oW where
  expr:eZ
  desc:Bool
structure oP where
  table:(List UInt8)
  as_:(List UInt8)
  on_:(List eZ)
end
instance:Inhabited eZ:=⟨(eZ.mk 0 0 false (aA.mk 0 0 []) [] [] [] [])⟩
instance:Inhabited pO:=⟨(pO.mk false [] (eZ.mk 0 0 false (aA.mk 0 0 []) [] [] [] []) [])⟩
instance:Inhabited jI:=⟨(jI.mk false [] [] [] [] 0)⟩
instance:Inhabited oW:=⟨(oW.mk (eZ.mk 0 0 false (aA.mk 0 0 []) [] [] [] []) false)⟩
instance:Inhabited oP:=⟨(oP.mk [] [] [])⟩
structure jV where
  op:Bool
  not_:Bool
  value:Bool
  name:Bool
  least:Int
  most:Int
  subs:Int
instance:Inhabited jV:=⟨(jV.mk false false false false 0 0 0)⟩
structure cK where
  c0:aX
  c1:GDb
  c2:(List (List aA))
  c3:aJ
instance:Inhabited cK:=⟨(cK.mk (aX.mk []) (GDb.mk []) [] (aJ.mk 0 0 false (aA.mk 0 0 []) 0 0 [] []))⟩
structure lU where
  eval:cK
  desc:Bool
instance:Inhabited lU:=⟨(lU.mk (cK.mk (aX.mk []) (GDb.mk []) [] (aJ.mk 0 0 false (aA.mk 0 0 []) 0 0 [] [])) false)⟩
structure O6 where
  c0:(List cK)
instance:Inhabited O6:=⟨(O6.mk [])⟩
structure eT where
  tables:(List (List (List aA)))
  on_:(List (List cK))
  where_:(List cK)
  order:(List lU)
  items:O6
  distinct:Bool
  limit:Int
instance:Inhabited eT:=⟨(eT.mk [] [] [] [] (O6.mk []) false 0)⟩
structure nE where
  c0:aX
  c1:GDb
  c2:(List (List aA))
instance:Inhabited nE:=⟨(nE.mk (aX.mk []) (GDb.mk []) [])⟩
structure oI where
  kind:Int
  op:Int
  not_:Bool
  value:aA
  kids:(List aA)
  rows:(List (List aA))
instance:Inhabited oI:=⟨(oI.mk 0 0 false (aA.mk 0 0 []) [] [])⟩
structure aV where
  row:(List aA)
  keys:(List aA)
instance:Inhabited aV:=⟨(aV.mk [] [])⟩
structure dJ where
  c0:eT
instance:Inhabited dJ:=⟨(dJ.mk (eT.mk [] [] [] [] (O6.mk []) false 0))⟩
def okGCol (x:bP):Prop:=okS x.name∧okI x.type
def okGTable (x:bH):Prop:=okS x.name∧(okL okGCol) x.cols
def okGCatalog (x:aX):Prop:=(okL okGTable) x.tables
def okGValue (x:aA):Prop:=okI x.kind∧okI x.num∧okS x.text
def okGData (x:bN):Prop:=(okL (okL okGValue)) x.rows
def okGDb (x:GDb):Prop:=(okL okGData) x.tables
mutual
def okGPExpr:aJ→Prop
  | ⟨a0,a1,a2,a3,a4,a5,a6,a7⟩=>okI a0∧okI a1∧okB a2∧okGValue a3∧okI a4∧okI a5∧(a6.length≤9223372036854775807∧okLGPExpr a6)∧(a7.length≤9223372036854775807∧okLGPlan a7)
def okGPSort:bD→Prop
  | ⟨a0,a1⟩=>okGPExpr a0∧okB a1
def okGPlan:aQ→Prop
  | ⟨a0,a1,a2,a3,a4,a5,a6,a7⟩=>(okL okI) a0∧(a1.length≤9223372036854775807∧okLLGPExpr a1)∧(a2.length≤9223372036854775807∧okLGPExpr a2)∧(a3.length≤9223372036854775807∧okLGPSort a3)∧(a4.length≤9223372036854775807∧okLGPExpr a4)∧(okL okS) a5∧okB a6∧okI a7
def okLGPExpr:List aJ→Prop
  | []=>True
  | x::l=>okGPExpr x∧okLGPExpr l
def okLGPSort:List bD→Prop
  | []=>True
  | x::l=>okGPSort x∧okLGPSort l
def okLGPlan:List aQ→Prop
  | []=>True
  | x::l=>okGPlan x∧okLGPlan l
def okLLGPExpr:List (List aJ)→Prop
  | []=>True
  | x::l=>(x.length≤9223372036854775807∧okLGPExpr x)∧okLLGPExpr l
end
mutual
def okGExpr:eZ→Prop
  | ⟨a0,a1,a2,a3,a4,a5,a6,a7⟩=>okI a0∧okI a1∧okB a2∧okGValue a3∧okS a4∧okS a5∧(a6.length≤9223372036854775807∧okLGExpr a6)∧(a7.length≤9223372036854775807∧okLGQuery a7)
def okGItem:pO→Prop
  | ⟨a0,a1,a2,a3⟩=>okB a0∧okS a1∧okGExpr a2∧okS a3
def okGQuery:jI→Prop
  | ⟨a0,a1,a2,a3,a4,a5⟩=>okB a0∧(a1.length≤9223372036854775807∧okLGItem a1)∧(a2.length≤9223372036854775807∧okLGSource a2)∧(a3.length≤9223372036854775807∧okLGExpr a3)∧(a4.length≤9223372036854775807∧okLGSortKey a4)∧okI a5
def okGSortKey:oW→Prop
  | ⟨a0,a1⟩=>okGExpr a0∧okB a1
def okGSource:oP→Prop
  | ⟨a0,a1,a2⟩=>okS a0∧okS a1∧(a2.length≤9223372036854775807∧okLGExpr a2)
def okLGExpr:List eZ→Prop
  | []=>True
  | x::l=>okGExpr x∧okLGExpr l
def okLGItem:List pO→Prop
  | []=>True
  | x::l=>okGItem x∧okLGItem l
def okLGQuery:List jI→Prop
  | []=>True
  | x::l=>okGQuery x∧okLGQuery l
def okLGSortKey:List oW→Prop
  | []=>True
  | x::l=>okGSortKey x∧okLGSortKey l
def okLGSource:List oP→Prop
  | []=>True
  | x::l=>okGSource x∧okLGSource l
end
def okGForm (x:jV):Prop:=okB x.op∧okB x.not_∧okB x.value∧okB x.name∧okI x.least∧okI x.most∧okI x.subs
def okGSortBy (x:lU):Prop:=(fun _=>True) x.eval∧okB x.desc
def okGExecution (x:eT):Prop:=(okL (okL (okL okGValue))) x.tables∧(okL (okL (fun _=>True))) x.on_∧(okL (fun _=>True)) x.where_∧(okL okGSortBy) x.order∧(fun _=>True) x.items∧okB x.distinct∧okI x.limit
def okGNode (x:oI):Prop:=okI x.kind∧okI x.op∧okB x.not_∧okGValue x.value∧(okL okGValue) x.kids∧(okL (okL okGValue)) x.rows
def okGKeyed (x:aV):Prop:=(okL okGValue) x.row∧(okL okGValue) x.keys
def aOc (p0:bP) (c0_0:List UInt8):Option Bool :=
  some (decide (p0.name=c0_0))
def U0 (p0:List bP) (c0_0:List UInt8) (x8:Int):Option Int :=
  if (decide (x8<(p0.length:Int)))=true then ((idx p0 x8)>>=fun y1=>(aOc y1 c0_0)>>=fun y2=>if y2=true then (some x8) else (U0 p0 c0_0 (QA .i64 (x8+1)))) else (some (-1))
  partial_fixpoint
def aSv (p0:List bP) (c0_0:List UInt8):Option Int :=
  U0 p0 c0_0 0
def aLe (p0:bH) (p1:List UInt8):Option Int :=
  (aSv p0.cols p1)>>=fun y1=>some y1
def pX (p0:List UInt8):Option Bool :=
  (some (if (decide (1≤(p0.length:Int)))=true then (decide ((p0.length:Int)≤20)) else false))>>=fun y1=>some y1
def aA9 (p0:bH) (x8:Int):Option Bool :=
  if (decide (x8<(p0.cols.length:Int)))=true then ((idx p0.cols x8)>>=fun y1=>(pX y1.name)>>=fun y2=>(some (if (!y2)=true then true else (decide (y1.type<1))))>>=fun y3=>(some (if y3=true then true else (decide (3<y1.type))))>>=fun y4=>(if (true&&(y4==false))=true then aLe p0 y1.name else some default)>>=fun y5=>(some (if y4=true then true else (!decide (y5=x8))))>>=fun y6=>if y6=true then (some false) else (aA9 p0 (QA .i64 (x8+1)))) else ((pX p0.name)>>=fun y7=>(some (if y7=true then (decide (1≤(p0.cols.length:Int))) else false))>>=fun y8=>(some (if y8=true then (decide ((p0.cols.length:Int)≤4)) else false))>>=fun y9=>some y9)
  partial_fixpoint
def aJh (p0:bH):Option Bool :=
  aA9 p0 0
def aP4 (p0:bH) (c0_0:List UInt8):Option Bool :=
  some (decide (p0.name=c0_0))
def O8 (p0:List bH) (c0_0:List UInt8) (x8:Int):Option Int :=
  if (decide (x8<(p0.length:Int)))=true then ((idx p0 x8)>>=fun y1=>(aP4 y1 c0_0)>>=fun y2=>if y2=true then (some x8) else (O8 p0 c0_0 (QA .i64 (x8+1)))) else (some (-1))
  partial_fixpoint
def aO9 (p0:List bH) (c0_0:List UInt8):Option Int :=
  O8 p0 c0_0 0
def aIl (p0:aX) (p1:List UInt8):Option Int :=
  (aO9 p0.tables p1)>>=fun y1=>some y1
def R4 (p0:aX) (x8:Int):Option Bool :=
  if (decide (x8<(p0.tables.length:Int)))=true then ((idx p0.tables x8)>>=fun y1=>(aJh y1)>>=fun y2=>(if (true&&((!y2)==false))=true then aIl p0 y1.name else some default)>>=fun y3=>(some (if (!y2)=true then true else (!decide (y3=x8))))>>=fun y4=>if y4=true then (some false) else (R4 p0 (QA .i64 (x8+1)))) else (some (decide ((p0.tables.length:Int)≤4)))
  partial_fixpoint
def aC7 (p0:aX):Option Bool :=
  R4 p0 0
def qB (p0:aA):Option Bool :=
  if (decide (p0.kind=0))=true then ((some (if (decide (p0.num=0))=true then (decide (p0.text=[])) else false))>>=fun y1=>some y1) else (if (decide (p0.kind=1))=true then (some (decide (p0.text=[]))) else (if (decide (p0.kind=2))=true then ((some (if (decide (p0.num=0))=true then (decide ((p0.text.length:Int)≤200)) else false))>>=fun y2=>some y2) else (if (decide (p0.kind=3))=true then ((some (if (decide (p0.num=0))=true then true else (decide (p0.num=1))))>>=fun y3=>(some (if y3=true then (decide (p0.text=[])) else false))>>=fun y4=>some y4) else (some false))))
def aMt (p0:aA) (p1:Int):Option Bool :=
  (qB p0)>>=fun y1=>(if (true&&(y1==true))=true then some (if (decide (p0.kind=0))=true then true else (decide (p0.kind=p1))) else some default)>>=fun y2=>(some (if y1=true then y2 else false))>>=fun y3=>some y3
def U6 (p1:List Int) (p0:List aA) (x14:Int):Option Bool :=
  if (decide (x14<(p0.length:Int)))=true then ((idx p0 x14)>>=fun y1=>(idx p1 x14)>>=fun y2=>(aMt y1 y2)>>=fun y3=>if (!y3)=true then (some false) else (U6 p1 p0 (QA .i64 (x14+1)))) else (some true)
  partial_fixpoint
def aGb (p0:List aA) (p1:List Int):Option Bool :=
  if (!decide ((p0.length:Int)=(p1.length:Int)))=true then (some false) else (U6 p1 p0 0)
def aO6 (p0:List aA) (c0_0:List Int):Option Bool :=
  (aGb p0 c0_0)>>=fun y1=>some (!y1)
def aAa (p0:List (List aA)) (c0_0:List Int) (x8:Int):Option Int :=
  if (decide (x8<(p0.length:Int)))=true then ((idx p0 x8)>>=fun y1=>(aO6 y1 c0_0)>>=fun y2=>if y2=true then (some x8) else (aAa p0 c0_0 (QA .i64 (x8+1)))) else (some (-1))
  partial_fixpoint
def aNy (p0:List (List aA)) (c0_0:List Int):Option Int :=
  aAa p0 c0_0 0
def aJq (p0:List (List aA)) (c0_0:List Int):Option Bool :=
  (aNy p0 c0_0)>>=fun y1=>some (decide (0≤y1))
def wH (p0:bH) (x3:List Int) (x10:Int):Option (List Int) :=
  if (decide (x10<(p0.cols.length:Int)))=true then ((idx p0.cols x10)>>=fun y1=>(appG 8 x3 ([y1.type]:List Int))>>=fun y2=>wH p0 y2 (QA .i64 (x10+1))) else (some x3)
  partial_fixpoint
def aAh (p0:bH):Option (List Int) :=
  wH p0 ([]:List Int) 0
def H5 (p1:GDb) (p0:aX) (x23:Int):Option Bool :=
  if (decide (x23<(p1.tables.length:Int)))=true then ((idx p1.tables x23)>>=fun y3=>(idx p0.tables x23)>>=fun y4=>(aAh y4)>>=fun y5=>(if (true&&((decide (6<(y3.rows.length:Int)))==false))=true then aJq y3.rows y5 else some (default:Bool))>>=fun y6=>(some (if (decide (6<(y3.rows.length:Int)))=true then true else y6))>>=fun y7=>if y7=true then (some false) else (H5 p1 p0 (QA .i64 (x23+1)))) else (some true)
  partial_fixpoint
def aJs (p0:aX) (p1:GDb):Option Bool :=
  (aC7 p0)>>=fun y1=>(some (if (!y1)=true then true else (!decide ((p1.tables.length:Int)=(p0.tables.length:Int)))))>>=fun y2=>if y2=true then (some false) else (H5 p1 p0 0)
def aB9 (p1:aX) (p2:GDb) (p3:List (List aA)) (p0:List aJ) (x6:List cK) (x12:Int):Option (List cK) :=
  if (decide (x12<(p0.length:Int)))=true then ((idx p0 x12)>>=fun y1=>(appG 8 x6 ([(cK.mk p1 p2 p3 y1)]:List cK))>>=fun y2=>aB9 p1 p2 p3 p0 y2 (QA .i64 (x12+1))) else (some x6)
  partial_fixpoint
def aA0 (p0:List aJ) (p1:aX) (p2:GDb) (p3:List (List aA)):Option (List cK) :=
  aB9 p1 p2 p3 p0 ([]:List cK) 0
def wG (p0:List (List aA)) (x6:List aA) (x27:Int):Option (List aA) :=
  if (decide (x27<(p0.length:Int)))=true then ((idx p0 x27)>>=fun y3=>(appG 32 x6 y3)>>=fun y4=>wG p0 y4 (QA .i64 (x27+1))) else (some x6)
  partial_fixpoint
def aO8 (p0:List aA) (p1:Int):Option (List aA) :=
  aIy 32 p0 p1
mutual
def aFd (p0:List (List aA)) (x3:Int) (y1:List aA) (x11:Int):Option (List aA) :=
  yK p0 (QA .i64 (x3+(y1.length:Int))) (QA .i64 (x11+1))
  partial_fixpoint
def yK (p0:List (List aA)) (x3:Int) (x11:Int):Option (List aA) :=
  if (decide (x11<(p0.length:Int)))=true then ((idx p0 x11)>>=fun y1=>if (decide ((QA .i64 (x3+(y1.length:Int)))<0))=true then (none) else (aFd p0 x3 y1 x11)) else ((aO8 ([]:List aA) x3)>>=fun y2=>wG p0 y2 0)
  partial_fixpoint
end
def aIn (p0:List (List aA)):Option (List aA) :=
  yK p0 0 0
def aJy (p0:aA):Option Bool :=
  (some (if (decide (p0.kind=3))=true then (decide (p0.num=1)) else false))>>=fun y1=>some y1
def aPt (N9:Int):Option aA :=
  some (aA.mk 3 N9 [])
def qD (p0:Bool):Option aA :=
  if p0=true then (aPt 1) else (aPt 0)
def aHa (p0:Int) (p1:Int):Option (Int×Bool) :=
  (some (if (decide (0<p1))=true then (decide ((QA .i64 (9223372036854775807 - p1))<p0)) else false))>>=fun y1=>(if (true&&(y1==false))=true then some (if (decide (p1<0))=true then (decide (p0<(QA .i64 ((-9223372036854775808) - p1)))) else false) else some default)>>=fun y2=>(some (if y1=true then true else y2))>>=fun y3=>if y3=true then (some (0,false)) else (some ((QA .i64 (p0+p1)),true))
def V3 (p0:Int):Option aA :=
  some (aA.mk 1 p0 [])
def aFt (x8:Int) (x9:Bool):Option (aA×Int) :=
  if (!x9)=true then (some ((aA.mk 0 0 []),2)) else ((V3 x8)>>=fun y5=>some (y5,0))
def aSm (p0:Int) (p1:Int) (p2:Int):Option (aA×Int) :=
  if (decide (p2=0))=true then (some ((aA.mk 0 0 []),3)) else (if (decide (p0=14))=true then ((aG5 p1 p2)>>=fun y1=>(V3 y1)>>=fun y2=>some (y2,0)) else ((some (if (decide (p1=(-9223372036854775808)))=true then (decide (p2=(-1))) else false))>>=fun y3=>if y3=true then (some ((aA.mk 0 0 []),2)) else ((yO .i64 p1 p2)>>=fun y4=>(V3 y4)>>=fun y5=>some (y5,0))))
def aL7 (p0:Int) (p1:Int):Option (Int×Bool) :=
  (if (true&&((!decide (p0=0))==true))=true then yO .i64 (QA .i64 (p0 * p1)) p0 else some default)>>=fun y1=>(if ((true&&((!decide (p0=0))==true))&&((!decide (y1=p1))==false))=true then some (if (decide (p0=(-1)))=true then (decide (p1=(-9223372036854775808))) else false) else some default)>>=fun y2=>(if (true&&((!decide (p0=0))==true))=true then some (if (!decide (y1=p1))=true then true else y2) else some default)>>=fun y3=>(some (if (!decide (p0=0))=true then y3 else false))>>=fun y4=>if y4=true then (some (0,false)) else (some ((QA .i64 (p0 * p1)),true))
def aHb (p0:Int) (p1:Int):Option (Int×Bool) :=
  (some (if (decide (p1<0))=true then (decide ((QA .i64 (9223372036854775807+p1))<p0)) else false))>>=fun y1=>(if (true&&(y1==false))=true then some (if (decide (0<p1))=true then (decide (p0<(QA .i64 ((-9223372036854775808)+p1)))) else false) else some default)>>=fun y2=>(some (if y1=true then true else y2))>>=fun y3=>if y3=true then (some (0,false)) else (some ((QA .i64 (p0 - p1)),true))
def aHy (p0:Int) (p1:Int) (p2:Int):Option (aA×Int) :=
  if (decide (p0=10))=true then ((aHa p1 p2)>>=fun y1=>aFt y1.1 y1.2) else (if (decide (p0=11))=true then ((aHb p1 p2)>>=fun y2=>aFt y2.1 y2.2) else (if (decide (p0=12))=true then ((aL7 p1 p2)>>=fun y3=>aFt y3.1 y3.2) else ((aSm p0 p1 p2)>>=fun y4=>some (y4.1,y4.2))))
def aI7 (p0:Int):Option Bool :=
  some (!decide (p0=p0))
def aGs (p0:Int) (p1:Int):Option Int :=
  (aI7 p0)>>=fun y1=>(aI7 p1)>>=fun y2=>if y1=true then (if y2=true then (some 0) else (some (-1))) else (if y2=true then (some 1) else (if (decide (p0<p1))=true then (some (-1)) else (if (decide (p1<p0))=true then (some 1) else (some 0))))
def aMq (p0:List UInt8):Option Bool :=
  some (!decide (p0=p0))
def aLh (p0:List UInt8) (p1:List UInt8):Option Int :=
  (aMq p0)>>=fun y1=>(aMq p1)>>=fun y2=>if y1=true then (if y2=true then (some 0) else (some (-1))) else (if y2=true then (some 1) else (if (Op.bytesLess p0 p1)=true then (some (-1)) else (if (!(Op.bytesLess p0 p1||decide (p0=p1)))=true then (some 1) else (some 0))))
def H7 (p0:List Int) (x8:Int):Option Int :=
  if (decide (x8<(p0.length:Int)))=true then ((idx p0 x8)>>=fun y1=>if (!decide (y1=0))=true then (some y1) else (H7 p0 (QA .i64 (x8+1)))) else (some 0)
  partial_fixpoint
def aKf (p0:List Int):Option Int :=
  H7 p0 0
def aEp (p0:aA) (p1:aA):Option Int :=
  (aGs p0.kind p1.kind)>>=fun y1=>(aGs p0.num p1.num)>>=fun y2=>(aLh p0.text p1.text)>>=fun y3=>(aKf ([y1,y2,y3]:List Int))>>=fun y4=>some y4
def aCl (p0:Int) (p1:aA) (p2:aA):Option aA :=
  (aEp p1 p2)>>=fun y1=>if (decide (p0=3))=true then ((qD (decide (y1=0)))>>=fun y2=>some y2) else (if (decide (p0=4))=true then ((qD (!decide (y1=0)))>>=fun y3=>some y3) else (if (decide (p0=5))=true then ((qD (decide (y1<0)))>>=fun y4=>some y4) else (if (decide (p0=6))=true then ((qD (decide (y1≤0)))>>=fun y5=>some y5) else (if (decide (p0=7))=true then ((qD (decide (0<y1)))>>=fun y6=>some y6) else ((qD (decide (0≤y1)))>>=fun y7=>some y7)))))
def Z8 (p0:Int) (p1:aA):Option Bool :=
  (some (if (decide (p1.kind=0))=true then true else (decide (p0≤8))))>>=fun y1=>if y1=true then (some true) else (if (decide (p0=9))=true then (some (decide (p1.kind=2))) else (some (decide (p1.kind=1))))
def O9 (p0:Int) (p1:aA) (p2:aA) (x15:Int):Option (aA×Int) :=
  if (decide (x15<(([p1,p2]:List aA).length:Int)))=true then ((idx ([p1,p2]:List aA) x15)>>=fun y1=>(some (if (!decide (y1.kind=3))=true then (!decide (y1.kind=0)) else false))>>=fun y2=>if y2=true then (some ((aA.mk 0 0 []),1)) else (O9 p0 p1 p2 (QA .i64 (x15+1)))) else ((qD (decide (p0=1)))>>=fun y3=>(some (if ((decide (p1.kind=y3.kind))&&((decide (p1.num=y3.num))&&((decide (p1.text=y3.text))&&true)))=true then true else ((decide (p2.kind=y3.kind))&&((decide (p2.num=y3.num))&&((decide (p2.text=y3.text))&&true)))))>>=fun y4=>if y4=true then (some (y3,0)) else ((some (if (decide (p1.kind=0))=true then true else (decide (p2.kind=0))))>>=fun y5=>if y5=true then (some ((aA.mk 0 0 []),0)) else ((qD (decide (p0=2)))>>=fun y6=>some (y6,0))))
  partial_fixpoint
def aJk (p0:Int) (p1:aA) (p2:aA):Option (aA×Int) :=
  O9 p0 p1 p2 0
def aQj (p0:List UInt8):Option aA :=
  some (aA.mk 2 0 p0)
def rP (p0:Int) (p1:aA) (p2:aA):Option (aA×Int) :=
  (some (if (decide (p0<1))=true then true else (decide (14<p0))))>>=fun y1=>(if (true&&(y1==false))=true then qB p1 else some default)>>=fun y2=>(some (if y1=true then true else (!y2)))>>=fun y3=>(if (true&&(y3==false))=true then qB p2 else some default)>>=fun y4=>(some (if y3=true then true else (!y4)))>>=fun y5=>if y5=true then (some ((aA.mk 0 0 []),1)) else (if (decide (p0≤2))=true then ((aJk p0 p1 p2)>>=fun y6=>some (y6.1,y6.2)) else ((some (if (decide (p1.kind=0))=true then true else (decide (p2.kind=0))))>>=fun y7=>(Z8 p0 p1)>>=fun y8=>(if (true&&((!y8)==false))=true then Z8 p0 p2 else some default)>>=fun y9=>(some (if (!y8)=true then true else (!y9)))>>=fun y10=>(if (true&&(y10==false))=true then some (if (decide (p0≤8))=true then (!y7) else false) else some default)>>=fun y11=>(if (true&&(y10==false))=true then some (if y11=true then (!decide (p1.kind=p2.kind)) else false) else some default)>>=fun y12=>(some (if y10=true then true else y12))>>=fun y13=>if y13=true then (some ((aA.mk 0 0 []),1)) else (if y7=true then (some ((aA.mk 0 0 []),0)) else (if (decide (p0≤8))=true then ((aCl p0 p1 p2)>>=fun y14=>some (y14,0)) else (if (!decide (p0=9))=true then ((aHy p0 p1.num p2.num)>>=fun y15=>some (y15.1,y15.2)) else (if (decide (200<(QA .i64 ((p1.text.length:Int)+(p2.text.length:Int)))))=true then (some ((aA.mk 0 0 []),2)) else ((xO p1.text p2.text)>>=fun y16=>(aQj y16)>>=fun y17=>some (y17,0))))))))
def aM0 (p0:aA) (p1:aA) (p2:aA):Option (aA×Int) :=
  (rP 8 p0 p1)>>=fun y1=>if (!decide (y1.2=0))=true then (some ((aA.mk 0 0 []),y1.2)) else ((rP 6 p0 p2)>>=fun y2=>if (!decide (y2.2=0))=true then (some ((aA.mk 0 0 []),y2.2)) else ((rP 2 y1.1 y2.1)>>=fun y3=>some (y3.1,y3.2)))
def P8 (p1:List aA) (p0:aA) (x14:Int) (iX:Int) (iU:Int) (iV:List UInt8):Option (aA×Int) :=
  if (decide (x14<(p1.length:Int)))=true then ((idx p1 x14)>>=fun y2=>(rP 3 p0 y2)>>=fun y3=>if (!decide (y3.2=0))=true then (some ((aA.mk 0 0 []),y3.2)) else ((rP 1 (aA.mk iX iU iV) y3.1)>>=fun y4=>if (!decide (y4.2=0))=true then (some ((aA.mk 0 0 []),y4.2)) else (P8 p1 p0 (QA .i64 (x14+1)) y4.1.kind y4.1.num y4.1.text))) else (some ((aA.mk iX iU iV),0))
  partial_fixpoint
def aEj (p0:aA) (p1:List aA):Option (aA×Int) :=
  (qD false)>>=fun y1=>P8 p1 p0 0 y1.kind y1.num y1.text
def J5 (p0:oI) (x4:List aA) (x42:Int):Option (aA×Int) :=
  if (decide (x42<(p0.rows.length:Int)))=true then ((idx p0.rows x42)>>=fun y8=>if (decide ((y8.length:Int)=0))=true then (some ((aA.mk 0 0 []),4)) else ((idx y8 0)>>=fun y9=>(appG 32 x4 ([y9]:List aA))>>=fun y10=>J5 p0 y10 (QA .i64 (x42+1)))) else ((idx p0.kids 0)>>=fun y11=>(aEj y11 x4)>>=fun y12=>some (y12.1,y12.2))
  partial_fixpoint
def aE7 (p0:oI):Option (aA×Int) :=
  if (decide (p0.kind=6))=true then ((idx p0.kids 0)>>=fun y1=>(idx p0.kids 1)>>=fun y2=>(idx p0.kids 2)>>=fun y3=>(aM0 y1 y2 y3)>>=fun y4=>some (y4.1,y4.2)) else (if (decide (p0.kind=7))=true then ((idx p0.kids 0)>>=fun y5=>(gY p0.kids 1 (p0.kids.length:Int))>>=fun y6=>(aEj y5 y6)>>=fun y7=>some (y7.1,y7.2)) else (J5 p0 ([]:List aA) 0))
def aBy (p0:Int) (p1:aA):Option (aA×Int) :=
  (qB p1)>>=fun y1=>(if (true&&((!y1)==false))=true then some (if (!decide (p0=15))=true then (!decide (p0=16)) else false) else some default)>>=fun y2=>(some (if (!y1)=true then true else y2))>>=fun y3=>if y3=true then (some ((aA.mk 0 0 []),1)) else (if (decide (p1.kind=0))=true then (some ((aA.mk 0 0 []),0)) else ((some (if (decide (p0=15))=true then (decide (p1.kind=3)) else false))>>=fun y4=>if y4=true then ((qD (decide (p1.num=0)))>>=fun y5=>some (y5,0)) else ((some (if (decide (p0=16))=true then (decide (p1.kind=1)) else false))>>=fun y6=>if y6=true then ((aHy 11 0 p1.num)>>=fun y7=>some (y7.1,y7.2)) else (some ((aA.mk 0 0 []),1)))))
def aLa (p0:oI):Option (aA×Int) :=
  if (decide (p0.kind=1))=true then (some (p0.value,0)) else (if (decide (p0.kind=3))=true then ((idx p0.kids 0)>>=fun y1=>(aBy p0.op y1)>>=fun y2=>some (y2.1,y2.2)) else (if (decide (p0.kind=4))=true then ((idx p0.kids 0)>>=fun y3=>(idx p0.kids 1)>>=fun y4=>(rP p0.op y3 y4)>>=fun y5=>some (y5.1,y5.2)) else (if (decide (p0.kind=5))=true then ((idx p0.kids 0)>>=fun y6=>(qD (!((decide (y6.kind=0))==p0.not_)))>>=fun y7=>some (y7,0)) else (if (decide (p0.kind=9))=true then ((qD (decide (0<(p0.rows.length:Int))))>>=fun y8=>some (y8,0)) else ((aE7 p0)>>=fun y9=>if (!decide (y9.2=0))=true then (some ((aA.mk 0 0 []),y9.2)) else (if p0.not_=true then ((aBy 15 y9.1)>>=fun y10=>some (y10.1,y10.2)) else (some (y9.1,0))))))))
def aCa (p0:aA):Option Bool :=
  (qB p0)>>=fun y1=>(if (true&&(y1==true))=true then some (if (!decide (p0.kind=1))=true then true else (decide (0≤p0.num))) else some default)>>=fun y2=>(some (if y1=true then y2 else false))>>=fun y3=>(some (if y3=true then (decide ((p0.text.length:Int)≤40)) else false))>>=fun y4=>some y4
def E5 (p0:eZ):Option (jV×Bool) :=
  if (decide (p0.kind=1))=true then ((aCa p0.value)>>=fun y1=>some ((jV.mk false false true false 0 0 0),y1)) else (if (decide (p0.kind=2))=true then ((pX p0.name)>>=fun y2=>(if ((true&&(y2==true))&&((decide (p0.qual=[]))==false))=true then pX p0.qual else some default)>>=fun y3=>(if (true&&(y2==true))=true then some (if (decide (p0.qual=[]))=true then true else y3) else some default)>>=fun y4=>(some (if y2=true then y4 else false))>>=fun y5=>some ((jV.mk false false false true 0 0 0),y5)) else (if (decide (p0.kind=3))=true then ((some (if (decide (p0.op=15))=true then true else (decide (p0.op=16))))>>=fun y6=>some ((jV.mk true false false false 1 1 0),y6)) else (if (decide (p0.kind=4))=true then ((some (if (decide (1≤p0.op))=true then (decide (p0.op≤14)) else false))>>=fun y7=>some ((jV.mk true false false false 2 2 0),y7)) else (if (decide (p0.kind=5))=true then (some ((jV.mk false true false false 1 1 0),true)) else (if (decide (p0.kind=6))=true then (some ((jV.mk false true false false 3 3 0),true)) else (if (decide (p0.kind=7))=true then (some ((jV.mk false true false false 2 9 0),true)) else (if (decide (p0.kind=8))=true then (some ((jV.mk false true false false 1 1 1),true)) else (if (decide (p0.kind=9))=true then (some ((jV.mk false false false false 0 0 1),true)) else (some ((jV.mk false false false false 0 0 0),false))))))))))
def aLg (p0:Int) (aA5:Int):Option (jV×Bool) :=
  (E5 (eZ.mk p0 aA5 false (aA.mk 0 0 []) [] [120] ([]:List eZ) ([]:List jI)))>>=fun y1=>some (y1.1,y1.2)
def aQe (p0:Int):Option (jV×Bool) :=
  if (decide (p0=4))=true then (aLg p0 1) else (aLg p0 15)
def aM6 (p0:Int) (p1:Int) (p2:Int):Option Bool :=
  (aQe p0)>>=fun y1=>(some (if y1.2=true then (decide (y1.1.least≤p1)) else false))>>=fun y2=>(some (if y2=true then (decide (p1≤y1.1.most)) else false))>>=fun y3=>(some (if y3=true then (decide (p2=y1.1.subs)) else false))>>=fun y4=>some y4
def aL4 (p0:List aA):Option (List aA) :=
  if (decide ((p0.length:Int)=0))=true then (some ([]:List aA)) else ((appG 32 ([]:List aA) p0)>>=fun y1=>some y1)
def aAm (p0:List aA) (p1:List aA) (x13:Int):Option Bool :=
  if (decide (x13<(p0.length:Int)))=true then ((idx p0 x13)>>=fun y1=>(idx p1 x13)>>=fun y2=>if (!((decide (y1.kind=y2.kind))&&((decide (y1.num=y2.num))&&((decide (y1.text=y2.text))&&true))))=true then (some false) else (aAm p0 p1 (QA .i64 (x13+1)))) else (some true)
  partial_fixpoint
def aK4 (p0:List aA) (p1:List aA):Option Bool :=
  if (!decide ((p0.length:Int)=(p1.length:Int)))=true then (some false) else (aAm p0 p1 0)
def aLp (p0:List aA) (p1:List aA):Option Bool :=
  (aK4 p1 p0)>>=fun y1=>some y1
def J9 (p0:List (List aA)) (p1:tK) (x8:Int):Option Int :=
  if (decide (x8<(p0.length:Int)))=true then ((idx p0 x8)>>=fun y1=>(aLp y1 p1.c0)>>=fun y2=>if y2=true then (some x8) else (J9 p0 p1 (QA .i64 (x8+1)))) else (some (-1))
  partial_fixpoint
def aR8 (p0:List (List aA)) (p1:tK):Option Int :=
  J9 p0 p1 0
def aK5 (p0:List (List aA)) (p1:tK):Option Bool :=
  (aR8 p0 p1)>>=fun y1=>some (decide (0≤y1))
mutual
def aB5 (p0:List (List aA)) (x9:Int) (qV:List (List aA)):Option (List (List aA)) :=
  aDj p0 (QA .i64 (x9+1)) qV
  partial_fixpoint
def aDj (p0:List (List aA)) (x9:Int) (aU:List (List aA)):Option (List (List aA)) :=
  if (decide (x9<(p0.length:Int)))=true then ((idx p0 x9)>>=fun y1=>(aK5 aU (tK.mk y1))>>=fun y2=>if (!y2)=true then ((aL4 y1)>>=fun y3=>(appG 24 aU ([y3]:List (List aA)))>>=fun y4=>aB5 p0 x9 y4) else (aB5 p0 x9 aU)) else (some aU)
  partial_fixpoint
end
def aCz (p0:List (List aA)):Option (List (List aA)) :=
  aDj p0 0 ([]:List (List aA))
def aK1 (yQ:List (List aA)):Option ((List (List aA))×Int) :=
  some (yQ,0)
def yH (p0:eT) (qZ:List (List aA)):Option ((List (List aA))×Int) :=
  (some (if (decide (0≤p0.limit))=true then (decide (p0.limit<(qZ.length:Int))) else false))>>=fun y7=>if y7=true then ((gY qZ 0 p0.limit)>>=fun y8=>aK1 y8) else (aK1 qZ)
mutual
def aD4 (p2:eT) (x12:Int) (p0:aV) (p1:aV) (x8:Int):Option Int :=
  if (!decide (x8=0))=true then (some x8) else (aB1 p2 p0 p1 (QA .i64 (x12+1)))
  partial_fixpoint
def aB1 (p2:eT) (p0:aV) (p1:aV) (x12:Int):Option Int :=
  if (decide (x12<(p2.order.length:Int)))=true then ((idx p2.order x12)>>=fun y1=>(idx p0.keys x12)>>=fun y2=>(idx p1.keys x12)>>=fun y3=>(aEp y2 y3)>>=fun y4=>if y1.desc=true then (aD4 p2 x12 p0 p1 (QA .i64 (0 - y4))) else (aD4 p2 x12 p0 p1 y4)) else (some 0)
  partial_fixpoint
end
def tY (p0:aV) (p1:aV) (p2:eT):Option Int :=
  aB1 p2 p0 p1 0
mutual
def Y3 (p1:Int) (p2:Int) (p3:dJ) (x8:Int) (x9:Int) (fO:List aV):Option (List aV) :=
  (if (true&&((decide (p1<x9))==true))=true then idx fO x9 else some default)>>=fun y2=>(if (true&&((decide (p1<x9))==true))=true then idx fO x9 else some default)>>=fun y3=>(if (true&&((decide (p1<x9))==true))=true then idx fO (QA .i64 (x9 - 1)) else some default)>>=fun y4=>(if (true&&((decide (p1<x9))==true))=true then idx fO (QA .i64 (x9 - 1)) else some default)>>=fun y5=>(if (true&&((decide (p1<x9))==true))=true then tY y3 y5 p3.c0 else some default)>>=fun y6=>(some (if (decide (p1<x9))=true then (decide (y6<0)) else false))>>=fun y7=>if y7=true then ((idx fO (QA .i64 (x9 - 1)))>>=fun y8=>(idx fO (QA .i64 (x9 - 1)))>>=fun y9=>(idx fO x9)>>=fun y10=>(idx fO x9)>>=fun y11=>(idx fO x9)>>=fun y12=>(iC fO x9 y9)>>=fun y13=>(idx y13 (QA .i64 (x9 - 1)))>>=fun y14=>(iC y13 (QA .i64 (x9 - 1)) y11)>>=fun y15=>Y3 p1 p2 p3 x8 (QA .i64 (x9 - 1)) y15) else (zK p1 p2 p3 (QA .i64 (x8+1)) fO)
  partial_fixpoint
def zK (p1:Int) (p2:Int) (p3:dJ) (x8:Int) (aL:List aV):Option (List aV) :=
  if (decide (x8<p2))=true then (Y3 p1 p2 p3 x8 x8 aL) else (some aL)
  partial_fixpoint
end
def aFx (p0:List aV) (p1:Int) (p2:Int) (p3:dJ):Option (List aV) :=
  zK p1 p2 p3 (QA .i64 (p1+1)) p0
def aA3 (p1:Int) (p2:Int) (p3:Int) (x10:Int) (aL:List aV):Option (List aV) :=
  if (decide (x10<p3))=true then ((idx aL (QA .i64 (p2+x10)))>>=fun y1=>(idx aL (QA .i64 (p2+x10)))>>=fun y2=>(idx aL (QA .i64 (p1+x10)))>>=fun y3=>(idx aL (QA .i64 (p1+x10)))>>=fun y4=>(idx aL (QA .i64 (p1+x10)))>>=fun y5=>(iC aL (QA .i64 (p1+x10)) y2)>>=fun y6=>(idx y6 (QA .i64 (p2+x10)))>>=fun y7=>(iC y6 (QA .i64 (p2+x10)) y4)>>=fun y8=>aA3 p1 p2 p3 (QA .i64 (x10+1)) y8) else (some aL)
  partial_fixpoint
def aBa (p0:List aV) (p1:Int) (p2:Int) (p3:Int) (p4:dJ):Option (List aV) :=
  aA3 p1 p2 p3 0 p0
def U7 (p2:Int) (p4:dJ) (x10:Int) (x11:Int) (aL:List aV):Option (List aV) :=
  if (!decide (x10=x11))=true then (if (decide (x11<x10))=true then ((aBa aL (QA .i64 (p2 - x10)) p2 x11 p4)>>=fun y1=>U7 p2 p4 (QA .i64 (x10 - x11)) x11 y1) else ((aBa aL (QA .i64 (p2 - x10)) (QA .i64 ((QA .i64 (p2+x11)) - x10)) x10 p4)>>=fun y2=>U7 p2 p4 x10 (QA .i64 (x11 - x10)) y2)) else ((aBa aL (QA .i64 (p2 - x10)) p2 x10 p4)>>=fun y3=>some y3)
  partial_fixpoint
def aLl (p0:List aV) (p1:Int) (p2:Int) (p3:Int) (p4:dJ):Option (List aV) :=
  U7 p2 p4 (QA .i64 (p2 - p1)) (QA .i64 (p3 - p2)) p0
def O3 (x10:Int) (x13:Int) (aL:List aV):Option (List aV) :=
  if (decide (x13<(QA .i64 (x10 - 1))))=true then ((idx aL (QA .i64 (x13+1)))>>=fun y14=>(idx aL (QA .i64 (x13+1)))>>=fun y15=>(idx aL x13)>>=fun y16=>(idx aL x13)>>=fun y17=>(idx aL x13)>>=fun y18=>(iC aL x13 y15)>>=fun y19=>(idx y19 (QA .i64 (x13+1)))>>=fun y20=>(iC y19 (QA .i64 (x13+1)) y17)>>=fun y21=>O3 x10 (QA .i64 (x13+1)) y21) else (some aL)
  partial_fixpoint
def yI (p1:Int) (p4:dJ) (p0:List aV) (x10:Int) (x11:Int):Option (List aV) :=
  if (decide (x10<x11))=true then ((idx p0 (QA .i64 (QB (QA .u64 (QA .i64 (x10+x11))) (2 ^ 1))))>>=fun y1=>(idx p0 (QA .i64 (QB (QA .u64 (QA .i64 (x10+x11))) (2 ^ 1))))>>=fun y2=>(idx p0 p1)>>=fun y3=>(idx p0 p1)>>=fun y4=>(tY y2 y4 p4.c0)>>=fun y5=>if (decide (y5<0))=true then (yI p1 p4 p0 (QA .i64 ((QA .i64 (QB (QA .u64 (QA .i64 (x10+x11))) (2 ^ 1)))+1)) x11) else (yI p1 p4 p0 x10 (QA .i64 (QB (QA .u64 (QA .i64 (x10+x11))) (2 ^ 1))))) else (O3 x10 p1 p0)
  partial_fixpoint
def aAq (x14:Int) (x17:Int) (iQ:List aV):Option (List aV) :=
  if (decide (x14<x17))=true then ((idx iQ (QA .i64 (x17 - 1)))>>=fun y22=>(idx iQ (QA .i64 (x17 - 1)))>>=fun y23=>(idx iQ x17)>>=fun y24=>(idx iQ x17)>>=fun y25=>(idx iQ x17)>>=fun y26=>(iC iQ x17 y23)>>=fun y27=>(idx y27 (QA .i64 (x17 - 1)))>>=fun y28=>(iC y27 (QA .i64 (x17 - 1)) y25)>>=fun y29=>aAq x14 (QA .i64 (x17 - 1)) y29) else (some iQ)
  partial_fixpoint
def sI (p2:Int) (p4:dJ) (p0:List aV) (x14:Int) (x15:Int):Option (List aV) :=
  if (decide (x14<x15))=true then ((idx p0 p2)>>=fun y6=>(idx p0 p2)>>=fun y7=>(idx p0 (QA .i64 (QB (QA .u64 (QA .i64 (x14+x15))) (2 ^ 1))))>>=fun y8=>(idx p0 (QA .i64 (QB (QA .u64 (QA .i64 (x14+x15))) (2 ^ 1))))>>=fun y9=>(tY y7 y9 p4.c0)>>=fun y10=>if (!(decide (y10<0)))=true then (sI p2 p4 p0 (QA .i64 ((QA .i64 (QB (QA .u64 (QA .i64 (x14+x15))) (2 ^ 1)))+1)) x15) else (sI p2 p4 p0 x14 (QA .i64 (QB (QA .u64 (QA .i64 (x14+x15))) (2 ^ 1))))) else (aAq x14 p2 p0)
  partial_fixpoint
mutual
def wZ (p3:Int) (p4:dJ) (p1:Int) (p2:Int) (dI:Int) (pR:List aV):Option (List aV) :=
  (some (if (decide ((QA .i64 (QB (QA .u64 (QA .i64 (p1+p3))) (2 ^ 1)))<(QA .i64 ((QA .i64 ((QA .i64 (QB (QA .u64 (QA .i64 (p1+p3))) (2 ^ 1)))+p2)) - dI))))=true then (decide ((QA .i64 ((QA .i64 ((QA .i64 (QB (QA .u64 (QA .i64 (p1+p3))) (2 ^ 1)))+p2)) - dI))<p3)) else false))>>=fun y41=>if y41=true then ((xJ pR (QA .i64 (QB (QA .u64 (QA .i64 (p1+p3))) (2 ^ 1))) (QA .i64 ((QA .i64 ((QA .i64 (QB (QA .u64 (QA .i64 (p1+p3))) (2 ^ 1)))+p2)) - dI)) p3 p4)>>=fun y42=>some y42) else (some pR)
  partial_fixpoint
def aCv (p1:Int) (p3:Int) (p4:dJ) (dI:Int) (p2:Int) (oV:List aV):Option (List aV) :=
  (some (if (decide (p1<dI))=true then (decide (dI<(QA .i64 (QB (QA .u64 (QA .i64 (p1+p3))) (2 ^ 1))))) else false))>>=fun y38=>if y38=true then ((xJ oV p1 dI (QA .i64 (QB (QA .u64 (QA .i64 (p1+p3))) (2 ^ 1))) p4)>>=fun y39=>wZ p3 p4 p1 p2 dI y39) else (wZ p3 p4 p1 p2 dI oV)
  partial_fixpoint
def xA (p1:Int) (p2:Int) (p3:Int) (p4:dJ) (p0:List aV) (dI:Int) (iM:Int):Option (List aV) :=
  if (decide (dI<iM))=true then ((idx p0 (QA .i64 ((QA .i64 ((QA .i64 ((QA .i64 (QB (QA .u64 (QA .i64 (p1+p3))) (2 ^ 1)))+p2)) - 1)) - (QA .i64 (QB (QA .u64 (QA .i64 (dI+iM))) (2 ^ 1))))))>>=fun y30=>(idx p0 (QA .i64 ((QA .i64 ((QA .i64 ((QA .i64 (QB (QA .u64 (QA .i64 (p1+p3))) (2 ^ 1)))+p2)) - 1)) - (QA .i64 (QB (QA .u64 (QA .i64 (dI+iM))) (2 ^ 1))))))>>=fun y31=>(idx p0 (QA .i64 (QB (QA .u64 (QA .i64 (dI+iM))) (2 ^ 1))))>>=fun y32=>(idx p0 (QA .i64 (QB (QA .u64 (QA .i64 (dI+iM))) (2 ^ 1))))>>=fun y33=>(tY y31 y33 p4.c0)>>=fun y34=>if (!(decide (y34<0)))=true then (xA p1 p2 p3 p4 p0 (QA .i64 ((QA .i64 (QB (QA .u64 (QA .i64 (dI+iM))) (2 ^ 1)))+1)) iM) else (xA p1 p2 p3 p4 p0 dI (QA .i64 (QB (QA .u64 (QA .i64 (dI+iM))) (2 ^ 1))))) else ((some (if (decide (dI<p2))=true then (decide (p2<(QA .i64 ((QA .i64 ((QA .i64 (QB (QA .u64 (QA .i64 (p1+p3))) (2 ^ 1)))+p2)) - dI)))) else false))>>=fun y35=>if y35=true then ((aLl p0 dI p2 (QA .i64 ((QA .i64 ((QA .i64 (QB (QA .u64 (QA .i64 (p1+p3))) (2 ^ 1)))+p2)) - dI)) p4)>>=fun y36=>aCv p1 p3 p4 dI p2 y36) else (aCv p1 p3 p4 dI p2 p0))
  partial_fixpoint
def aGc (p1:Int) (p2:Int) (p3:Int) (p4:dJ) (p0:List aV) (x20:Int) (x21:Int):Option (List aV) :=
  xA p1 p2 p3 p4 p0 x20 x21
  partial_fixpoint
def xJ (p0:List aV) (p1:Int) (p2:Int) (p3:Int) (p4:dJ):Option (List aV) :=
  if (decide ((QA .i64 (p2 - p1))=1))=true then (yI p1 p4 p0 p2 p3) else (if (decide ((QA .i64 (p3 - p2))=1))=true then (sI p2 p4 p0 p1 p2) else (if (decide ((QA .i64 (QB (QA .u64 (QA .i64 (p1+p3))) (2 ^ 1)))<p2))=true then (aGc p1 p2 p3 p4 p0 (QA .i64 ((QA .i64 ((QA .i64 (QB (QA .u64 (QA .i64 (p1+p3))) (2 ^ 1)))+p2)) - p3)) (QA .i64 (QB (QA .u64 (QA .i64 (p1+p3))) (2 ^ 1)))) else (aGc p1 p2 p3 p4 p0 p1 p2)))
  partial_fixpoint
end
mutual
def Z5 (p1:Int) (p2:dJ) (x6:Int) (qW:List aV):Option (List aV) :=
  xV p1 p2 (QA .i64 (x6 * 2)) qW
  partial_fixpoint
def aDa (p1:Int) (p2:dJ) (x6:Int) (mV:Int) (nL:Int) (nV:List aV):Option (List aV) :=
  if (decide (nL≤p1))=true then ((xJ nV mV (QA .i64 (mV+x6)) nL p2)>>=fun y7=>aDa p1 p2 x6 nL (QA .i64 (nL+(QA .i64 (2 * x6)))) y7) else (if (decide ((QA .i64 (mV+x6))<p1))=true then ((xJ nV mV (QA .i64 (mV+x6)) p1 p2)>>=fun y8=>Z5 p1 p2 x6 y8) else (Z5 p1 p2 x6 nV))
  partial_fixpoint
def xV (p1:Int) (p2:dJ) (x6:Int) (oQ:List aV):Option (List aV) :=
  if (decide (x6<p1))=true then (aDa p1 p2 x6 0 (QA .i64 (2 * x6)) oQ) else (some oQ)
  partial_fixpoint
end
def Q9 (p1:Int) (p2:dJ) (x7:Int) (x8:Int) (aL:List aV):Option (List aV) :=
  if (decide (x8≤p1))=true then ((aFx aL x7 x8 p2)>>=fun y1=>Q9 p1 p2 x8 (QA .i64 (x8+20)) y1) else ((aFx aL x7 p1 p2)>>=fun y2=>xV p1 p2 20 y2)
  partial_fixpoint
def aOg (p0:List aV) (p1:Int) (p2:dJ):Option (List aV) :=
  Q9 p1 p2 0 20 p0
def aJd (p0:List aV) (p1:dJ):Option (List aV) :=
  (aOg p0 (p0.length:Int) p1)>>=fun y1=>some y1
def Z0 (y2:List aV) (x14:List (List aA)) (x60:Int):Option ((List (List aA))×Int) :=
  if (decide (x60<(y2.length:Int)))=true then ((idx y2 x60)>>=fun y7=>(idx y2 x60)>>=fun y8=>(appG 24 x14 ([y8.row]:List (List aA)))>>=fun y9=>Z0 y2 y9 (QA .i64 (x60+1))) else (some (x14,0))
  partial_fixpoint
mutual
def aD6 (y1:List aA) (p1:List (List aA)) (x20:Int) (p0:eT) (gZ:List aV) (x9:List aA) (x28:Int):Option ((List (List aA))×Int) :=
  if (decide (x28<(p0.order.length:Int)))=true then ((idx p0.order x28)>>=fun y3=>(nM y1 y3.eval.c0 y3.eval.c1 y3.eval.c2 y3.eval.c3)>>=fun y4=>if (!decide (y4.2=0))=true then (some (([]:List (List aA)),y4.2)) else ((appG 32 x9 ([y4.1]:List aA))>>=fun y5=>aD6 y1 p1 x20 p0 gZ y5 (QA .i64 (x28+1)))) else ((appG 48 gZ ([(aV.mk y1 x9)]:List aV))>>=fun y6=>X4 p1 p0 (QA .i64 (x20+1)) y6)
  partial_fixpoint
def X4 (p1:List (List aA)) (p0:eT) (x20:Int) (gZ:List aV):Option ((List (List aA))×Int) :=
  if (decide (x20<(p1.length:Int)))=true then ((idx p1 x20)>>=fun y1=>aD6 y1 p1 x20 p0 gZ ([]:List aA) 0) else ((aJd gZ (dJ.mk p0))>>=fun y2=>Z0 y2 ([]:List (List aA)) 0)
  partial_fixpoint
def aMr (p0:eT) (p1:List (List aA)):Option ((List (List aA))×Int) :=
  X4 p1 p0 0 ([]:List aV)
  partial_fixpoint
def aH9 (p1:List aA) (p0:List cK) (x14:Int) (nJ:List aA):Option ((List aA)×Int) :=
  if (decide (x14<(p0.length:Int)))=true then ((idx p0 x14)>>=fun y1=>(nM p1 y1.c0 y1.c1 y1.c2 y1.c3)>>=fun y2=>if (!decide (y2.2=0))=true then (some (([]:List aA),y2.2)) else ((appG 32 nJ ([y2.1]:List aA))>>=fun y3=>aH9 p1 p0 (QA .i64 (x14+1)) y3)) else (some (nJ,0))
  partial_fixpoint
def aNh (p0:List cK) (p1:List aA):Option ((List aA)×Int) :=
  aH9 p1 p0 0 ([]:List aA)
  partial_fixpoint
def aF8 (p0:List aA) (p1:List cK):Option ((List aA)×Int) :=
  (aNh p1 p0)>>=fun y1=>some (y1.1,y1.2)
  partial_fixpoint
def aDv (y2:(List (List aA))×Int) (p0:eT) (x31:Int) (nC:List (List aA)):Option ((List (List aA))×Int) :=
  if (decide (x31<(y2.1.length:Int)))=true then ((idx y2.1 x31)>>=fun y3=>(aF8 y3 p0.items.c0)>>=fun y4=>if (!decide (y4.2=0))=true then (some (([]:List (List aA)),y4.2)) else ((appG 24 nC ([y4.1]:List (List aA)))>>=fun y5=>aDv y2 p0 (QA .i64 (x31+1)) y5)) else (if p0.distinct=true then ((aCz nC)>>=fun y6=>yH p0 y6) else (yH p0 nC))
  partial_fixpoint
def G8 (p2:List (List aA)) (p3:aJ) (p0:aX) (p1:GDb) (gN:List aA) (nS:Int) (qU:List (List aA)):Option (aA×Int) :=
  if (decide (nS<(p3.sub.length:Int)))=true then ((idx p3.sub nS)>>=fun y11=>(G7 p0 p1 p2 y11)>>=fun y12=>if (!decide (y12.2=0))=true then (some ((aA.mk 0 0 []),y12.2)) else (G8 p2 p3 p0 p1 gN (QA .i64 (nS+1)) y12.1)) else ((aLa (oI.mk p3.kind p3.op p3.not_ p3.value gN qU))>>=fun y13=>some (y13.1,y13.2))
  partial_fixpoint
def aAw (p2:List (List aA)) (p3:aJ) (p0:aX) (p1:GDb) (x81:Int) (gN:List aA):Option (aA×Int) :=
  if (decide (x81<(p3.kids.length:Int)))=true then ((idx p3.kids x81)>>=fun y8=>(vK p0 p1 p2 y8)>>=fun y9=>if (!decide (y9.2=0))=true then (some ((aA.mk 0 0 []),y9.2)) else ((appG 32 gN ([y9.1]:List aA))>>=fun y10=>aAw p2 p3 p0 p1 (QA .i64 (x81+1)) y10)) else (G8 p2 p3 p0 p1 gN 0 ([]:List (List aA)))
  partial_fixpoint
def vK (p0:aX) (p1:GDb) (p2:List (List aA)) (p3:aJ):Option (aA×Int) :=
  (aM6 p3.kind (p3.kids.length:Int) (p3.sub.length:Int))>>=fun y1=>if (!y1)=true then (some ((aA.mk 0 0 []),4)) else (if (decide (p3.kind=2))=true then ((some (if (decide (p3.up<0))=true then true else (decide ((p2.length:Int)≤p3.up))))>>=fun y2=>(some (if y2=true then true else (decide (p3.at_<0))))>>=fun y3=>(if (true&&(y3==false))=true then idx p2 p3.up else some default)>>=fun y4=>(some (if y3=true then true else (decide ((y4.length:Int)≤p3.at_))))>>=fun y5=>if y5=true then (some ((aA.mk 0 0 []),4)) else ((idx p2 p3.up)>>=fun y6=>(idx y6 p3.at_)>>=fun y7=>some (y7,0))) else (aAw p2 p3 p0 p1 0 ([]:List aA)))
  partial_fixpoint
def nM (p0:List aA) (p1:aX) (p2:GDb) (p3:List (List aA)) (p4:aJ):Option (aA×Int) :=
  (appG 24 ([p0]:List (List aA)) p3)>>=fun y1=>(vK p1 p2 y1 p4)>>=fun y2=>some (y2.1,y2.2)
  partial_fixpoint
def aHg (y1:cK) (p1:List cK) (x15:Int) (x0:List (List aA)) (x22:Int) (qP:List (List aA)):Option ((List (List aA))×Int) :=
  V4 y1 p1 x15 x0 qP (QA .i64 (x22+1))
  partial_fixpoint
def V4 (y1:cK) (p1:List cK) (x15:Int) (x0:List (List aA)) (x8:List (List aA)) (x22:Int):Option ((List (List aA))×Int) :=
  if (decide (x22<(x0.length:Int)))=true then ((idx x0 x22)>>=fun y2=>(nM y2 y1.c0 y1.c1 y1.c2 y1.c3)>>=fun y3=>if (!decide (y3.2=0))=true then (some (([]:List (List aA)),y3.2)) else ((aJy y3.1)>>=fun y4=>if y4=true then ((appG 24 x8 ([y2]:List (List aA)))>>=fun y5=>aHg y1 p1 x15 x0 x22 y5) else (aHg y1 p1 x15 x0 x22 x8))) else (R8 p1 x8 (QA .i64 (x15+1)))
  partial_fixpoint
def R8 (p1:List cK) (x0:List (List aA)) (x15:Int):Option ((List (List aA))×Int) :=
  if (decide (x15<(p1.length:Int)))=true then ((idx p1 x15)>>=fun y1=>V4 y1 p1 x15 x0 ([]:List (List aA)) 0) else (some (x0,0))
  partial_fixpoint
def aBv (p0:List (List aA)) (p1:List cK):Option ((List (List aA))×Int) :=
  R8 p1 p0 0
  partial_fixpoint
def aBb (x19:Int) (y1:List (List aA)) (y3:List aA) (p0:eT) (x4:List (List aA)) (x27:Int) (lJ:(List (List aA))×Int):Option ((List (List aA))×Int) :=
  if (decide (lJ.2<(y1.length:Int)))=true then ((idx y1 lJ.2)>>=fun y7=>(aIn ([y3,y7]:List (List aA)))>>=fun y8=>(appG 24 lJ.1 ([y8]:List (List aA)))>>=fun y9=>aBb x19 y1 y3 p0 x4 x27 (y9,(QA .i64 (lJ.2+1)))) else (aAr x19 y1 p0 x4 lJ.1 (QA .i64 (x27+1)))
  partial_fixpoint
def aAr (x19:Int) (y1:List (List aA)) (p0:eT) (x4:List (List aA)) (x7:List (List aA)) (x27:Int):Option ((List (List aA))×Int) :=
  if (decide (x27<(x4.length:Int)))=true then ((idx x4 x27)>>=fun y3=>aBb x19 y1 y3 p0 x4 x27 (x7,0)) else ((idx p0.on_ x19)>>=fun y5=>(aBv x7 y5)>>=fun y6=>if (!decide (y6.2=0))=true then (some (([]:List (List aA)),y6.2)) else (Q6 p0 y6.1 (QA .i64 (x19+1))))
  partial_fixpoint
def Q6 (p0:eT) (x4:List (List aA)) (x19:Int):Option ((List (List aA))×Int) :=
  if (decide (x19<(p0.tables.length:Int)))=true then ((idx p0.tables x19)>>=fun y1=>aAr x19 y1 p0 x4 ([]:List (List aA)) 0) else ((aBv x4 p0.where_)>>=fun y2=>some (y2.1,y2.2))
  partial_fixpoint
def aR3 (p0:eT):Option ((List (List aA))×Int) :=
  Q6 p0 ([([]:List aA)]:List (List aA)) 0
  partial_fixpoint
def S9 (p0:eT):Option ((List (List aA))×Int) :=
  (aR3 p0)>>=fun y1=>if (!decide (y1.2=0))=true then (some (([]:List (List aA)),y1.2)) else ((aMr p0 y1.1)>>=fun y2=>if (!decide (y2.2=0))=true then (some (([]:List (List aA)),y2.2)) else (aDv y2 p0 0 ([]:List (List aA))))
  partial_fixpoint
def aDn (p0:aX) (p1:GDb) (p2:List (List aA)) (p3:aQ) (gU:List (List cK)) (y9:List cK) (kR:(List (List (List aA)))×Int×(List lU)):Option ((List (List aA))×Int) :=
  if (decide (kR.2.1<(p3.order.length:Int)))=true then ((idx p3.order kR.2.1)>>=fun y10=>(aA0 ([y10.expr]:List aJ) ((nE.mk p0 p1 p2).c0) ((nE.mk p0 p1 p2).c1) ((nE.mk p0 p1 p2).c2))>>=fun y11=>(idx y11 0)>>=fun y12=>(appG 16 kR.2.2 ([(lU.mk y12 y10.desc)]:List lU))>>=fun y13=>aDn p0 p1 p2 p3 gU y9 (kR.1,(QA .i64 (kR.2.1+1)),y13)) else ((aA0 p3.items ((nE.mk p0 p1 p2).c0) ((nE.mk p0 p1 p2).c1) ((nE.mk p0 p1 p2).c2))>>=fun y14=>(S9 (eT.mk kR.1 gU y9 kR.2.2 (O6.mk y14) p3.distinct p3.limit))>>=fun y15=>some (y15.1,y15.2))
  partial_fixpoint
def N8 (p0:aX) (p1:GDb) (p2:List (List aA)) (p3:aQ) (iA:List (List (List aA))) (x69:Int) (gU:List (List cK)):Option ((List (List aA))×Int) :=
  if (decide (x69<(p3.on_.length:Int)))=true then ((idx p3.on_ x69)>>=fun y6=>(aA0 y6 ((nE.mk p0 p1 p2).c0) ((nE.mk p0 p1 p2).c1) ((nE.mk p0 p1 p2).c2))>>=fun y7=>(appG 24 gU ([y7]:List (List cK)))>>=fun y8=>N8 p0 p1 p2 p3 iA (QA .i64 (x69+1)) y8) else ((aA0 p3.where_ ((nE.mk p0 p1 p2).c0) ((nE.mk p0 p1 p2).c1) ((nE.mk p0 p1 p2).c2))>>=fun y9=>aDn p0 p1 p2 p3 gU y9 (iA,0,([]:List lU)))
  partial_fixpoint
def aC1 (p3:aQ) (p0:aX) (p1:GDb) (p2:List (List aA)) (x40:Int) (iA:List (List (List aA))):Option ((List (List aA))×Int) :=
  if (decide (x40<(p3.tables.length:Int)))=true then ((idx p3.tables x40)>>=fun y2=>(some (if (decide (y2<0))=true then true else (decide ((p1.tables.length:Int)≤y2))))>>=fun y3=>if y3=true then (some (([]:List (List aA)),4)) else ((idx p1.tables y2)>>=fun y4=>(appG 24 iA ([y4.rows]:List (List (List aA))))>>=fun y5=>aC1 p3 p0 p1 p2 (QA .i64 (x40+1)) y5)) else (N8 p0 p1 p2 p3 iA 0 ([]:List (List cK)))
  partial_fixpoint
def G7 (p0:aX) (p1:GDb) (p2:List (List aA)) (p3:aQ):Option ((List (List aA))×Int) :=
  (some (if (decide ((p3.tables.length:Int)=0))=true then true else (!decide ((p3.on_.length:Int)=(p3.tables.length:Int)))))>>=fun y1=>if y1=true then (some (([]:List (List aA)),4)) else (aC1 p3 p0 p1 p2 0 ([]:List (List (List aA))))
  partial_fixpoint
end
def aJe (p0:Int) (p1:Int):Option Bool :=
  (some (if (decide (p0≤24))=true then (decide (p1≤200)) else false))>>=fun y1=>some y1
def F3 (p0:aQ) (fH:List aJ) (x27:Int):Option (List aJ) :=
  if (decide (x27<(p0.order.length:Int)))=true then ((idx p0.order x27)>>=fun y5=>(appG 120 fH ([y5.expr]:List aJ))>>=fun y6=>F3 p0 y6 (QA .i64 (x27+1))) else ((appG 120 fH p0.items)>>=fun y7=>some y7)
  partial_fixpoint
def aDk (p0:aQ) (x3:List aJ) (x12:Int):Option (List aJ) :=
  if (decide (x12<(p0.on_.length:Int)))=true then ((idx p0.on_ x12)>>=fun y1=>(appG 120 x3 y1)>>=fun y2=>aDk p0 y2 (QA .i64 (x12+1))) else ((appG 120 x3 p0.where_)>>=fun y3=>F3 p0 y3 0)
  partial_fixpoint
def aHo (p0:aQ):Option (List aJ) :=
  aDk p0 ([]:List aJ) 0
mutual
def aCk (p0:aJ) (x3:Int) (x12:Int):Option Int :=
  if (decide (x12<(p0.sub.length:Int)))=true then ((idx p0.sub x12)>>=fun y2=>(J4 y2)>>=fun y3=>aCk p0 (if y3>x3 then y3 else x3) (QA .i64 (x12+1))) else (some (QA .i64 (1+x3)))
  partial_fixpoint
def V6 (p0:aJ):Option Int :=
  (aGx p0.kids)>>=fun y1=>aCk p0 y1 0
  partial_fixpoint
def aBd (p0:List aJ) (x3:Int) (x8:Int):Option Int :=
  if (decide (x8<(p0.length:Int)))=true then ((idx p0 x8)>>=fun y1=>(V6 y1)>>=fun y2=>aBd p0 (if y2>x3 then y2 else x3) (QA .i64 (x8+1))) else (some x3)
  partial_fixpoint
def aGx (p0:List aJ):Option Int :=
  aBd p0 0 0
  partial_fixpoint
def J4 (p0:aQ):Option Int :=
  (aHo p0)>>=fun y1=>(aGx y1)>>=fun y2=>some y2
  partial_fixpoint
end
mutual
def aCm (p0:aJ) (x3:Int) (x13:Int):Option Int :=
  if (decide (x13<(p0.sub.length:Int)))=true then ((idx p0.sub x13)>>=fun y2=>(zB y2)>>=fun y3=>aCm p0 (QA .i64 (x3+y3)) (QA .i64 (x13+1))) else (some x3)
  partial_fixpoint
def yZ (p0:aJ):Option Int :=
  (aI1 p0.kids)>>=fun y1=>aCm p0 (QA .i64 (1+y1)) 0
  partial_fixpoint
def aH0 (p0:List aJ) (x3:Int) (x8:Int):Option Int :=
  if (decide (x8<(p0.length:Int)))=true then ((idx p0 x8)>>=fun y1=>(yZ y1)>>=fun y2=>aH0 p0 (QA .i64 (x3+y2)) (QA .i64 (x8+1))) else (some x3)
  partial_fixpoint
def aI1 (p0:List aJ):Option Int :=
  aH0 p0 0 0
  partial_fixpoint
def zB (p0:aQ):Option Int :=
  (aHo p0)>>=fun y1=>(aI1 y1)>>=fun y2=>some y2
  partial_fixpoint
end
def aMp (p0:List aJ):Option Bool :=
  some (decide (1<(p0.length:Int)))
def K5 (p0:List (List aJ)) (x8:Int):Option Int :=
  if (decide (x8<(p0.length:Int)))=true then ((idx p0 x8)>>=fun y1=>(aMp y1)>>=fun y2=>if y2=true then (some x8) else (K5 p0 (QA .i64 (x8+1)))) else (some (-1))
  partial_fixpoint
def aQn (p0:List (List aJ)):Option Int :=
  K5 p0 0
def aK3 (p0:List (List aJ)):Option Bool :=
  (aQn p0)>>=fun y1=>some (decide (0≤y1))
def aJ2 (p0:List UInt8):Option Bool :=
  (pX p0)>>=fun y1=>some (!y1)
def X5 (p0:List (List UInt8)) (x8:Int):Option Int :=
  if (decide (x8<(p0.length:Int)))=true then ((idx p0 x8)>>=fun y1=>(aJ2 y1)>>=fun y2=>if y2=true then (some x8) else (X5 p0 (QA .i64 (x8+1)))) else (some (-1))
  partial_fixpoint
def aNm (p0:List (List UInt8)):Option Int :=
  X5 p0 0
def aJw (p0:List (List UInt8)):Option Bool :=
  (aNm p0)>>=fun y1=>some (decide (0≤y1))
def aKv (p0:aQ):Option Bool :=
  (some (if (decide ((p0.tables.length:Int)<1))=true then true else (decide (3<(p0.tables.length:Int)))))>>=fun y1=>(some (if y1=true then true else (!decide ((p0.on_.length:Int)=(p0.tables.length:Int)))))>>=fun y2=>(if (true&&(y2==false))=true then idx p0.on_ 0 else some default)>>=fun y3=>(some (if y2=true then true else (decide (0<(y3.length:Int)))))>>=fun y4=>(some (if y4=true then true else (decide (1<(p0.where_.length:Int)))))>>=fun y5=>(some (if y5=true then true else (decide (12<(p0.order.length:Int)))))>>=fun y6=>if y6=true then (some false) else ((some (if (decide (1≤(p0.items.length:Int)))=true then (decide ((p0.items.length:Int)≤12)) else false))>>=fun y7=>(some (if y7=true then (decide ((p0.names.length:Int)=(p0.items.length:Int))) else false))>>=fun y8=>(some (if y8=true then (decide ((-1)≤p0.limit)) else false))>>=fun y9=>(if (true&&(y9==true))=true then aK3 p0.on_ else some default)>>=fun y10=>(some (if y9=true then (!y10) else false))>>=fun y11=>(if (true&&(y11==true))=true then aJw p0.names else some default)>>=fun y12=>(some (if y11=true then (!y12) else false))>>=fun y13=>some y13)
def H6 (p0:Int):Option Bool :=
  (some (if (decide (p0=0))=true then true else (decide (p0=3))))>>=fun y1=>some y1
def aFn (p0:aJ):Option Bool :=
  (E5 (eZ.mk p0.kind p0.op false p0.value [] [120] ([]:List eZ) ([]:List jI)))>>=fun y1=>(if (true&&(y1.2==true))=true then some (if y1.1.op=true then true else (decide (p0.op=0))) else some default)>>=fun y2=>(some (if y1.2=true then y2 else false))>>=fun y3=>(if (true&&(y3==true))=true then some (if y1.1.not_=true then true else (!p0.not_)) else some default)>>=fun y4=>(some (if y3=true then y4 else false))>>=fun y5=>(if (true&&(y5==true))=true then some (if y1.1.value=true then true else ((decide (p0.value.kind=0))&&((decide (p0.value.num=0))&&((decide (p0.value.text=[]))&&true)))) else some default)>>=fun y6=>(some (if y5=true then y6 else false))>>=fun y7=>(if ((true&&(y7==true))&&(y1.1.name==false))=true then some (if (decide (p0.up=0))=true then (decide (p0.at_=0)) else false) else some default)>>=fun y8=>(if (true&&(y7==true))=true then some (if y1.1.name=true then true else y8) else some default)>>=fun y9=>(some (if y7=true then y9 else false))>>=fun y10=>(some (if y10=true then (decide (y1.1.least≤(p0.kids.length:Int))) else false))>>=fun y11=>(some (if y11=true then (decide ((p0.kids.length:Int)≤y1.1.most)) else false))>>=fun y12=>(some (if y12=true then (decide ((p0.sub.length:Int)=y1.1.subs)) else false))>>=fun y13=>some y13
def aC9 (p0:Int) (p1:Int) (p2:Int):Option Bool :=
  (some (if (decide (p1=p0))=true then true else (decide (p1=0))))>>=fun y1=>(if (true&&(y1==true))=true then some (if (decide (p2=p0))=true then true else (decide (p2=0))) else some default)>>=fun y2=>(some (if y1=true then y2 else false))>>=fun y3=>some y3
def aAg (x8:Int) (x9:Bool):Option (Int×Bool) :=
  if (!x9)=true then (some (0,false)) else (some (x8,true))
def aL3 (p0:Int):Option Bool :=
  (some (if (decide (0≤p0))=true then (decide (p0≤3)) else false))>>=fun y1=>some y1
def aGp (p0:Int) (p1:Int):Option (Int×Bool) :=
  (aL3 p0)>>=fun y1=>(if (true&&((!y1)==false))=true then aL3 p1 else some default)>>=fun y2=>(some (if (!y1)=true then true else (!y2)))>>=fun y3=>if y3=true then (some (0,false)) else (if (decide (p0=0))=true then (some (p1,true)) else ((some (if (decide (p1=0))=true then true else (decide (p0=p1))))>>=fun y4=>if y4=true then (some (p0,true)) else (some (0,false))))
def aJ6 (p0:Int) (p1:Int) (p2:Int):Option (Int×Bool) :=
  (some (if (decide (p0<1))=true then true else (decide (14<p0))))>>=fun y1=>if y1=true then (aAg 0 false) else (if (decide (p0≤2))=true then ((H6 p1)>>=fun y2=>(if (true&&(y2==true))=true then H6 p2 else some default)>>=fun y3=>(some (if y2=true then y3 else false))>>=fun y4=>aAg 3 y4) else (if (decide (p0≤8))=true then ((aGp p1 p2)>>=fun y5=>aAg 3 y5.2) else (if (decide (p0=9))=true then ((aC9 2 p1 p2)>>=fun y6=>aAg 2 y6) else ((aC9 1 p1 p2)>>=fun y7=>aAg 1 y7))))
def aK2 (p0:List Int):Option (List Int) :=
  if (decide ((p0.length:Int)=0))=true then (some ([]:List Int)) else ((appG 8 ([]:List Int) p0)>>=fun y1=>some y1)
def Y2 (p0:List Int) (x4:Int) (x11:Int):Option (Int×Bool) :=
  if (decide (x11<(p0.length:Int)))=true then ((idx p0 x11)>>=fun y1=>(aGp x4 y1)>>=fun y2=>if (!y2.2)=true then (some (0,false)) else (Y2 p0 y2.1 (QA .i64 (x11+1)))) else (some (x4,true))
  partial_fixpoint
def aKt (p0:List Int):Option (Int×Bool) :=
  Y2 p0 0 0
def M9 (p1:List Int) (p2:List Int) (x40:Bool):Option (Int×Bool) :=
  if x40=true then (some (3,true)) else ((aK2 p1)>>=fun y6=>(appG 8 y6 p2)>>=fun y7=>(aKt y7)>>=fun y8=>if (!y8.2)=true then (some (0,false)) else (some (3,true)))
def aLw (p0:Int) (p1:Int):Option (Int×Bool) :=
  (if (true&&((decide (p0=15))==true))=true then H6 p1 else some default)>>=fun y1=>(some (if (decide (p0=15))=true then y1 else false))>>=fun y2=>if y2=true then (some (3,true)) else ((if (true&&((decide (p0=16))==true))=true then aC9 1 p1 p1 else some default)>>=fun y3=>(some (if (decide (p0=16))=true then y3 else false))>>=fun y4=>if y4=true then (some (1,true)) else (some (0,false)))
def tC (p0:aJ) (p1:List Int) (p2:List Int):Option (Int×Bool) :=
  if (decide (p0.kind=1))=true then (some (p0.value.kind,true)) else (if (decide (p0.kind=3))=true then ((idx p1 0)>>=fun y1=>(aLw p0.op y1)>>=fun y2=>some (y2.1,y2.2)) else (if (decide (p0.kind=4))=true then ((idx p1 0)>>=fun y3=>(idx p1 1)>>=fun y4=>(aJ6 p0.op y3 y4)>>=fun y5=>some (y5.1,y5.2)) else (if (decide (p0.kind=5))=true then (M9 p1 p2 (decide (p0.kind=5))) else (M9 p1 p2 (decide (p0.kind=9))))))
def aHd (p0:List Int) (p1:List (List Int)):Option (List (List Int)) :=
  (appG 24 ([p0]:List (List Int)) p1)>>=fun y1=>some y1
def L6 (p1:List Int) (p0:aX) (x6:List Int) (x12:Int):Option ((List Int)×Bool) :=
  if (decide (x12<(p1.length:Int)))=true then ((idx p1 x12)>>=fun y1=>(some (if (decide (y1<0))=true then true else (decide ((p0.tables.length:Int)≤y1))))>>=fun y2=>if y2=true then (some (([]:List Int),false)) else ((idx p0.tables y1)>>=fun y3=>(aAh y3)>>=fun y4=>(appG 8 x6 y4)>>=fun y5=>L6 p1 p0 y5 (QA .i64 (x12+1)))) else (some (x6,true))
  partial_fixpoint
def aH5 (p0:aX) (p1:List Int):Option ((List Int)×Bool) :=
  L6 p1 p0 ([]:List Int) 0
mutual
def uT (y9:List (List Int)) (p2:aQ) (p0:aX) (x19:List Int) (x95:Int):Option ((List Int)×Bool) :=
  if (decide (x95<(p2.items.length:Int)))=true then ((idx p2.items x95)>>=fun y13=>(qI p0 y9 y13)>>=fun y14=>if (!y14.2)=true then (some (([]:List Int),false)) else ((appG 8 x19 ([y14.1]:List Int))>>=fun y15=>uT y9 p2 p0 y15 (QA .i64 (x95+1)))) else (some (x19,true))
  partial_fixpoint
def wN (y9:List (List Int)) (p2:aQ) (p0:aX) (x76:Int):Option ((List Int)×Bool) :=
  if (decide (x76<(p2.order.length:Int)))=true then ((idx p2.order x76)>>=fun y11=>(qI p0 y9 y11.expr)>>=fun y12=>if (!y12.2)=true then (some (([]:List Int),false)) else (wN y9 p2 p0 (QA .i64 (x76+1)))) else (uT y9 p2 p0 ([]:List Int) 0)
  partial_fixpoint
def oO (p1:List (List Int)) (x8:List Int) (p2:aJ) (p0:aX) (x9:List Int) (x85:Int):Option (Int×Bool) :=
  if (decide (x85<(p2.sub.length:Int)))=true then ((idx p2.sub x85)>>=fun y11=>(yA p0 p1 y11)>>=fun y12=>(if (true&&((!y12.2)==false))=true then some (if (decide (p2.kind=8))=true then (!decide ((y12.1.length:Int)=1)) else false) else some default)>>=fun y13=>(some (if (!y12.2)=true then true else y13))>>=fun y14=>if y14=true then (some (0,false)) else (oO p1 x8 p2 p0 y12.1 (QA .i64 (x85+1)))) else ((tC p2 x8 x9)>>=fun y15=>some (y15.1,y15.2))
  partial_fixpoint
def qG (p1:List (List Int)) (p2:aJ) (p0:aX) (x8:List Int) (x64:Int):Option (Int×Bool) :=
  if (decide (x64<(p2.kids.length:Int)))=true then ((idx p2.kids x64)>>=fun y8=>(qI p0 p1 y8)>>=fun y9=>if (!y9.2)=true then (some (0,false)) else ((appG 8 x8 ([y9.1]:List Int))>>=fun y10=>qG p1 p2 p0 y10 (QA .i64 (x64+1)))) else (oO p1 x8 p2 p0 ([]:List Int) 0)
  partial_fixpoint
def qI (p0:aX) (p1:List (List Int)) (p2:aJ):Option (Int×Bool) :=
  (aFn p2)>>=fun y1=>if (!y1)=true then (some (0,false)) else (if (decide (p2.kind=2))=true then ((some (if (decide (p2.up<0))=true then true else (decide ((p1.length:Int)≤p2.up))))>>=fun y2=>(some (if y2=true then true else (decide (p2.at_<0))))>>=fun y3=>(if (true&&(y3==false))=true then idx p1 p2.up else some default)>>=fun y4=>(some (if y3=true then true else (decide ((y4.length:Int)≤p2.at_))))>>=fun y5=>if y5=true then (some (0,false)) else ((idx p1 p2.up)>>=fun y6=>(idx y6 p2.at_)>>=fun y7=>some (y7,true))) else (qG p1 p2 p0 ([]:List Int) 0))
  partial_fixpoint
def aJ4 (p0:aJ) (p1:aX) (c1_0:List (List Int)):Option Bool :=
  (qI p1 c1_0 p0)>>=fun y1=>(if (true&&((!y1.2)==false))=true then H6 y1.1 else some default)>>=fun y2=>(some (if (!y1.2)=true then true else (!y2)))>>=fun y3=>some y3
  partial_fixpoint
def xW (p0:List aJ) (c0:aX) (c1_0:List (List Int)) (x8:Int):Option Int :=
  if (decide (x8<(p0.length:Int)))=true then ((idx p0 x8)>>=fun y1=>(aJ4 y1 c0 c1_0)>>=fun y2=>if y2=true then (some x8) else (xW p0 c0 c1_0 (QA .i64 (x8+1)))) else (some (-1))
  partial_fixpoint
def aJ1 (p0:List aJ) (c0:aX) (c1_0:List (List Int)):Option Int :=
  xW p0 c0 c1_0 0
  partial_fixpoint
def aM9 (p0:List aJ) (c0:aX) (c1_0:List (List Int)):Option Bool :=
  (aJ1 p0 c0 c1_0)>>=fun y1=>some (decide (0≤y1))
  partial_fixpoint
def yL (p0:aX) (p1:List (List Int)) (p2:List aJ):Option Bool :=
  (aM9 p2 p0 p1)>>=fun y1=>some (!y1)
  partial_fixpoint
def yJ (p1:List (List Int)) (y1:(List Int)×Bool) (p2:aQ) (p0:aX) (x41:Int):Option ((List Int)×Bool) :=
  if (decide (x41<(p2.on_.length:Int)))=true then ((idx p2.on_ x41)>>=fun y4=>(gY p2.tables 0 (QA .i64 (x41+1)))>>=fun y5=>(aH5 p0 y5)>>=fun y6=>(aHd y6.1 p1)>>=fun y7=>(yL p0 y7 y4)>>=fun y8=>if (!y8)=true then (some (([]:List Int),false)) else (yJ p1 y1 p2 p0 (QA .i64 (x41+1)))) else ((aHd y1.1 p1)>>=fun y9=>(yL p0 y9 p2.where_)>>=fun y10=>if (!y10)=true then (some (([]:List Int),false)) else (wN y9 p2 p0 0))
  partial_fixpoint
def yA (p0:aX) (p1:List (List Int)) (p2:aQ):Option ((List Int)×Bool) :=
  (aH5 p0 p2.tables)>>=fun y1=>(if (true&&((!y1.2)==false))=true then aKv p2 else some default)>>=fun y2=>(some (if (!y1.2)=true then true else (!y2)))>>=fun y3=>if y3=true then (some (([]:List Int),false)) else (yJ p1 y1 p2 p0 0)
  partial_fixpoint
end
def aAx (p0:aX) (p1:aQ):Option Bool :=
  (aC7 p0)>>=fun y1=>(if (true&&((!y1)==false))=true then J4 p1 else some default)>>=fun y2=>(if (true&&((!y1)==false))=true then zB p1 else some default)>>=fun y3=>(if (true&&((!y1)==false))=true then aJe y2 y3 else some default)>>=fun y4=>(some (if (!y1)=true then true else (!y4)))>>=fun y5=>if y5=true then (some false) else ((yA p0 ([]:List (List Int)) p1)>>=fun y6=>some y6.2)
def aE3 (p0:aX) (p1:GDb) (p2:aQ):Option ((List (List aA))×Int) :=
  (aAx p0 p2)>>=fun y1=>(if (true&&((!y1)==false))=true then aJs p0 p1 else some default)>>=fun y2=>(some (if (!y1)=true then true else (!y2)))>>=fun y3=>if y3=true then (some (([]:List (List aA)),4)) else ((G7 p0 p1 ([]:List (List aA)) p2)>>=fun y4=>some (y4.1,y4.2))
def O1 (p1:List UInt8) (p0:bH) (x5:Int):Option Int :=
  if (decide (x5<(p0.cols.length:Int)))=true then ((idx p0.cols x5)>>=fun y1=>if (decide (y1.name=p1))=true then (some x5) else (O1 p1 p0 (QA .i64 (x5+1)))) else (some (-1))
  partial_fixpoint
def aBh (p0:bH) (p1:List UInt8):Option Int :=
  O1 p1 p0 0
def fT (p0:Int) (p1:Int) (p2:Int):Option Bool :=
  (some (if (decide (p1≤p0))=true then (decide (p0≤p2)) else false))>>=fun y1=>some y1
def oH (p0:List UInt8):Option Bool :=
  (fT (p0.length:Int) 1 20)>>=fun y1=>some y1
def aAb (p1:List UInt8) (p0:aX) (x5:Int):Option Int :=
  if (decide (x5<(p0.tables.length:Int)))=true then ((idx p0.tables x5)>>=fun y1=>if (decide (y1.name=p1))=true then (some x5) else (aAb p1 p0 (QA .i64 (x5+1)))) else (some (-1))
  partial_fixpoint
def vV (p0:aX) (p1:List UInt8):Option Int :=
  aAb p1 p0 0
mutual
def zU (x3:Int) (p0:aX) (y1:bH) (x5:Int):Option Bool :=
  if (decide (x5<(y1.cols.length:Int)))=true then ((idx y1.cols x5)>>=fun y7=>(oH y7.name)>>=fun y8=>(if (true&&((!y8)==false))=true then idx y1.cols x5 else some default)>>=fun y9=>(if (true&&((!y8)==false))=true then aBh y1 y9.name else some default)>>=fun y10=>(some (if (!y8)=true then true else (!decide (y10=x5))))>>=fun y11=>(if (true&&(y11==false))=true then idx y1.cols x5 else some default)>>=fun y12=>(if (true&&(y11==false))=true then fT y12.type 1 3 else some default)>>=fun y13=>(some (if y11=true then true else (!y13)))>>=fun y14=>if y14=true then (some false) else (zU x3 p0 y1 (QA .i64 (x5+1)))) else (K4 p0 (QA .i64 (x3+1)))
  partial_fixpoint
def K4 (p0:aX) (x3:Int):Option Bool :=
  if (decide (x3<(p0.tables.length:Int)))=true then ((idx p0.tables x3)>>=fun y1=>(oH y1.name)>>=fun y2=>(if (true&&((!y2)==false))=true then vV p0 y1.name else some default)>>=fun y3=>(some (if (!y2)=true then true else (!decide (y3=x3))))>>=fun y4=>(if (true&&(y4==false))=true then fT (y1.cols.length:Int) 1 4 else some default)>>=fun y5=>(some (if y4=true then true else (!y5)))>>=fun y6=>if y6=true then (some false) else (zU x3 p0 y1 0)) else (some true)
  partial_fixpoint
end
def aBw (p0:aX):Option Bool :=
  if (decide (4<(p0.tables.length:Int)))=true then (some false) else (K4 p0 0)
def kT (p0:aA):Option Bool :=
  if (decide (p0.kind=0))=true then ((some (if (decide (p0.num=0))=true then (decide (p0.text=[])) else false))>>=fun y1=>some y1) else (if (decide (p0.kind=1))=true then (some (decide (p0.text=[]))) else (if (decide (p0.kind=2))=true then ((some (if (decide (p0.num=0))=true then (decide ((p0.text.length:Int)≤200)) else false))>>=fun y2=>some y2) else (if (decide (p0.kind=3))=true then ((fT p0.num 0 1)>>=fun y3=>(some (if y3=true then (decide (p0.text=[])) else false))>>=fun y4=>some y4) else (some false))))
def Z9 (p0:aA) (p1:Int):Option Bool :=
  (kT p0)>>=fun y1=>(if (true&&(y1==true))=true then some (if (decide (p0.kind=0))=true then true else (decide (p0.kind=p1))) else some default)>>=fun y2=>(some (if y1=true then y2 else false))>>=fun y3=>some y3
def vZ (p0:List aA) (p1:List Int) (x5:Int):Option Bool :=
  if (decide (x5<(p0.length:Int)))=true then ((idx p0 x5)>>=fun y1=>(idx p1 x5)>>=fun y2=>(Z9 y1 y2)>>=fun y3=>if (!y3)=true then (some false) else (vZ p0 p1 (QA .i64 (x5+1)))) else (some true)
  partial_fixpoint
def Q4 (p0:List aA) (p1:List Int):Option Bool :=
  if (!decide ((p0.length:Int)=(p1.length:Int)))=true then (some false) else (vZ p0 p1 0)
def uU (p0:bH) (x3:List Int) (x4:Int):Option (List Int) :=
  if (decide (x4<(p0.cols.length:Int)))=true then ((idx p0.cols x4)>>=fun y1=>(appG 8 x3 ([y1.type]:List Int))>>=fun y2=>uU p0 y2 (QA .i64 (x4+1))) else (some x3)
  partial_fixpoint
def J3 (p0:bH):Option (List Int) :=
  uU p0 ([]:List Int) 0
mutual
def vE (x5:Int) (p0:aX) (p1:GDb) (x6:Int):Option Bool :=
  (idx p1.tables x5)>>=fun y4=>if (decide (x6<(y4.rows.length:Int)))=true then ((idx p1.tables x5)>>=fun y5=>(idx y5.rows x6)>>=fun y6=>(idx p0.tables x5)>>=fun y7=>(J3 y7)>>=fun y8=>(Q4 y6 y8)>>=fun y9=>if (!y9)=true then (some false) else (vE x5 p0 p1 (QA .i64 (x6+1)))) else (xU p0 p1 (QA .i64 (x5+1)))
  partial_fixpoint
def xU (p0:aX) (p1:GDb) (x5:Int):Option Bool :=
  if (decide (x5<(p1.tables.length:Int)))=true then ((idx p1.tables x5)>>=fun y3=>if (decide (6<(y3.rows.length:Int)))=true then (some false) else (vE x5 p0 p1 0)) else (some true)
  partial_fixpoint
end
def zH (p0:aX) (p1:GDb):Option Bool :=
  (aBw p0)>>=fun y1=>(some (if (!y1)=true then true else (!decide ((p1.tables.length:Int)=(p0.tables.length:Int)))))>>=fun y2=>if y2=true then (some false) else (xU p0 p1 0)
def aB8 (p0:List aA):Option (List aA) :=
  (appG 32 ([]:List aA) p0)>>=fun y1=>some y1
def aNk (p0:Int) (p1:Int):Option (Int×Bool) :=
  (some (if (decide (0<p1))=true then (decide ((QA .i64 (9223372036854775807 - p1))<p0)) else false))>>=fun y1=>(if (true&&(y1==false))=true then some (if (decide (p1<0))=true then (decide (p0<(QA .i64 ((-9223372036854775808) - p1)))) else false) else some default)>>=fun y2=>(some (if y1=true then true else y2))>>=fun y3=>if y3=true then (some (0,false)) else (some ((QA .i64 (p0+p1)),true))
def wP (p0:Bool):Option aA :=
  if p0=true then (some (aA.mk 3 1 [])) else (some (aA.mk 3 0 []))
def aC5 (p0:Int) (p1:Int):Option Bool :=
  if (decide (p0=3))=true then (some (decide (p1=0))) else (if (decide (p0=4))=true then (some (!decide (p1=0))) else (if (decide (p0=5))=true then (some (decide (p1<0))) else (if (decide (p0=6))=true then (some (decide (p1≤0))) else (if (decide (p0=7))=true then (some (decide (0<p1))) else (some (decide (0≤p1)))))))
def aB3 (p0:Int):Option aA :=
  some (aA.mk 1 p0 [])
def yX (p0:Int) (p1:Bool):Option (aA×Int) :=
  if (!p1)=true then (some ((aA.mk 0 0 []),2)) else ((aB3 p0)>>=fun y1=>some (y1,0))
def aF4 (p0:Int) (p1:Int):Option (Int×Bool) :=
  (some (if (decide (p1<0))=true then (decide ((QA .i64 (9223372036854775807+p1))<p0)) else false))>>=fun y1=>(if (true&&(y1==false))=true then some (if (decide (0<p1))=true then (decide (p0<(QA .i64 ((-9223372036854775808)+p1)))) else false) else some default)>>=fun y2=>(some (if y1=true then true else y2))>>=fun y3=>if y3=true then (some (0,false)) else (some ((QA .i64 (p0 - p1)),true))
def aL1 (p0:Int) (p1:Int) (p2:Int):Option (aA×Int) :=
  if (decide (p2=0))=true then (some ((aA.mk 0 0 []),3)) else (if (decide (p2=(-1)))=true then (if (decide (p0=14))=true then ((aB3 0)>>=fun y1=>some (y1,0)) else ((aF4 0 p1)>>=fun y2=>(yX y2.1 y2.2)>>=fun y3=>some (y3.1,y3.2))) else (if (decide (p0=14))=true then ((aG5 p1 p2)>>=fun y4=>(aB3 y4)>>=fun y5=>some (y5,0)) else ((yO .i64 p1 p2)>>=fun y6=>(aB3 y6)>>=fun y7=>some (y7,0))))
def rY (p0:aA) (p1:aA):Option Int :=
  if (decide (p0.kind<p1.kind))=true then (some (-1)) else (if (decide (p1.kind<p0.kind))=true then (some 1) else (if (decide (p0.num<p1.num))=true then (some (-1)) else (if (decide (p1.num<p0.num))=true then (some 1) else (if (Op.bytesLess p0.text p1.text)=true then (some (-1)) else (if (!(Op.bytesLess p0.text p1.text||decide (p0.text=p1.text)))=true then (some 1) else (some 0))))))
def aGz (p0:Int) (p1:aA) (p2:aA) (O7:Bool):Option (aA×Int) :=
  if O7=true then ((aL1 p0 p1.num p2.num)>>=fun y19=>some (y19.1,y19.2)) else ((rY p1 p2)>>=fun y20=>(aC5 p0 y20)>>=fun y21=>(wP y21)>>=fun y22=>some (y22,0))
def uV (p0:aA):Option Bool :=
  some (decide (p0.kind=0))
def uY (p0:aA) (p1:Int):Option Bool :=
  (if (true&&((decide (p0.kind=p1))==false))=true then uV p0 else some default)>>=fun y1=>(some (if (decide (p0.kind=p1))=true then true else y1))>>=fun y2=>some y2
def aKm (p0:Int) (p1:aA) (p2:aA):Option (aA×Int) :=
  (uY p1 3)>>=fun y1=>(if (true&&((!y1)==false))=true then uY p2 3 else some default)>>=fun y2=>(some (if (!y1)=true then true else (!y2)))>>=fun y3=>if y3=true then (some ((aA.mk 0 0 []),1)) else ((wP (decide (p0=1)))>>=fun y4=>(some (if ((decide (p1.kind=y4.kind))&&((decide (p1.num=y4.num))&&((decide (p1.text=y4.text))&&true)))=true then true else ((decide (p2.kind=y4.kind))&&((decide (p2.num=y4.num))&&((decide (p2.text=y4.text))&&true)))))>>=fun y5=>if y5=true then (some (y4,0)) else ((uV p1)>>=fun y6=>(if (true&&(y6==false))=true then uV p2 else some default)>>=fun y7=>(some (if y6=true then true else y7))>>=fun y8=>if y8=true then (some ((aA.mk 0 0 []),0)) else ((wP (decide (p0=2)))>>=fun y9=>some (y9,0))))
def aHv (p0:Int) (p1:aA) (p2:aA):Option Bool :=
  if (decide (p0=9))=true then ((uY p1 2)>>=fun y1=>(if (true&&(y1==true))=true then uY p2 2 else some default)>>=fun y2=>(some (if y1=true then y2 else false))>>=fun y3=>some y3) else (if (decide (10≤p0))=true then ((uY p1 1)>>=fun y4=>(if (true&&(y4==true))=true then uY p2 1 else some default)>>=fun y5=>(some (if y4=true then y5 else false))>>=fun y6=>some y6) else ((if (true&&((decide (p1.kind=p2.kind))==false))=true then uV p1 else some default)>>=fun y7=>(some (if (decide (p1.kind=p2.kind))=true then true else y7))>>=fun y8=>(if (true&&(y8==false))=true then uV p2 else some default)>>=fun y9=>(some (if y8=true then true else y9))>>=fun y10=>some y10))
def aLd (p0:Int) (p1:Int):Option (Int×Bool) :=
  (some (if (decide (p0=0))=true then true else (decide (p1=0))))>>=fun y1=>if y1=true then (some (0,true)) else ((some (if (decide (p0=(-1)))=true then (decide (p1=(-9223372036854775808))) else false))>>=fun y2=>(if (true&&(y2==false))=true then some (if (decide (p1=(-1)))=true then (decide (p0=(-9223372036854775808))) else false) else some default)>>=fun y3=>(some (if y2=true then true else y3))>>=fun y4=>if y4=true then (some (0,false)) else ((yO .i64 (QA .i64 (p0 * p1)) p1)>>=fun y5=>if (!decide (y5=p0))=true then (some (0,false)) else (some ((QA .i64 (p0 * p1)),true))))
def aRd (p0:List UInt8):Option aA :=
  some (aA.mk 2 0 p0)
def pY (p0:Int) (p1:aA) (p2:aA):Option (aA×Int) :=
  (fT p0 1 14)>>=fun y1=>(if (true&&((!y1)==false))=true then kT p1 else some default)>>=fun y2=>(some (if (!y1)=true then true else (!y2)))>>=fun y3=>(if (true&&(y3==false))=true then kT p2 else some default)>>=fun y4=>(some (if y3=true then true else (!y4)))>>=fun y5=>if y5=true then (some ((aA.mk 0 0 []),1)) else (if (decide (p0≤2))=true then ((aKm p0 p1 p2)>>=fun y6=>some (y6.1,y6.2)) else ((aHv p0 p1 p2)>>=fun y7=>if (!y7)=true then (some ((aA.mk 0 0 []),1)) else ((uV p1)>>=fun y8=>(if (true&&(y8==false))=true then uV p2 else some default)>>=fun y9=>(some (if y8=true then true else y9))>>=fun y10=>if y10=true then (some ((aA.mk 0 0 []),0)) else (if (decide (p0=9))=true then (if (decide (200<(QA .i64 ((p1.text.length:Int)+(p2.text.length:Int)))))=true then (some ((aA.mk 0 0 []),2)) else ((xO p1.text p2.text)>>=fun y11=>(aRd y11)>>=fun y12=>some (y12,0))) else (if (decide (p0=10))=true then ((aNk p1.num p2.num)>>=fun y13=>(yX y13.1 y13.2)>>=fun y14=>some (y14.1,y14.2)) else (if (decide (p0=11))=true then ((aF4 p1.num p2.num)>>=fun y15=>(yX y15.1 y15.2)>>=fun y16=>some (y16.1,y16.2)) else (if (decide (p0=12))=true then ((aLd p1.num p2.num)>>=fun y17=>(yX y17.1 y17.2)>>=fun y18=>some (y18.1,y18.2)) else (if (decide (p0=13))=true then (aGz p0 p1 p2 (decide (p0=13))) else (aGz p0 p1 p2 (decide (p0=14)))))))))))
def aLj (p0:aA) (p1:aA) (p2:aA):Option (aA×Int) :=
  (pY 8 p0 p1)>>=fun y1=>if (!decide (y1.2=0))=true then (some ((aA.mk 0 0 []),y1.2)) else ((pY 6 p0 p2)>>=fun y2=>if (!decide (y2.2=0))=true then (some ((aA.mk 0 0 []),y2.2)) else ((pY 2 y1.1 y2.1)>>=fun y3=>some (y3.1,y3.2)))
def aHl (p0:Int) (p1:aA):Option (aA×Int) :=
  (kT p1)>>=fun y1=>if (!y1)=true then (some ((aA.mk 0 0 []),1)) else (if (decide (p0=15))=true then ((uY p1 3)>>=fun y2=>if (!y2)=true then (some ((aA.mk 0 0 []),1)) else ((uV p1)>>=fun y3=>if y3=true then (some (p1,0)) else ((wP (decide (p1.num=0)))>>=fun y4=>some (y4,0)))) else (if (decide (p0=16))=true then ((uY p1 1)>>=fun y5=>if (!y5)=true then (some ((aA.mk 0 0 []),1)) else ((uV p1)>>=fun y6=>if y6=true then (some (p1,0)) else ((aF4 0 p1.num)>>=fun y7=>(yX y7.1 y7.2)>>=fun y8=>some (y8.1,y8.2)))) else (some ((aA.mk 0 0 []),1))))
def aCw (p0:aJ) (p1:aA) (p2:Int):Option (aA×Int) :=
  if (!decide (p2=0))=true then (some ((aA.mk 0 0 []),p2)) else (if p0.not_=true then ((aHl 15 p1)>>=fun y1=>some (y1.1,y1.2)) else (some (p1,0)))
def U4 (p1:List aA) (p0:aA) (x7:Int) (iX:Int) (iU:Int) (iV:List UInt8):Option (aA×Int) :=
  if (decide (x7<(p1.length:Int)))=true then ((idx p1 x7)>>=fun y2=>(pY 3 p0 y2)>>=fun y3=>if (!decide (y3.2=0))=true then (some ((aA.mk 0 0 []),y3.2)) else ((pY 1 (aA.mk iX iU iV) y3.1)>>=fun y4=>U4 p1 p0 (QA .i64 (x7+1)) y4.1.kind y4.1.num y4.1.text)) else (some ((aA.mk iX iU iV),0))
  partial_fixpoint
def aEk (p0:aA) (p1:List aA):Option (aA×Int) :=
  (wP false)>>=fun y1=>U4 p1 p0 0 y1.kind y1.num y1.text
def yS (x10:List aA) (x14:List (List aA)) (p3:aJ) (x21:List aA) (x22:Int):Option (aA×Int) :=
  if (decide (x22<(x14.length:Int)))=true then ((idx x14 x22)>>=fun y30=>if (decide ((y30.length:Int)=0))=true then (some ((aA.mk 0 0 []),4)) else ((idx x14 x22)>>=fun y31=>(idx y31 0)>>=fun y32=>(appG 32 x21 ([y32]:List aA))>>=fun y33=>yS x10 x14 p3 y33 (QA .i64 (x22+1)))) else ((idx x10 0)>>=fun y34=>(aEk y34 x21)>>=fun y35=>(aCw p3 y35.1 y35.2)>>=fun y36=>some (y36.1,y36.2))
  partial_fixpoint
def uG (p2:List (List aA)) (x10:List aA) (p3:aJ) (x14:List (List aA)):Option (aA×Int) :=
  if (decide (p3.kind=1))=true then (some (p3.value,0)) else (if (decide (p3.kind=2))=true then ((fT p3.up 0 (QA .i64 ((p2.length:Int) - 1)))>>=fun y7=>(if (true&&((!y7)==false))=true then idx p2 p3.up else some default)>>=fun y8=>(if (true&&((!y7)==false))=true then fT p3.at_ 0 (QA .i64 ((y8.length:Int) - 1)) else some default)>>=fun y9=>(some (if (!y7)=true then true else (!y9)))>>=fun y10=>if y10=true then (some ((aA.mk 0 0 []),4)) else ((idx p2 p3.up)>>=fun y11=>(idx y11 p3.at_)>>=fun y12=>some (y12,0))) else (if (decide (p3.kind=3))=true then ((idx x10 0)>>=fun y13=>(aHl p3.op y13)>>=fun y14=>some (y14.1,y14.2)) else (if (decide (p3.kind=4))=true then ((idx x10 0)>>=fun y15=>(idx x10 1)>>=fun y16=>(pY p3.op y15 y16)>>=fun y17=>some (y17.1,y17.2)) else (if (decide (p3.kind=5))=true then ((idx x10 0)>>=fun y18=>(wP (!((decide (y18.kind=0))==p3.not_)))>>=fun y19=>some (y19,0)) else (if (decide (p3.kind=6))=true then ((idx x10 0)>>=fun y20=>(idx x10 1)>>=fun y21=>(idx x10 2)>>=fun y22=>(aLj y20 y21 y22)>>=fun y23=>(aCw p3 y23.1 y23.2)>>=fun y24=>some (y24.1,y24.2)) else (if (decide (p3.kind=7))=true then ((idx x10 0)>>=fun y25=>(gY x10 1 (x10.length:Int))>>=fun y26=>(aEk y25 y26)>>=fun y27=>(aCw p3 y27.1 y27.2)>>=fun y28=>some (y28.1,y28.2)) else (if (decide (p3.kind=9))=true then ((wP (decide (0<(x14.length:Int))))>>=fun y29=>some (y29,0)) else (yS x10 x14 p3 ([]:List aA) 0))))))))
def aIs (p0:aJ) (x20:Bool):Option Bool :=
  if x20=true then ((some (if (decide ((p0.kids.length:Int)=1))=true then (decide ((p0.sub.length:Int)=0)) else false))>>=fun y1=>some y1) else (if (decide (p0.kind=4))=true then ((some (if (decide ((p0.kids.length:Int)=2))=true then (decide ((p0.sub.length:Int)=0)) else false))>>=fun y2=>some y2) else (if (decide (p0.kind=6))=true then ((some (if (decide ((p0.kids.length:Int)=3))=true then (decide ((p0.sub.length:Int)=0)) else false))>>=fun y3=>some y3) else (if (decide (p0.kind=7))=true then ((fT (p0.kids.length:Int) 2 9)>>=fun y4=>(some (if y4=true then (decide ((p0.sub.length:Int)=0)) else false))>>=fun y5=>some y5) else (if (decide (p0.kind=8))=true then ((some (if (decide ((p0.kids.length:Int)=1))=true then (decide ((p0.sub.length:Int)=1)) else false))>>=fun y6=>some y6) else (if (decide (p0.kind=9))=true then ((some (if (decide ((p0.kids.length:Int)=0))=true then (decide ((p0.sub.length:Int)=1)) else false))>>=fun y7=>some y7) else (some false))))))
def aIw (p0:aJ) (x13:Bool):Option Bool :=
  if x13=true then (some (decide ((QA .i64 ((p0.kids.length:Int)+(p0.sub.length:Int)))=0))) else (if (decide (p0.kind=3))=true then (aIs p0 (decide (p0.kind=3))) else (aIs p0 (decide (p0.kind=5))))
def aMu (p0:aJ):Option Bool :=
  if (decide (p0.kind=1))=true then (aIw p0 (decide (p0.kind=1))) else (aIw p0 (decide (p0.kind=2)))
def aMw (p0:aA):Option Bool :=
  (some (if (decide (p0.kind=3))=true then (decide (p0.num=1)) else false))>>=fun y1=>some y1
def aBj (p0:List aA) (p1:List (List aA)):Option (List (List aA)) :=
  (appG 24 ([p0]:List (List aA)) p1)>>=fun y1=>some y1
def R6 (p0:GDb) (p1:aQ) (x5:Int):Option Bool :=
  if (decide (x5<(p1.tables.length:Int)))=true then ((idx p1.tables x5)>>=fun y2=>(fT y2 0 (QA .i64 ((p0.tables.length:Int) - 1)))>>=fun y3=>if (!y3)=true then (some false) else (R6 p0 p1 (QA .i64 (x5+1)))) else (some true)
  partial_fixpoint
def aKl (p0:GDb) (p1:aQ):Option Bool :=
  (some (if (decide ((p1.tables.length:Int)=0))=true then true else (!decide ((p1.on_.length:Int)=(p1.tables.length:Int)))))>>=fun y1=>if y1=true then (some false) else (R6 p0 p1 0)
mutual
def aBo (p0:List aA) (p1:List aA) (p2:List bD) (x7:Int) (x8:Int):Option Bool :=
  if (!decide (x8=0))=true then (some (decide (x8<0))) else (aCc p0 p1 p2 (QA .i64 (x7+1)))
  partial_fixpoint
def aCc (p0:List aA) (p1:List aA) (p2:List bD) (x7:Int):Option Bool :=
  if (decide (x7<(p2.length:Int)))=true then ((idx p0 x7)>>=fun y1=>(idx p1 x7)>>=fun y2=>(rY y1 y2)>>=fun y3=>(idx p2 x7)>>=fun y4=>if y4.desc=true then (aBo p0 p1 p2 x7 (QA .i64 (0 - y3))) else (aBo p0 p1 p2 x7 y3)) else (some false)
  partial_fixpoint
end
def aL2 (p0:List aA) (p1:List aA) (p2:List bD):Option Bool :=
  aCc p0 p1 p2 0
def R7 (p0:List aA) (p1:List aA) (x5:Int):Option Bool :=
  if (decide (x5<(p0.length:Int)))=true then ((idx p0 x5)>>=fun y1=>(idx p1 x5)>>=fun y2=>if (!((decide (y1.kind=y2.kind))&&((decide (y1.num=y2.num))&&((decide (y1.text=y2.text))&&true))))=true then (some false) else (R7 p0 p1 (QA .i64 (x5+1)))) else (some true)
  partial_fixpoint
def aL8 (p0:List aA) (p1:List aA):Option Bool :=
  if (!decide ((p0.length:Int)=(p1.length:Int)))=true then (some false) else (R7 p0 p1 0)
mutual
def zC (p0:List (List aA)) (x4:Int) (uA:List (List aA)):Option (List (List aA)) :=
  aD3 p0 uA (QA .i64 (x4+1))
  partial_fixpoint
def aDh (p0:List (List aA)) (x3:List (List aA)) (x4:Int) (x5:Bool) (x6:Int):Option (List (List aA)) :=
  if (decide (x6<(x3.length:Int)))=true then ((if (true&&(x5==false))=true then idx x3 x6 else some default)>>=fun y1=>(if (true&&(x5==false))=true then idx p0 x4 else some default)>>=fun y2=>(if (true&&(x5==false))=true then aL8 y1 y2 else some default)>>=fun y3=>(some (if x5=true then true else y3))>>=fun y4=>aDh p0 x3 x4 y4 (QA .i64 (x6+1))) else (if (!x5)=true then ((idx p0 x4)>>=fun y5=>(aB8 y5)>>=fun y6=>(appG 24 x3 ([y6]:List (List aA)))>>=fun y7=>zC p0 x4 y7) else (zC p0 x4 x3))
  partial_fixpoint
def aD3 (p0:List (List aA)) (x3:List (List aA)) (x4:Int):Option (List (List aA)) :=
  if (decide (x4<(p0.length:Int)))=true then (aDh p0 x3 x4 false 0) else (some x3)
  partial_fixpoint
end
def aFb (p0:List (List aA)):Option (List (List aA)) :=
  aD3 p0 ([]:List (List aA)) 0
def aJb (U5:List (List aA)):Option ((List (List aA))×Int) :=
  some (U5,0)
def U9 (p3:aQ) (uE:List (List aA)):Option ((List (List aA))×Int) :=
  (some (if (decide (0≤p3.limit))=true then (decide (p3.limit<(uE.length:Int))) else false))>>=fun y8=>if y8=true then ((gY uE 0 p3.limit)>>=fun y9=>aJb y9) else (aJb uE)
mutual
def aAv (p2:List (List aA)) (p3:List (List aA)) (p4:List aJ) (x12:List (List aA)) (x13:Int) (p0:aX) (kp1:GDb×(List aA)×Int):Option ((List (List aA))×Int) :=
  if (decide (kp1.2.2<(p4.length:Int)))=true then ((idx p3 x13)>>=fun y1=>(aBj y1 p2)>>=fun y2=>(idx p4 kp1.2.2)>>=fun y3=>(fZ p0 kp1.1 y2 y3)>>=fun y4=>if (!decide (y4.2=0))=true then (some (([]:List (List aA)),y4.2)) else ((appG 32 kp1.2.1 ([y4.1]:List aA))>>=fun y5=>aAv p2 p3 p4 x12 x13 p0 (kp1.1,y5,(QA .i64 (kp1.2.2+1))))) else ((appG 24 x12 ([kp1.2.1]:List (List aA)))>>=fun y6=>Q8 p2 p3 p4 p0 kp1.1 y6 (QA .i64 (x13+1)))
  partial_fixpoint
def Q8 (p2:List (List aA)) (p3:List (List aA)) (p4:List aJ) (p0:aX) (p1:GDb) (x12:List (List aA)) (x13:Int):Option ((List (List aA))×Int) :=
  if (decide (x13<(p3.length:Int)))=true then (aAv p2 p3 p4 x12 x13 p0 (p1,([]:List aA),0)) else (some (x12,0))
  partial_fixpoint
def aMb (p0:aX) (p1:GDb) (p2:List (List aA)) (p3:List (List aA)) (p4:List aJ):Option ((List (List aA))×Int) :=
  Q8 p2 p3 p4 p0 p1 ([]:List (List aA)) 0
  partial_fixpoint
def aFp (p2:List (List aA)) (p0:aX) (p1:GDb) (p3:aQ) (x11:List (List aA)):Option ((List (List aA))×Int) :=
  (aMb p0 p1 p2 x11 p3.items)>>=fun y5=>if (!decide (y5.2=0))=true then (some (([]:List (List aA)),y5.2)) else (if p3.distinct=true then ((aFb y5.1)>>=fun y6=>U9 p3 y6) else (U9 p3 y5.1))
  partial_fixpoint
def aAi (p2:List (List aA)) (p3:List (List aA)) (p4:List bD) (x12:List (List aA)) (x13:List (List aA)) (x14:Int) (kx15q:(List aA)×aX×GDb×Int):Option ((List (List aA))×Int) :=
  (if (true&&((decide (0<kx15q.2.2.2))==true))=true then idx x13 (QA .i64 (kx15q.2.2.2 - 1)) else some default)>>=fun y6=>(if (true&&((decide (0<kx15q.2.2.2))==true))=true then aL2 kx15q.1 y6 p4 else some default)>>=fun y7=>(some (if (decide (0<kx15q.2.2.2))=true then y7 else false))>>=fun y8=>if y8=true then (aAi p2 p3 p4 x12 x13 x14 (kx15q.1,kx15q.2.1,kx15q.2.2.1,(QA .i64 (kx15q.2.2.2 - 1)))) else ((gY x12 0 kx15q.2.2.2)>>=fun y9=>(appG 24 ([]:List (List aA)) y9)>>=fun y10=>(idx p3 x14)>>=fun y11=>(appG 24 y10 ([y11]:List (List aA)))>>=fun y12=>(gY x12 kx15q.2.2.2 (x12.length:Int))>>=fun y13=>(appG 24 y12 y13)>>=fun y14=>(gY x13 0 kx15q.2.2.2)>>=fun y15=>(appG 24 ([]:List (List aA)) y15)>>=fun y16=>(appG 24 y16 ([kx15q.1]:List (List aA)))>>=fun y17=>(gY x13 kx15q.2.2.2 (x13.length:Int))>>=fun y18=>(appG 24 y17 y18)>>=fun y19=>xI p2 p3 p4 kx15q.2.1 kx15q.2.2.1 y14 (y19,(QA .i64 (x14+1))))
  partial_fixpoint
def aF0 (p2:List (List aA)) (p3:List (List aA)) (p4:List bD) (x12:List (List aA)) (x13:List (List aA)) (x14:Int) (kp0q:aX×GDb×(List aA)×Int):Option ((List (List aA))×Int) :=
  if (decide (kp0q.2.2.2<(p4.length:Int)))=true then ((idx p3 x14)>>=fun y1=>(aBj y1 p2)>>=fun y2=>(idx p4 kp0q.2.2.2)>>=fun y3=>(fZ kp0q.1 kp0q.2.1 y2 y3.expr)>>=fun y4=>if (!decide (y4.2=0))=true then (some (([]:List (List aA)),y4.2)) else ((appG 32 kp0q.2.2.1 ([y4.1]:List aA))>>=fun y5=>aF0 p2 p3 p4 x12 x13 x14 (kp0q.1,kp0q.2.1,y5,(QA .i64 (kp0q.2.2.2+1))))) else (aAi p2 p3 p4 x12 x13 x14 (kp0q.2.2.1,kp0q.1,kp0q.2.1,(x12.length:Int)))
  partial_fixpoint
def xI (p2:List (List aA)) (p3:List (List aA)) (p4:List bD) (p0:aX) (p1:GDb) (x12:List (List aA)) (kx13:(List (List aA))×Int):Option ((List (List aA))×Int) :=
  if (decide (kx13.2<(p3.length:Int)))=true then (aF0 p2 p3 p4 x12 kx13.1 kx13.2 (p0,p1,([]:List aA),0)) else (some (x12,0))
  partial_fixpoint
def aJ9 (p0:aX) (p1:GDb) (p2:List (List aA)) (p3:List (List aA)) (p4:List bD):Option ((List (List aA))×Int) :=
  xI p2 p3 p4 p0 p1 ([]:List (List aA)) (([]:List (List aA)),0)
  partial_fixpoint
def aF1 (p2:List (List aA)) (x3:List (List aA)) (p4:List aJ) (x12:Int) (x14:Int) (p0:aX) (kp1:GDb×(List (List aA))):Option ((List (List aA))×Int) :=
  aCj p2 x3 p4 x12 p0 kp1.1 (kp1.2,(QA .i64 (x14+1)))
  partial_fixpoint
def aB2 (p2:List (List aA)) (p0:aX) (p1:GDb) (p3:aJ) (x10:List aA) (x11:Int):Option (aA×Int) :=
  if (decide (x11<(p3.kids.length:Int)))=true then ((idx p3.kids x11)>>=fun y2=>(fZ p0 p1 p2 y2)>>=fun y3=>if (!decide (y3.2=0))=true then (some ((aA.mk 0 0 []),y3.2)) else ((appG 32 x10 ([y3.1]:List aA))>>=fun y4=>aB2 p2 p0 p1 p3 y4 (QA .i64 (x11+1)))) else (if (decide (0<(p3.sub.length:Int)))=true then ((idx p3.sub 0)>>=fun y5=>(uN p0 p1 p2 y5)>>=fun y6=>if (!decide (y6.2=0))=true then (some ((aA.mk 0 0 []),y6.2)) else (uG p2 x10 p3 y6.1)) else (uG p2 x10 p3 ([]:List (List aA))))
  partial_fixpoint
def fZ (p0:aX) (p1:GDb) (p2:List (List aA)) (p3:aJ):Option (aA×Int) :=
  (aMu p3)>>=fun y1=>if (!y1)=true then (some ((aA.mk 0 0 []),4)) else (aB2 p2 p0 p1 p3 ([]:List aA) 0)
  partial_fixpoint
def aCj (p2:List (List aA)) (x3:List (List aA)) (p4:List aJ) (x12:Int) (p0:aX) (p1:GDb) (kx13:(List (List aA))×Int):Option ((List (List aA))×Int) :=
  if (decide (kx13.2<(x3.length:Int)))=true then ((idx x3 kx13.2)>>=fun y1=>(aBj y1 p2)>>=fun y2=>(idx p4 x12)>>=fun y3=>(fZ p0 p1 y2 y3)>>=fun y4=>if (!decide (y4.2=0))=true then (some (([]:List (List aA)),y4.2)) else ((aMw y4.1)>>=fun y5=>if y5=true then ((idx x3 kx13.2)>>=fun y6=>(appG 24 kx13.1 ([y6]:List (List aA)))>>=fun y7=>aF1 p2 x3 p4 x12 kx13.2 p0 (p1,y7)) else (aF1 p2 x3 p4 x12 kx13.2 p0 (p1,kx13.1)))) else (K9 p2 p4 p0 p1 kx13.1 (QA .i64 (x12+1)))
  partial_fixpoint
def K9 (p2:List (List aA)) (p4:List aJ) (p0:aX) (p1:GDb) (x3:List (List aA)) (x12:Int):Option ((List (List aA))×Int) :=
  if (decide (x12<(p4.length:Int)))=true then (aCj p2 x3 p4 x12 p0 p1 (([]:List (List aA)),0)) else (some (x3,0))
  partial_fixpoint
def aAt (p0:aX) (p1:GDb) (p2:List (List aA)) (p3:List (List aA)) (p4:List aJ):Option ((List (List aA))×Int) :=
  K9 p2 p4 p0 p1 p3 0
  partial_fixpoint
def aC3 (p2:List (List aA)) (x10:List (List aA)) (x11:Int) (y2:bN) (x14:Int) (p0:aX) (kp1:GDb×aQ×(((List (List aA))×Int))):Option ((List (List aA))×Int) :=
  if (decide (kp1.2.2.2<(y2.rows.length:Int)))=true then ((idx x10 x14)>>=fun y6=>(aB8 y6)>>=fun y7=>(idx y2.rows kp1.2.2.2)>>=fun y8=>(appG 32 y7 y8)>>=fun y9=>(appG 24 kp1.2.2.1 ([y9]:List (List aA)))>>=fun y10=>aC3 p2 x10 x11 y2 x14 p0 (kp1.1,kp1.2.1,y10,(QA .i64 (kp1.2.2.2+1)))) else (V9 p2 x10 x11 y2 p0 kp1.1 (kp1.2.1,kp1.2.2.1,(QA .i64 (x14+1))))
  partial_fixpoint
def V9 (p2:List (List aA)) (x10:List (List aA)) (x11:Int) (y2:bN) (p0:aX) (p1:GDb) (kp3q:aQ×(((List (List aA))×Int))):Option ((List (List aA))×Int) :=
  if (decide (kp3q.2.2<(x10.length:Int)))=true then (aC3 p2 x10 x11 y2 kp3q.2.2 p0 (p1,kp3q.1,kp3q.2.1,0)) else ((idx kp3q.1.on_ x11)>>=fun y4=>(aAt p0 p1 p2 kp3q.2.1 y4)>>=fun y5=>if (!decide (y5.2=0))=true then (some (([]:List (List aA)),y5.2)) else (aAp p2 p0 p1 kp3q.1 y5.1 (QA .i64 (x11+1))))
  partial_fixpoint
def aAp (p2:List (List aA)) (p0:aX) (p1:GDb) (p3:aQ) (x10:List (List aA)) (x11:Int):Option ((List (List aA))×Int) :=
  if (decide (x11<(p3.tables.length:Int)))=true then ((idx p3.tables x11)>>=fun y1=>(idx p1.tables y1)>>=fun y2=>V9 p2 x10 x11 y2 p0 p1 (p3,([]:List (List aA)),0)) else (some (x10,0))
  partial_fixpoint
def aN6 (p0:aX) (p1:GDb) (p2:List (List aA)) (p3:aQ):Option ((List (List aA))×Int) :=
  aAp p2 p0 p1 p3 ([([]:List aA)]:List (List aA)) 0
  partial_fixpoint
def uN (p0:aX) (p1:GDb) (p2:List (List aA)) (p3:aQ):Option ((List (List aA))×Int) :=
  (aKl p1 p3)>>=fun y1=>if (!y1)=true then (some (([]:List (List aA)),4)) else ((aN6 p0 p1 p2 p3)>>=fun y2=>if (!decide (y2.2=0))=true then (some (([]:List (List aA)),y2.2)) else ((aAt p0 p1 p2 y2.1 p3.where_)>>=fun y3=>if (!decide (y3.2=0))=true then (some (([]:List (List aA)),y3.2)) else (if (decide (0<(p3.order.length:Int)))=true then ((aJ9 p0 p1 p2 y3.1 p3.order)>>=fun y4=>if (!decide (y4.2=0))=true then (some (([]:List (List aA)),y4.2)) else (aFp p2 p0 p1 p3 y4.1)) else (aFp p2 p0 p1 p3 y3.1))))
  partial_fixpoint
end
def C9 (p0:aQ) (fH:List aJ) (x5:Int):Option (List aJ) :=
  if (decide (x5<(p0.order.length:Int)))=true then ((idx p0.order x5)>>=fun y5=>(appG 120 fH ([y5.expr]:List aJ))>>=fun y6=>C9 p0 y6 (QA .i64 (x5+1))) else ((appG 120 fH p0.items)>>=fun y7=>some y7)
  partial_fixpoint
def aCt (p0:aQ) (x3:List aJ) (x4:Int):Option (List aJ) :=
  if (decide (x4<(p0.on_.length:Int)))=true then ((idx p0.on_ x4)>>=fun y1=>(appG 120 x3 y1)>>=fun y2=>aCt p0 y2 (QA .i64 (x4+1))) else ((appG 120 x3 p0.where_)>>=fun y3=>C9 p0 y3 0)
  partial_fixpoint
def aEd (p0:aQ):Option (List aJ) :=
  aCt p0 ([]:List aJ) 0
def xC (p0:Int) (p1:Int):Option Int :=
  if (decide (p1<p0))=true then (some p0) else (some p1)
mutual
def P6 (p0:aJ) (fH:Int) (x5:Int):Option Int :=
  if (decide (x5<(p0.sub.length:Int)))=true then ((idx p0.sub x5)>>=fun y5=>(aBg y5)>>=fun y6=>(xC fH y6)>>=fun y7=>P6 p0 y7 (QA .i64 (x5+1))) else (some (QA .i64 (fH+1)))
  partial_fixpoint
def aFk (p0:aJ) (x3:Int) (x4:Int):Option Int :=
  if (decide (x4<(p0.kids.length:Int)))=true then ((idx p0.kids x4)>>=fun y1=>(I8 y1)>>=fun y2=>(xC x3 y2)>>=fun y3=>aFk p0 y3 (QA .i64 (x4+1))) else (P6 p0 x3 0)
  partial_fixpoint
def I8 (p0:aJ):Option Int :=
  aFk p0 0 0
  partial_fixpoint
def aB6 (y1:List aJ) (x3:Int) (x5:Int):Option Int :=
  if (decide (x5<(y1.length:Int)))=true then ((idx y1 x5)>>=fun y2=>(I8 y2)>>=fun y3=>(xC x3 y3)>>=fun y4=>aB6 y1 y4 (QA .i64 (x5+1))) else (some x3)
  partial_fixpoint
def aBg (p0:aQ):Option Int :=
  (aEd p0)>>=fun y1=>aB6 y1 0 0
  partial_fixpoint
end
mutual
def aAd (p0:aJ) (rF:Int) (x5:Int):Option Int :=
  if (decide (x5<(p0.sub.length:Int)))=true then ((idx p0.sub x5)>>=fun y4=>(aCy y4)>>=fun y5=>aAd p0 (QA .i64 (rF+y5)) (QA .i64 (x5+1))) else (some rF)
  partial_fixpoint
def aG4 (p0:aJ) (x3:Int) (x4:Int):Option Int :=
  if (decide (x4<(p0.kids.length:Int)))=true then ((idx p0.kids x4)>>=fun y1=>(zV y1)>>=fun y2=>aG4 p0 (QA .i64 (x3+y2)) (QA .i64 (x4+1))) else (aAd p0 x3 0)
  partial_fixpoint
def zV (p0:aJ):Option Int :=
  aG4 p0 1 0
  partial_fixpoint
def aAz (y1:List aJ) (x3:Int) (x5:Int):Option Int :=
  if (decide (x5<(y1.length:Int)))=true then ((idx y1 x5)>>=fun y2=>(zV y2)>>=fun y3=>aAz y1 (QA .i64 (x3+y3)) (QA .i64 (x5+1))) else (some x3)
  partial_fixpoint
def aCy (p0:aQ):Option Int :=
  (aEd p0)>>=fun y1=>aAz y1 0 0
  partial_fixpoint
end
def V5 (p1:List Int) (p0:aX) (x6:List Int) (x7:Int):Option ((List Int)×Bool) :=
  if (decide (x7<(p1.length:Int)))=true then ((idx p1 x7)>>=fun y1=>(fT y1 0 (QA .i64 ((p0.tables.length:Int) - 1)))>>=fun y2=>if (!y2)=true then (some (([]:List Int),false)) else ((idx p1 x7)>>=fun y3=>(idx p0.tables y3)>>=fun y4=>(J3 y4)>>=fun y5=>(appG 8 x6 y5)>>=fun y6=>V5 p1 p0 y6 (QA .i64 (x7+1)))) else (some (x6,true))
  partial_fixpoint
def aD9 (p0:aX) (p1:List Int):Option ((List Int)×Bool) :=
  V5 p1 p0 ([]:List Int) 0
def D5 (p0:aX) (p1:aQ) (x6:Int):Option Bool :=
  if (decide (x6<(p1.names.length:Int)))=true then ((idx p1.names x6)>>=fun y12=>(oH y12)>>=fun y13=>if (!y13)=true then (some false) else (D5 p0 p1 (QA .i64 (x6+1)))) else ((aD9 p0 p1.tables)>>=fun y14=>some y14.2)
  partial_fixpoint
def yY (p0:aX) (p1:aQ) (x5:Int):Option Bool :=
  if (decide (x5<(p1.on_.length:Int)))=true then ((idx p1.on_ x5)>>=fun y11=>if (decide (1<(y11.length:Int)))=true then (some false) else (yY p0 p1 (QA .i64 (x5+1)))) else (D5 p0 p1 0)
  partial_fixpoint
def aJj (p0:aX) (p1:aQ):Option Bool :=
  (fT (p1.tables.length:Int) 1 3)>>=fun y1=>(some (if (!y1)=true then true else (!decide ((p1.on_.length:Int)=(p1.tables.length:Int)))))>>=fun y2=>(if (true&&(y2==false))=true then idx p1.on_ 0 else some default)>>=fun y3=>(some (if y2=true then true else (decide (0<(y3.length:Int)))))>>=fun y4=>(some (if y4=true then true else (decide (1<(p1.where_.length:Int)))))>>=fun y5=>(some (if y5=true then true else (decide (12<(p1.order.length:Int)))))>>=fun y6=>(if (true&&(y6==false))=true then fT (p1.items.length:Int) 1 12 else some default)>>=fun y7=>(some (if y6=true then true else (!y7)))>>=fun y8=>(some (if y8=true then true else (!decide ((p1.names.length:Int)=(p1.items.length:Int)))))>>=fun y9=>(some (if y9=true then true else (decide (p1.limit<(-1)))))>>=fun y10=>if y10=true then (some false) else (yY p0 p1 0)
def aG6 (p0:List Int) (p1:List (List Int)):Option (List (List Int)) :=
  (appG 24 ([p0]:List (List Int)) p1)>>=fun y1=>some y1
def X3 (p0:Int):Option Bool :=
  (some (if (decide (p0=0))=true then true else (decide (p0=3))))>>=fun y1=>some y1
def Z4 (p0:aA):Option Bool :=
  (kT p0)>>=fun y1=>(if (true&&(y1==true))=true then some (if (!decide (p0.kind=1))=true then true else (decide (0≤p0.num))) else some default)>>=fun y2=>(some (if y1=true then y2 else false))>>=fun y3=>(some (if y3=true then (decide ((p0.text.length:Int)≤40)) else false))>>=fun y4=>some y4
def G9 (p0:List UInt8):Option Bool :=
  (if (true&&((decide (p0=[]))==false))=true then oH p0 else some default)>>=fun y1=>(some (if (decide (p0=[]))=true then true else y1))>>=fun y2=>some y2
def aD7 (p0:eZ):Option Bool :=
  (if (true&&((!decide (p0.kind=2))==true))=true then some (if (!decide (p0.qual=[]))=true then true else (!decide (p0.name=[]))) else some default)>>=fun y1=>(some (if (!decide (p0.kind=2))=true then y1 else false))>>=fun y2=>(if (true&&(y2==false))=true then some (if (!decide (p0.kind=1))=true then (!((decide (p0.value.kind=0))&&((decide (p0.value.num=0))&&((decide (p0.value.text=[]))&&true)))) else false) else some default)>>=fun y3=>(some (if y2=true then true else y3))>>=fun y4=>if y4=true then (some false) else ((some (if (!decide (p0.kind=3))=true then (!decide (p0.kind=4)) else false))>>=fun y5=>(some (if y5=true then (!decide (p0.op=0)) else false))>>=fun y6=>(if ((true&&(y6==false))&&(p0.not_==true))=true then fT p0.kind 5 8 else some default)>>=fun y7=>(if (true&&(y6==false))=true then some (if p0.not_=true then (!y7) else false) else some default)>>=fun y8=>(some (if y6=true then true else y8))>>=fun y9=>if y9=true then (some false) else (if (decide (p0.kind=1))=true then ((Z4 p0.value)>>=fun y10=>(some (if y10=true then (decide ((QA .i64 ((p0.kids.length:Int)+(p0.sub.length:Int)))=0)) else false))>>=fun y11=>some y11) else (if (decide (p0.kind=2))=true then ((oH p0.name)>>=fun y12=>(if (true&&(y12==true))=true then G9 p0.qual else some default)>>=fun y13=>(some (if y12=true then y13 else false))>>=fun y14=>(some (if y14=true then (decide ((QA .i64 ((p0.kids.length:Int)+(p0.sub.length:Int)))=0)) else false))>>=fun y15=>some y15) else (if (decide (p0.kind=3))=true then ((some (if (decide (p0.op=15))=true then true else (decide (p0.op=16))))>>=fun y16=>(some (if y16=true then (decide ((p0.kids.length:Int)=1)) else false))>>=fun y17=>(some (if y17=true then (decide ((p0.sub.length:Int)=0)) else false))>>=fun y18=>some y18) else (if (decide (p0.kind=4))=true then ((fT p0.op 1 14)>>=fun y19=>(some (if y19=true then (decide ((p0.kids.length:Int)=2)) else false))>>=fun y20=>(some (if y20=true then (decide ((p0.sub.length:Int)=0)) else false))>>=fun y21=>some y21) else (if (decide (p0.kind=5))=true then ((some (if (decide ((p0.kids.length:Int)=1))=true then (decide ((p0.sub.length:Int)=0)) else false))>>=fun y22=>some y22) else (if (decide (p0.kind=6))=true then ((some (if (decide ((p0.kids.length:Int)=3))=true then (decide ((p0.sub.length:Int)=0)) else false))>>=fun y23=>some y23) else (if (decide (p0.kind=7))=true then ((fT (p0.kids.length:Int) 2 9)>>=fun y24=>(some (if y24=true then (decide ((p0.sub.length:Int)=0)) else false))>>=fun y25=>some y25) else (if (decide (p0.kind=8))=true then ((some (if (decide ((p0.kids.length:Int)=1))=true then (decide ((p0.sub.length:Int)=1)) else false))>>=fun y26=>some y26) else (if (decide (p0.kind=9))=true then ((some (if (decide ((p0.kids.length:Int)=0))=true then (decide ((p0.sub.length:Int)=1)) else false))>>=fun y27=>some y27) else (some false)))))))))))
def aJi (p0:aJ) (y3:List eZ) (y4:List jI) (M0:List UInt8):Option Bool :=
  (aD7 (eZ.mk p0.kind p0.op p0.not_ p0.value [] M0 y3 y4))>>=fun y5=>some y5
def aDl (p0:aJ):Option Bool :=
  (if (true&&((!decide (p0.kind=2))==true))=true then some (if (!decide (p0.up=0))=true then true else (!decide (p0.at_=0))) else some default)>>=fun y1=>(some (if (!decide (p0.kind=2))=true then y1 else false))>>=fun y2=>if y2=true then (some false) else ((mkG 136 (p0.kids.length:Int) ((eZ.mk 0 0 false (aA.mk 0 0 []) [] [] ([]:List eZ) ([]:List jI)):eZ))>>=fun y3=>(mkG 112 (p0.sub.length:Int) ((jI.mk false ([]:List pO) ([]:List oP) ([]:List eZ) ([]:List oW) 0):jI))>>=fun y4=>if (decide (p0.kind=2))=true then (aJi p0 y3 y4 [97]) else (aJi p0 y3 y4 []))
def rD (p0:Int) (p1:Bool):Option (Int×Bool) :=
  if (!p1)=true then (some (0,false)) else (some (p0,true))
def aDd (p0:Int) (p1:Int):Option Bool :=
  (some (if (decide (p0=0))=true then true else (decide (p0=p1))))>>=fun y1=>some y1
def aKa (p1:Int) (p2:Int) (x10:Int):Option (Int×Bool) :=
  (aDd p1 x10)>>=fun y12=>(if (true&&(y12==true))=true then aDd p2 x10 else some default)>>=fun y13=>(some (if y12=true then y13 else false))>>=fun y14=>(rD x10 y14)>>=fun y15=>some (y15.1,y15.2)
def zJ (p0:Int):Option Bool :=
  (fT p0 0 3)>>=fun y1=>some y1
def L9 (p0:Int) (p1:Int):Option (Int×Bool) :=
  (zJ p0)>>=fun y1=>(if (true&&((!y1)==false))=true then zJ p1 else some default)>>=fun y2=>(some (if (!y1)=true then true else (!y2)))>>=fun y3=>if y3=true then (some (0,false)) else (if (decide (p0=0))=true then (some (p1,true)) else ((some (if (decide (p1=0))=true then true else (decide (p0=p1))))>>=fun y4=>if y4=true then (some (p0,true)) else (some (0,false))))
def aJ0 (p0:Int) (p1:Int) (p2:Int):Option (Int×Bool) :=
  (fT p0 1 14)>>=fun y1=>(if (true&&((!y1)==false))=true then zJ p1 else some default)>>=fun y2=>(some (if (!y1)=true then true else (!y2)))>>=fun y3=>(if (true&&(y3==false))=true then zJ p2 else some default)>>=fun y4=>(some (if y3=true then true else (!y4)))>>=fun y5=>if y5=true then (some (0,false)) else (if (decide (p0≤2))=true then ((X3 p1)>>=fun y6=>(if (true&&(y6==true))=true then X3 p2 else some default)>>=fun y7=>(some (if y6=true then y7 else false))>>=fun y8=>(rD 3 y8)>>=fun y9=>some (y9.1,y9.2)) else (if (decide (p0≤8))=true then ((L9 p1 p2)>>=fun y10=>(rD 3 y10.2)>>=fun y11=>some (y11.1,y11.2)) else (if (decide (p0=9))=true then (aKa p1 p2 2) else (aKa p1 p2 1))))
def F8 (p0:List Int) (x3:Int) (x4:Int):Option Bool :=
  if (decide (x4<(p0.length:Int)))=true then ((idx p0 x4)>>=fun y1=>(L9 x3 y1)>>=fun y2=>if (!y2.2)=true then (some false) else (F8 p0 y2.1 (QA .i64 (x4+1)))) else (some true)
  partial_fixpoint
def O5 (p0:List Int):Option Bool :=
  F8 p0 0 0
def xG (p2:aJ) (X7:List Int):Option (Int×Bool) :=
  if (decide (p2.kind=5))=true then (some (3,true)) else ((O5 X7)>>=fun y23=>(rD 3 y23)>>=fun y24=>some (y24.1,y24.2))
def aMz (p0:Int) (p1:Int):Option (Int×Bool) :=
  if (decide (p0=15))=true then ((X3 p1)>>=fun y1=>(rD 3 y1)>>=fun y2=>some (y2.1,y2.2)) else (if (decide (p0=16))=true then ((aDd p1 1)>>=fun y3=>(rD 1 y3)>>=fun y4=>some (y4.1,y4.2)) else (some (0,false)))
mutual
def zA (y8:List (List Int)) (p0:aX) (p2:aQ) (x17:List Int) (x18:Int):Option ((List Int)×Bool) :=
  if (decide (x18<(p2.items.length:Int)))=true then ((idx p2.items x18)>>=fun y12=>(X0 p0 y8 y12)>>=fun y13=>if (!y13.2)=true then (some (([]:List Int),false)) else ((appG 8 x17 ([y13.1]:List Int))>>=fun y14=>zA y8 p0 p2 y14 (QA .i64 (x18+1)))) else (some (x17,true))
  partial_fixpoint
def aAl (y8:List (List Int)) (p0:aX) (p2:aQ) (x14:Int):Option ((List Int)×Bool) :=
  if (decide (x14<(p2.order.length:Int)))=true then ((idx p2.order x14)>>=fun y10=>(X0 p0 y8 y10.expr)>>=fun y11=>if (!y11.2)=true then (some (([]:List Int),false)) else (aAl y8 p0 p2 (QA .i64 (x14+1)))) else (zA y8 p0 p2 ([]:List Int) 0)
  partial_fixpoint
def qN (p1:List (List Int)) (p0:aX) (p2:aJ) (x8:List Int) (x9:Int):Option (Int×Bool) :=
  if (decide (x9<(p2.kids.length:Int)))=true then ((idx p2.kids x9)>>=fun y2=>(X0 p0 p1 y2)>>=fun y3=>if (!y3.2)=true then (some (0,false)) else ((appG 8 x8 ([y3.1]:List Int))>>=fun y4=>qN p1 p0 p2 y4 (QA .i64 (x9+1)))) else (if (decide (p2.kind=1))=true then (some (p2.value.kind,true)) else (if (decide (p2.kind=2))=true then ((fT p2.up 0 (QA .i64 ((p1.length:Int) - 1)))>>=fun y5=>(if (true&&((!y5)==false))=true then idx p1 p2.up else some default)>>=fun y6=>(if (true&&((!y5)==false))=true then fT p2.at_ 0 (QA .i64 ((y6.length:Int) - 1)) else some default)>>=fun y7=>(some (if (!y5)=true then true else (!y7)))>>=fun y8=>if y8=true then (some (0,false)) else ((idx p1 p2.up)>>=fun y9=>(idx y9 p2.at_)>>=fun y10=>some (y10,true))) else (if (decide (p2.kind=3))=true then ((idx x8 0)>>=fun y11=>(aMz p2.op y11)>>=fun y12=>some (y12.1,y12.2)) else (if (decide (p2.kind=4))=true then ((idx x8 0)>>=fun y13=>(idx x8 1)>>=fun y14=>(aJ0 p2.op y13 y14)>>=fun y15=>some (y15.1,y15.2)) else (if (decide (0<(p2.sub.length:Int)))=true then ((idx p2.sub 0)>>=fun y16=>(aGu p0 p1 y16)>>=fun y17=>(if (true&&((!y17.2)==false))=true then some (if (decide (p2.kind=8))=true then (!decide ((y17.1.length:Int)=1)) else false) else some default)>>=fun y18=>(some (if (!y17.2)=true then true else y18))>>=fun y19=>if y19=true then (some (0,false)) else (if (decide (p2.kind=8))=true then ((idx y17.1 0)>>=fun y20=>(appG 8 x8 ([y20]:List Int))>>=fun y21=>xG p2 y21) else (xG p2 x8))) else (xG p2 x8))))))
  partial_fixpoint
def X0 (p0:aX) (p1:List (List Int)) (p2:aJ):Option (Int×Bool) :=
  (aDl p2)>>=fun y1=>if (!y1)=true then (some (0,false)) else (qN p1 p0 p2 ([]:List Int) 0)
  partial_fixpoint
def aCs (p1:List (List Int)) (p2:List aJ) (p0:aX) (x7:Int):Option Bool :=
  if (decide (x7<(p2.length:Int)))=true then ((idx p2 x7)>>=fun y1=>(X0 p0 p1 y1)>>=fun y2=>(if (true&&((!y2.2)==false))=true then X3 y2.1 else some default)>>=fun y3=>(some (if (!y2.2)=true then true else (!y3)))>>=fun y4=>if y4=true then (some false) else (aCs p1 p2 p0 (QA .i64 (x7+1)))) else (some true)
  partial_fixpoint
def aG3 (p0:aX) (p1:List (List Int)) (p2:List aJ):Option Bool :=
  aCs p1 p2 p0 0
  partial_fixpoint
def aCb (p1:List (List Int)) (p0:aX) (p2:aQ) (x8:Int):Option ((List Int)×Bool) :=
  if (decide (x8<(p2.on_.length:Int)))=true then ((gY p2.tables 0 (QA .i64 (x8+1)))>>=fun y2=>(aD9 p0 y2)>>=fun y3=>(aG6 y3.1 p1)>>=fun y4=>(idx p2.on_ x8)>>=fun y5=>(aG3 p0 y4 y5)>>=fun y6=>if (!y6)=true then (some (([]:List Int),false)) else (aCb p1 p0 p2 (QA .i64 (x8+1)))) else ((aD9 p0 p2.tables)>>=fun y7=>(aG6 y7.1 p1)>>=fun y8=>(aG3 p0 y8 p2.where_)>>=fun y9=>if (!y9)=true then (some (([]:List Int),false)) else (aAl y8 p0 p2 0))
  partial_fixpoint
def aGu (p0:aX) (p1:List (List Int)) (p2:aQ):Option ((List Int)×Bool) :=
  (aJj p0 p2)>>=fun y1=>if (!y1)=true then (some (([]:List Int),false)) else (aCb p1 p0 p2 0)
  partial_fixpoint
end
def aEb (p0:aX) (p1:aQ):Option Bool :=
  (aBw p0)>>=fun y1=>(if (true&&((!y1)==false))=true then aBg p1 else some default)>>=fun y2=>(some (if (!y1)=true then true else (decide (24<y2))))>>=fun y3=>(if (true&&(y3==false))=true then aCy p1 else some default)>>=fun y4=>(some (if y3=true then true else (decide (200<y4))))>>=fun y5=>if y5=true then (some false) else ((aGu p0 ([]:List (List Int)) p1)>>=fun y6=>some y6.2)
def aMx (p0:aX) (p1:GDb) (p2:aQ):Option ((List (List aA))×Int) :=
  (aEb p0 p2)>>=fun y1=>(if (true&&((!y1)==false))=true then zH p0 p1 else some default)>>=fun y2=>(some (if (!y1)=true then true else (!y2)))>>=fun y3=>if y3=true then (some (([]:List (List aA)),4)) else ((uN p0 p1 ([]:List (List aA)) p2)>>=fun y4=>some (y4.1,y4.2))
def aEh (p0:bP) (p1:bP):Option Bool :=
  if (!decide (p0.name=p1.name))=true then (some false) else (if (!decide (p0.type=p1.type))=true then (some false) else (some true))
def aHi (p0:List bP) (p1:List bP) (x5:Int):Option Bool :=
  if (decide (x5<(p0.length:Int)))=true then ((idx p0 x5)>>=fun y1=>(idx p1 x5)>>=fun y2=>(aEh y1 y2)>>=fun y3=>if (!y3)=true then (some false) else (aHi p0 p1 (QA .i64 (x5+1)))) else (some true)
  partial_fixpoint
def aHw (p0:List bP) (p1:List bP):Option Bool :=
  if (!decide ((p0.length:Int)=(p1.length:Int)))=true then (some false) else (aHi p0 p1 0)
def aEy (p0:bH) (p1:bH):Option Bool :=
  if (!decide (p0.name=p1.name))=true then (some false) else ((aHw p0.cols p1.cols)>>=fun y1=>if (!y1)=true then (some false) else (some true))
def aG0 (p0:List bH) (p1:List bH) (x5:Int):Option Bool :=
  if (decide (x5<(p0.length:Int)))=true then ((idx p0 x5)>>=fun y1=>(idx p1 x5)>>=fun y2=>(aEy y1 y2)>>=fun y3=>if (!y3)=true then (some false) else (aG0 p0 p1 (QA .i64 (x5+1)))) else (some true)
  partial_fixpoint
def aEg (p0:List bH) (p1:List bH):Option Bool :=
  if (!decide ((p0.length:Int)=(p1.length:Int)))=true then (some false) else (aG0 p0 p1 0)
def aIj (p0:aX) (p1:aX):Option Bool :=
  (aEg p0.tables p1.tables)>>=fun y1=>if (!y1)=true then (some false) else (some true)
def wF (p0:aA) (p1:aA):Option Bool :=
  if (!decide (p0.kind=p1.kind))=true then (some false) else (if (!decide (p0.num=p1.num))=true then (some false) else (if (!decide (p0.text=p1.text))=true then (some false) else (some true)))
def aC0 (p0:List aA) (p1:List aA) (x5:Int):Option Bool :=
  if (decide (x5<(p0.length:Int)))=true then ((idx p0 x5)>>=fun y1=>(idx p1 x5)>>=fun y2=>(wF y1 y2)>>=fun y3=>if (!y3)=true then (some false) else (aC0 p0 p1 (QA .i64 (x5+1)))) else (some true)
  partial_fixpoint
def Y8 (p0:List aA) (p1:List aA):Option Bool :=
  if (!decide ((p0.length:Int)=(p1.length:Int)))=true then (some false) else (aC0 p0 p1 0)
def aDi (p0:List (List aA)) (p1:List (List aA)) (x5:Int):Option Bool :=
  if (decide (x5<(p0.length:Int)))=true then ((idx p0 x5)>>=fun y1=>(idx p1 x5)>>=fun y2=>(Y8 y1 y2)>>=fun y3=>if (!y3)=true then (some false) else (aDi p0 p1 (QA .i64 (x5+1)))) else (some true)
  partial_fixpoint
def vC (p0:List (List aA)) (p1:List (List aA)):Option Bool :=
  if (!decide ((p0.length:Int)=(p1.length:Int)))=true then (some false) else (aDi p0 p1 0)
def aGe (p0:bN) (p1:bN):Option Bool :=
  (vC p0.rows p1.rows)>>=fun y1=>if (!y1)=true then (some false) else (some true)
def aFo (p0:List bN) (p1:List bN) (x5:Int):Option Bool :=
  if (decide (x5<(p0.length:Int)))=true then ((idx p0 x5)>>=fun y1=>(idx p1 x5)>>=fun y2=>(aGe y1 y2)>>=fun y3=>if (!y3)=true then (some false) else (aFo p0 p1 (QA .i64 (x5+1)))) else (some true)
  partial_fixpoint
def aEm (p0:List bN) (p1:List bN):Option Bool :=
  if (!decide ((p0.length:Int)=(p1.length:Int)))=true then (some false) else (aFo p0 p1 0)
def aIo (p0:GDb) (p1:GDb):Option Bool :=
  (aEm p0.tables p1.tables)>>=fun y1=>if (!y1)=true then (some false) else (some true)
def aE6 (p0:List Int) (p1:List Int) (x5:Int):Option Bool :=
  if (decide (x5<(p0.length:Int)))=true then ((idx p0 x5)>>=fun y1=>(idx p1 x5)>>=fun y2=>if (!decide (y1=y2))=true then (some false) else (aE6 p0 p1 (QA .i64 (x5+1)))) else (some true)
  partial_fixpoint
def aGi (p0:List Int) (p1:List Int):Option Bool :=
  if (!decide ((p0.length:Int)=(p1.length:Int)))=true then (some false) else (aE6 p0 p1 0)
def aFc (p0:List (List UInt8)) (p1:List (List UInt8)) (x5:Int):Option Bool :=
  if (decide (x5<(p0.length:Int)))=true then ((idx p0 x5)>>=fun y1=>(idx p1 x5)>>=fun y2=>if (!decide (y1=y2))=true then (some false) else (aFc p0 p1 (QA .i64 (x5+1)))) else (some true)
  partial_fixpoint
def aDp (p0:List (List UInt8)) (p1:List (List UInt8)):Option Bool :=
  if (!decide ((p0.length:Int)=(p1.length:Int)))=true then (some false) else (aFc p0 p1 0)
mutual
def X6 (p0:bD) (p1:bD):Option Bool :=
  (vJ p0.expr p1.expr)>>=fun y1=>if (!y1)=true then (some false) else (if (!(p0.desc==p1.desc))=true then (some false) else (some true))
  partial_fixpoint
def aJc (p0:List bD) (p1:List bD) (x5:Int):Option Bool :=
  if (decide (x5<(p0.length:Int)))=true then ((idx p0 x5)>>=fun y1=>(idx p1 x5)>>=fun y2=>(X6 y1 y2)>>=fun y3=>if (!y3)=true then (some false) else (aJc p0 p1 (QA .i64 (x5+1)))) else (some true)
  partial_fixpoint
def aN0 (p0:List bD) (p1:List bD):Option Bool :=
  if (!decide ((p0.length:Int)=(p1.length:Int)))=true then (some false) else (aJc p0 p1 0)
  partial_fixpoint
def aJ3 (p0:List (List aJ)) (p1:List (List aJ)) (x5:Int):Option Bool :=
  if (decide (x5<(p0.length:Int)))=true then ((idx p0 x5)>>=fun y1=>(idx p1 x5)>>=fun y2=>(qE y1 y2)>>=fun y3=>if (!y3)=true then (some false) else (aJ3 p0 p1 (QA .i64 (x5+1)))) else (some true)
  partial_fixpoint
def aJo (p0:List (List aJ)) (p1:List (List aJ)):Option Bool :=
  if (!decide ((p0.length:Int)=(p1.length:Int)))=true then (some false) else (aJ3 p0 p1 0)
  partial_fixpoint
def aKb (p0:List aQ) (p1:List aQ) (x5:Int):Option Bool :=
  if (decide (x5<(p0.length:Int)))=true then ((idx p0 x5)>>=fun y1=>(idx p1 x5)>>=fun y2=>(M5 y1 y2)>>=fun y3=>if (!y3)=true then (some false) else (aKb p0 p1 (QA .i64 (x5+1)))) else (some true)
  partial_fixpoint
def aLm (p0:List aQ) (p1:List aQ):Option Bool :=
  if (!decide ((p0.length:Int)=(p1.length:Int)))=true then (some false) else (aKb p0 p1 0)
  partial_fixpoint
def vJ (p0:aJ) (p1:aJ):Option Bool :=
  if (!decide (p0.kind=p1.kind))=true then (some false) else (if (!decide (p0.op=p1.op))=true then (some false) else (if (!(p0.not_==p1.not_))=true then (some false) else ((wF p0.value p1.value)>>=fun y1=>if (!y1)=true then (some false) else (if (!decide (p0.up=p1.up))=true then (some false) else (if (!decide (p0.at_=p1.at_))=true then (some false) else ((qE p0.kids p1.kids)>>=fun y2=>if (!y2)=true then (some false) else ((aLm p0.sub p1.sub)>>=fun y3=>if (!y3)=true then (some false) else (some true))))))))
  partial_fixpoint
def V7 (p0:List aJ) (p1:List aJ) (x5:Int):Option Bool :=
  if (decide (x5<(p0.length:Int)))=true then ((idx p0 x5)>>=fun y1=>(idx p1 x5)>>=fun y2=>(vJ y1 y2)>>=fun y3=>if (!y3)=true then (some false) else (V7 p0 p1 (QA .i64 (x5+1)))) else (some true)
  partial_fixpoint
def qE (p0:List aJ) (p1:List aJ):Option Bool :=
  if (!decide ((p0.length:Int)=(p1.length:Int)))=true then (some false) else (V7 p0 p1 0)
  partial_fixpoint
def M5 (p0:aQ) (p1:aQ):Option Bool :=
  (aGi p0.tables p1.tables)>>=fun y1=>if (!y1)=true then (some false) else ((aJo p0.on_ p1.on_)>>=fun y2=>if (!y2)=true then (some false) else ((qE p0.where_ p1.where_)>>=fun y3=>if (!y3)=true then (some false) else ((aN0 p0.order p1.order)>>=fun y4=>if (!y4)=true then (some false) else ((qE p0.items p1.items)>>=fun y5=>if (!y5)=true then (some false) else ((aDp p0.names p1.names)>>=fun y6=>if (!y6)=true then (some false) else (if (!(p0.distinct==p1.distinct))=true then (some false) else (if (!decide (p0.limit=p1.limit))=true then (some false) else (some true))))))))
  partial_fixpoint
end
def aAn (x0:Int) (x3:List UInt8):Option (List UInt8) :=
  if (decide (0<x0))=true then ((ofBytes ([(QA .u8 (QA .i64 (48+(QC x0 10))))]:List Int))>>=fun y1=>(xO y1 x3)>>=fun y2=>aAn (QA .i64 (Int.tdiv x0 10)) y2) else ((xO [109] x3)>>=fun y3=>some y3)
  partial_fixpoint
def tL (p0:Int):Option (List UInt8) :=
  if (decide (p0≤0))=true then (some [109,48]) else (aAn p0 [])
def yV (p0:List aA) (x1:Int) (x5:Int):Option Int :=
  if (decide (x5<(p0.length:Int)))=true then ((idx p0 x5)>>=fun y1=>if (!decide (y1.kind=x1))=true then (some (-1)) else ((idx p0 x5)>>=fun y2=>if (!decide (y2.num=(QA .i64 (x1+1))))=true then (some (-1)) else ((idx p0 x5)>>=fun y3=>(tL (QA .i64 ((QA .i64 (x1+1))+1)))>>=fun y4=>if (!decide (y3.text=y4))=true then (some (-1)) else (yV p0 (QA .i64 ((QA .i64 ((QA .i64 (x1+1))+1))+1)) (QA .i64 (x5+1)))))) else (some x1)
  partial_fixpoint
def aJ5 (p0:List aA) (p1:Int):Option Int :=
  yV p0 p1 0
def zR (p0:List (List aA)) (x1:Int) (x5:Int):Option Int :=
  if (decide (x5<(p0.length:Int)))=true then ((idx p0 x5)>>=fun y1=>(aJ5 y1 x1)>>=fun y2=>if (decide (y2<0))=true then (some (-1)) else (zR p0 y2 (QA .i64 (x5+1)))) else (some x1)
  partial_fixpoint
def aI3 (p0:List (List aA)) (p1:Int):Option Int :=
  zR p0 p1 0
def C8 (x1:Int) (x5:Int) (aL:List bP):Option (Int×(List bP)) :=
  if (decide (x5<(aL.length:Int)))=true then ((tL x1)>>=fun y1=>(idx aL x5)>>=fun y2=>C8 (QA .i64 ((QA .i64 (x1+1))+1)) (QA .i64 (x5+1)) (aL.set (x5).toNat (bP.mk y1 (QA .i64 (x1+1))))) else (some (x1,aL))
  partial_fixpoint
def aMn (p0:List bP) (p1:Int):Option (Int×(List bP)) :=
  C8 p1 0 p0
def D6 (x1:Int) (x5:Int) (aL:List bH):Option (Int×(List bH)) :=
  if (decide (x5<(aL.length:Int)))=true then ((tL x1)>>=fun y1=>(idx aL x5)>>=fun y2=>(aMn y2.cols (QA .i64 (x1+1)))>>=fun y3=>D6 y3.1 (QA .i64 (x5+1)) (aL.set (x5).toNat (bH.mk y1 y3.2))) else (some (x1,aL))
  partial_fixpoint
def aM2 (p0:List bH) (p1:Int):Option (Int×(List bH)) :=
  D6 p1 0 p0
def aIa (p0:aX) (p1:Int):Option (Int×(List bH)) :=
  (aM2 p0.tables p1)>>=fun y1=>some (y1.1,y1.2)
def zY (x1:Int) (x5:Int) (aL:List aA):Option (Int×(List aA)) :=
  if (decide (x5<(aL.length:Int)))=true then ((idx aL x5)>>=fun y1=>(tL (QA .i64 ((QA .i64 (x1+1))+1)))>>=fun y2=>zY (QA .i64 ((QA .i64 ((QA .i64 (x1+1))+1))+1)) (QA .i64 (x5+1)) (aL.set (x5).toNat (aA.mk x1 (QA .i64 (x1+1)) y2))) else (some (x1,aL))
  partial_fixpoint
def aJu (p0:List aA) (p1:Int):Option (Int×(List aA)) :=
  zY p1 0 p0
def G6 (x1:Int) (x5:Int) (aL:List (List aA)):Option (Int×(List (List aA))) :=
  if (decide (x5<(aL.length:Int)))=true then ((idx aL x5)>>=fun y1=>(aJu y1 x1)>>=fun y2=>G6 y2.1 (QA .i64 (x5+1)) (aL.set (x5).toNat y2.2)) else (some (x1,aL))
  partial_fixpoint
def aFa (p0:List (List aA)) (p1:Int):Option (Int×(List (List aA))) :=
  G6 p1 0 p0
def I9 (x1:Int) (x5:Int) (aL:List bN):Option (Int×(List bN)) :=
  if (decide (x5<(aL.length:Int)))=true then ((idx aL x5)>>=fun y1=>(aFa y1.rows x1)>>=fun y2=>I9 y2.1 (QA .i64 (x5+1)) (aL.set (x5).toNat (bN.mk y2.2))) else (some (x1,aL))
  partial_fixpoint
def aJl (p0:List bN) (p1:Int):Option (Int×(List bN)) :=
  I9 p1 0 p0
def aKs (p0:GDb) (p1:Int):Option (Int×(List bN)) :=
  (aJl p0.tables p1)>>=fun y1=>some (y1.1,y1.2)
def H8 (x1:Int) (x5:Int) (aL:List Int):Option (Int×(List Int)) :=
  if (decide (x5<(aL.length:Int)))=true then ((idx aL x5)>>=fun y1=>H8 (QA .i64 (x1+1)) (QA .i64 (x5+1)) (aL.set (x5).toNat x1)) else (some (x1,aL))
  partial_fixpoint
def aFs (p0:List Int) (p1:Int):Option (Int×(List Int)) :=
  H8 p1 0 p0
def yR (x1:Int) (x5:Int) (aL:List (List UInt8)):Option (Int×(List (List UInt8))) :=
  if (decide (x5<(aL.length:Int)))=true then ((tL x1)>>=fun y1=>(idx aL x5)>>=fun y2=>yR (QA .i64 (x1+1)) (QA .i64 (x5+1)) (aL.set (x5).toNat y1)) else (some (x1,aL))
  partial_fixpoint
def aEr (p0:List (List UInt8)) (p1:Int):Option (Int×(List (List UInt8))) :=
  yR p1 0 p0
mutual
def A9 (x1:Int) (x5:Int) (aL:List bD):Option (Int×(List bD)) :=
  if (decide (x5<(aL.length:Int)))=true then ((idx aL x5)>>=fun y1=>(tL (QA .i64 ((QA .i64 ((QA .i64 ((QA .i64 ((QA .i64 (x1+1))+1))+1))+1))+1)))>>=fun y2=>(vO y1.expr.kids (QA .i64 ((QA .i64 ((QA .i64 ((QA .i64 ((QA .i64 ((QA .i64 ((QA .i64 ((QA .i64 (x1+1))+1))+1))+1))+1))+1))+1))+1)))>>=fun y3=>(aEs y1.expr.sub y3.1)>>=fun y4=>A9 (QA .i64 (y4.1+1)) (QA .i64 (x5+1)) (aL.set (x5).toNat (bD.mk (aJ.mk x1 (QA .i64 (x1+1)) (decide ((QC (QA .i64 ((QA .i64 (x1+1))+1)) 3)=0)) (aA.mk (QA .i64 ((QA .i64 ((QA .i64 (x1+1))+1))+1)) (QA .i64 ((QA .i64 ((QA .i64 ((QA .i64 (x1+1))+1))+1))+1)) y2) (QA .i64 ((QA .i64 ((QA .i64 ((QA .i64 ((QA .i64 ((QA .i64 (x1+1))+1))+1))+1))+1))+1)) (QA .i64 ((QA .i64 ((QA .i64 ((QA .i64 ((QA .i64 ((QA .i64 ((QA .i64 (x1+1))+1))+1))+1))+1))+1))+1)) y3.2 y4.2) (decide ((QC y4.1 3)=0))))) else (some (x1,aL))
  partial_fixpoint
def aBm (p0:List bD) (p1:Int):Option (Int×(List bD)) :=
  A9 p1 0 p0
  partial_fixpoint
def R5 (x1:Int) (x5:Int) (aL:List aQ):Option (Int×(List aQ)) :=
  if (decide (x5<(aL.length:Int)))=true then ((idx aL x5)>>=fun y1=>(aFs y1.tables x1)>>=fun y2=>(aAy y1.on_ y2.1)>>=fun y3=>(vO y1.where_ y3.1)>>=fun y4=>(aBm y1.order y4.1)>>=fun y5=>(vO y1.items y5.1)>>=fun y6=>(aEr y1.names y6.1)>>=fun y7=>R5 (QA .i64 ((QA .i64 (y7.1+1))+1)) (QA .i64 (x5+1)) (aL.set (x5).toNat (aQ.mk y2.2 y3.2 y4.2 y5.2 y6.2 y7.2 (decide ((QC y7.1 3)=0)) (QA .i64 (y7.1+1))))) else (some (x1,aL))
  partial_fixpoint
def aEs (p0:List aQ) (p1:Int):Option (Int×(List aQ)) :=
  R5 p1 0 p0
  partial_fixpoint
def R9 (x1:Int) (x5:Int) (aL:List aJ):Option (Int×(List aJ)) :=
  if (decide (x5<(aL.length:Int)))=true then ((idx aL x5)>>=fun y1=>(tL (QA .i64 ((QA .i64 ((QA .i64 ((QA .i64 ((QA .i64 (x1+1))+1))+1))+1))+1)))>>=fun y2=>(vO y1.kids (QA .i64 ((QA .i64 ((QA .i64 ((QA .i64 ((QA .i64 ((QA .i64 ((QA .i64 ((QA .i64 (x1+1))+1))+1))+1))+1))+1))+1))+1)))>>=fun y3=>(aEs y1.sub y3.1)>>=fun y4=>R9 y4.1 (QA .i64 (x5+1)) (aL.set (x5).toNat (aJ.mk x1 (QA .i64 (x1+1)) (decide ((QC (QA .i64 ((QA .i64 (x1+1))+1)) 3)=0)) (aA.mk (QA .i64 ((QA .i64 ((QA .i64 (x1+1))+1))+1)) (QA .i64 ((QA .i64 ((QA .i64 ((QA .i64 (x1+1))+1))+1))+1)) y2) (QA .i64 ((QA .i64 ((QA .i64 ((QA .i64 ((QA .i64 ((QA .i64 (x1+1))+1))+1))+1))+1))+1)) (QA .i64 ((QA .i64 ((QA .i64 ((QA .i64 ((QA .i64 ((QA .i64 ((QA .i64 (x1+1))+1))+1))+1))+1))+1))+1)) y3.2 y4.2))) else (some (x1,aL))
  partial_fixpoint
def vO (p0:List aJ) (p1:Int):Option (Int×(List aJ)) :=
  R9 p1 0 p0
  partial_fixpoint
def R3 (x1:Int) (x5:Int) (aL:List (List aJ)):Option (Int×(List (List aJ))) :=
  if (decide (x5<(aL.length:Int)))=true then ((idx aL x5)>>=fun y1=>(vO y1 x1)>>=fun y2=>R3 y2.1 (QA .i64 (x5+1)) (aL.set (x5).toNat y2.2)) else (some (x1,aL))
  partial_fixpoint
def aAy (p0:List (List aJ)) (p1:Int):Option (Int×(List (List aJ))) :=
  R3 p1 0 p0
  partial_fixpoint
end
def aMj (p0:aQ) (p1:Int):Option (Int×(List Int)×(List (List aJ))×(List aJ)×(List bD)×(List aJ)×(List (List UInt8))) :=
  (aFs p0.tables p1)>>=fun y1=>(aAy p0.on_ y1.1)>>=fun y2=>(vO p0.where_ y2.1)>>=fun y3=>(aBm p0.order y3.1)>>=fun y4=>(vO p0.items y4.1)>>=fun y5=>(aEr p0.names y5.1)>>=fun y6=>some (y6.1,y1.2,y2.2,y3.2,y4.2,y5.2,y6.2)
def aG7 (p0:bP) (p1:Int):Option Int :=
  if (decide ((QA .i64 (p1 - (p0.name.length:Int)))<0))=true then (some (-1)) else (some (QA .i64 (p1 - (p0.name.length:Int))))
def aDw (p0:List bP) (x1:Int) (x5:Int):Option Int :=
  if (decide (x5<(p0.length:Int)))=true then ((idx p0 x5)>>=fun y1=>(aG7 y1 x1)>>=fun y2=>if (decide (y2<0))=true then (some (-1)) else (aDw p0 y2 (QA .i64 (x5+1)))) else (some x1)
  partial_fixpoint
def aEf (p0:List bP) (p1:Int):Option Int :=
  if (decide ((QA .i64 (p1 - (p0.length:Int)))<0))=true then (some (-1)) else (aDw p0 (QA .i64 (p1 - (p0.length:Int))) 0)
def aF2 (p0:bH) (p1:Int):Option Int :=
  if (decide ((QA .i64 (p1 - (p0.name.length:Int)))<0))=true then (some (-1)) else ((aEf p0.cols (QA .i64 (p1 - (p0.name.length:Int))))>>=fun y1=>if (decide (y1<0))=true then (some (-1)) else (some y1))
def aEi (p0:List bH) (x1:Int) (x5:Int):Option Int :=
  if (decide (x5<(p0.length:Int)))=true then ((idx p0 x5)>>=fun y1=>(aF2 y1 x1)>>=fun y2=>if (decide (y2<0))=true then (some (-1)) else (aEi p0 y2 (QA .i64 (x5+1)))) else (some x1)
  partial_fixpoint
def aHz (p0:List bH) (p1:Int):Option Int :=
  if (decide ((QA .i64 (p1 - (p0.length:Int)))<0))=true then (some (-1)) else (aEi p0 (QA .i64 (p1 - (p0.length:Int))) 0)
def aN2 (p0:aX) (p1:Int):Option Int :=
  (aHz p0.tables p1)>>=fun y1=>if (decide (y1<0))=true then (some (-1)) else (some y1)
def K3 (p0:aA) (p1:Int):Option Int :=
  if (decide ((QA .i64 (p1 - (p0.text.length:Int)))<0))=true then (some (-1)) else (some (QA .i64 (p1 - (p0.text.length:Int))))
def aHc (p0:List aA) (x1:Int) (x5:Int):Option Int :=
  if (decide (x5<(p0.length:Int)))=true then ((idx p0 x5)>>=fun y1=>(K3 y1 x1)>>=fun y2=>if (decide (y2<0))=true then (some (-1)) else (aHc p0 y2 (QA .i64 (x5+1)))) else (some x1)
  partial_fixpoint
def aHx (p0:List aA) (p1:Int):Option Int :=
  if (decide ((QA .i64 (p1 - (p0.length:Int)))<0))=true then (some (-1)) else (aHc p0 (QA .i64 (p1 - (p0.length:Int))) 0)
def aDt (p0:List (List aA)) (x1:Int) (x5:Int):Option Int :=
  if (decide (x5<(p0.length:Int)))=true then ((idx p0 x5)>>=fun y1=>(aHx y1 x1)>>=fun y2=>if (decide (y2<0))=true then (some (-1)) else (aDt p0 y2 (QA .i64 (x5+1)))) else (some x1)
  partial_fixpoint
def aEv (p0:List (List aA)) (p1:Int):Option Int :=
  if (decide ((QA .i64 (p1 - (p0.length:Int)))<0))=true then (some (-1)) else (aDt p0 (QA .i64 (p1 - (p0.length:Int))) 0)
def aFz (p0:bN) (p1:Int):Option Int :=
  (aEv p0.rows p1)>>=fun y1=>if (decide (y1<0))=true then (some (-1)) else (some y1)
def aG2 (p0:List bN) (x1:Int) (x5:Int):Option Int :=
  if (decide (x5<(p0.length:Int)))=true then ((idx p0 x5)>>=fun y1=>(aFz y1 x1)>>=fun y2=>if (decide (y2<0))=true then (some (-1)) else (aG2 p0 y2 (QA .i64 (x5+1)))) else (some x1)
  partial_fixpoint
def aEl (p0:List bN) (p1:Int):Option Int :=
  if (decide ((QA .i64 (p1 - (p0.length:Int)))<0))=true then (some (-1)) else (aG2 p0 (QA .i64 (p1 - (p0.length:Int))) 0)
def aKq (p0:GDb) (p1:Int):Option Int :=
  (aEl p0.tables p1)>>=fun y1=>if (decide (y1<0))=true then (some (-1)) else (some y1)
def aH7 (p0:List Int) (p1:Int):Option Int :=
  if (decide ((QA .i64 (p1 - (p0.length:Int)))<0))=true then (some (-1)) else (some (QA .i64 (p1 - (p0.length:Int))))
def aBq (p0:List (List UInt8)) (x1:Int) (x5:Int):Option Int :=
  if (decide (x5<(p0.length:Int)))=true then ((idx p0 x5)>>=fun y1=>if (decide ((QA .i64 (x1 - (y1.length:Int)))<0))=true then (some (-1)) else (aBq p0 (QA .i64 (x1 - (y1.length:Int))) (QA .i64 (x5+1)))) else (some x1)
  partial_fixpoint
def aI4 (p0:List (List UInt8)) (p1:Int):Option Int :=
  if (decide ((QA .i64 (p1 - (p0.length:Int)))<0))=true then (some (-1)) else (aBq p0 (QA .i64 (p1 - (p0.length:Int))) 0)
mutual
def K6 (p0:bD) (p1:Int):Option Int :=
  (vL p0.expr p1)>>=fun y1=>if (decide (y1<0))=true then (some (-1)) else (some y1)
  partial_fixpoint
def aIv (p0:List bD) (x1:Int) (x5:Int):Option Int :=
  if (decide (x5<(p0.length:Int)))=true then ((idx p0 x5)>>=fun y1=>(K6 y1 x1)>>=fun y2=>if (decide (y2<0))=true then (some (-1)) else (aIv p0 y2 (QA .i64 (x5+1)))) else (some x1)
  partial_fixpoint
def aLi (p0:List bD) (p1:Int):Option Int :=
  if (decide ((QA .i64 (p1 - (p0.length:Int)))<0))=true then (some (-1)) else (aIv p0 (QA .i64 (p1 - (p0.length:Int))) 0)
  partial_fixpoint
def aKr (p0:List (List aJ)) (x1:Int) (x5:Int):Option Int :=
  if (decide (x5<(p0.length:Int)))=true then ((idx p0 x5)>>=fun y1=>(qC y1 x1)>>=fun y2=>if (decide (y2<0))=true then (some (-1)) else (aKr p0 y2 (QA .i64 (x5+1)))) else (some x1)
  partial_fixpoint
def aLs (p0:List (List aJ)) (p1:Int):Option Int :=
  if (decide ((QA .i64 (p1 - (p0.length:Int)))<0))=true then (some (-1)) else (aKr p0 (QA .i64 (p1 - (p0.length:Int))) 0)
  partial_fixpoint
def aIr (p0:List aQ) (x1:Int) (x5:Int):Option Int :=
  if (decide (x5<(p0.length:Int)))=true then ((idx p0 x5)>>=fun y1=>(Y7 y1 x1)>>=fun y2=>if (decide (y2<0))=true then (some (-1)) else (aIr p0 y2 (QA .i64 (x5+1)))) else (some x1)
  partial_fixpoint
def aM1 (p0:List aQ) (p1:Int):Option Int :=
  if (decide ((QA .i64 (p1 - (p0.length:Int)))<0))=true then (some (-1)) else (aIr p0 (QA .i64 (p1 - (p0.length:Int))) 0)
  partial_fixpoint
def vL (p0:aJ) (p1:Int):Option Int :=
  (K3 p0.value p1)>>=fun y1=>if (decide (y1<0))=true then (some (-1)) else ((qC p0.kids y1)>>=fun y2=>if (decide (y2<0))=true then (some (-1)) else ((aM1 p0.sub y2)>>=fun y3=>if (decide (y3<0))=true then (some (-1)) else (some y3)))
  partial_fixpoint
def Y0 (p0:List aJ) (x1:Int) (x5:Int):Option Int :=
  if (decide (x5<(p0.length:Int)))=true then ((idx p0 x5)>>=fun y1=>(vL y1 x1)>>=fun y2=>if (decide (y2<0))=true then (some (-1)) else (Y0 p0 y2 (QA .i64 (x5+1)))) else (some x1)
  partial_fixpoint
def qC (p0:List aJ) (p1:Int):Option Int :=
  if (decide ((QA .i64 (p1 - (p0.length:Int)))<0))=true then (some (-1)) else (Y0 p0 (QA .i64 (p1 - (p0.length:Int))) 0)
  partial_fixpoint
def Y7 (p0:aQ) (p1:Int):Option Int :=
  (aH7 p0.tables p1)>>=fun y1=>if (decide (y1<0))=true then (some (-1)) else ((aLs p0.on_ y1)>>=fun y2=>if (decide (y2<0))=true then (some (-1)) else ((qC p0.where_ y2)>>=fun y3=>if (decide (y3<0))=true then (some (-1)) else ((aLi p0.order y3)>>=fun y4=>if (decide (y4<0))=true then (some (-1)) else ((qC p0.items y4)>>=fun y5=>if (decide (y5<0))=true then (some (-1)) else ((aI4 p0.names y5)>>=fun y6=>if (decide (y6<0))=true then (some (-1)) else (some y6))))))
  partial_fixpoint
end
def xP (p0:bP):Option bP :=
  some p0
def aGg (p0:List bP) (x4:Int) (aP:List bP):Option (List bP) :=
  if (decide (x4<(p0.length:Int)))=true then ((idx p0 x4)>>=fun y2=>(xP y2)>>=fun y3=>(idx aP x4)>>=fun y4=>(iC aP x4 y3)>>=fun y5=>aGg p0 (QA .i64 (x4+1)) y5) else (some aP)
  partial_fixpoint
def aFq (p0:List bP):Option (List bP) :=
  (mkG 24 (p0.length:Int) ((bP.mk [] 0):bP))>>=fun y1=>aGg p0 0 y1
def aF9 (p0:bH):Option bH :=
  (aFq p0.cols)>>=fun y1=>some (bH.mk p0.name y1)
def aHk (p0:List bH) (x4:Int) (aP:List bH):Option (List bH) :=
  if (decide (x4<(p0.length:Int)))=true then ((idx p0 x4)>>=fun y2=>(aF9 y2)>>=fun y3=>(idx aP x4)>>=fun y4=>(iC aP x4 y3)>>=fun y5=>aHk p0 (QA .i64 (x4+1)) y5) else (some aP)
  partial_fixpoint
def aFf (p0:List bH):Option (List bH) :=
  (mkG 40 (p0.length:Int) ((bH.mk [] ([]:List bP)):bH))>>=fun y1=>aHk p0 0 y1
def aF7 (p0:aX):Option aX :=
  (aFf p0.tables)>>=fun y1=>some (aX.mk y1)
def aE9 (p0:List bP) (x4:Int) (aU:List bP):Option (List bP) :=
  if (decide (x4<(p0.length:Int)))=true then ((idx p0 x4)>>=fun y2=>(xP y2)>>=fun y3=>(idx aU x4)>>=fun y4=>aE9 p0 (QA .i64 (x4+1)) (aU.set (x4).toNat y3)) else (some aU)
  partial_fixpoint
def aEw (p0:List bP):Option (List bP) :=
  (mkG 24 (p0.length:Int) ((bP.mk [] 0):bP))>>=fun y1=>aE9 p0 0 y1
def aH4 (p0:bH):Option bH :=
  (aEw p0.cols)>>=fun y1=>some (bH.mk p0.name y1)
def aHm (p0:List bH) (x4:Int) (aU:List bH):Option (List bH) :=
  if (decide (x4<(p0.length:Int)))=true then ((idx p0 x4)>>=fun y2=>(aH4 y2)>>=fun y3=>(idx aU x4)>>=fun y4=>aHm p0 (QA .i64 (x4+1)) (aU.set (x4).toNat y3)) else (some aU)
  partial_fixpoint
def aGy (p0:List bH):Option (List bH) :=
  (mkG 40 (p0.length:Int) ((bH.mk [] ([]:List bP)):bH))>>=fun y1=>aHm p0 0 y1
def aH2 (p0:aX):Option aX :=
  (aGy p0.tables)>>=fun y1=>some (aX.mk y1)
def qY (p0:aA):Option aA :=
  some p0
def aE8 (p0:List aA) (x4:Int) (aP:List aA):Option (List aA) :=
  if (decide (x4<(p0.length:Int)))=true then ((idx p0 x4)>>=fun y2=>(qY y2)>>=fun y3=>(idx aP x4)>>=fun y4=>(iC aP x4 y3)>>=fun y5=>aE8 p0 (QA .i64 (x4+1)) y5) else (some aP)
  partial_fixpoint
def aFh (p0:List aA):Option (List aA) :=
  (mkG 32 (p0.length:Int) ((aA.mk 0 0 []):aA))>>=fun y1=>aE8 p0 0 y1
def aFy (p0:List (List aA)) (x4:Int) (aP:List (List aA)):Option (List (List aA)) :=
  if (decide (x4<(p0.length:Int)))=true then ((idx p0 x4)>>=fun y2=>(aFh y2)>>=fun y3=>(idx aP x4)>>=fun y4=>(iC aP x4 y3)>>=fun y5=>aFy p0 (QA .i64 (x4+1)) y5) else (some aP)
  partial_fixpoint
def aHs (p0:List (List aA)):Option (List (List aA)) :=
  (mkG 24 (p0.length:Int) (([]:List aA):(List aA)))>>=fun y1=>aFy p0 0 y1
def aDr (p0:bN):Option bN :=
  (aHs p0.rows)>>=fun y1=>some (bN.mk y1)
def aGl (p0:List bN) (x4:Int) (aP:List bN):Option (List bN) :=
  if (decide (x4<(p0.length:Int)))=true then ((idx p0 x4)>>=fun y2=>(aDr y2)>>=fun y3=>(idx aP x4)>>=fun y4=>(iC aP x4 y3)>>=fun y5=>aGl p0 (QA .i64 (x4+1)) y5) else (some aP)
  partial_fixpoint
def aFv (p0:List bN):Option (List bN) :=
  (mkG 24 (p0.length:Int) ((bN.mk ([]:List (List aA))):bN))>>=fun y1=>aGl p0 0 y1
def aGt (p0:GDb):Option GDb :=
  (aFv p0.tables)>>=fun y1=>some (GDb.mk y1)
def aGo (p0:List aA) (x4:Int) (aU:List aA):Option (List aA) :=
  if (decide (x4<(p0.length:Int)))=true then ((idx p0 x4)>>=fun y2=>(qY y2)>>=fun y3=>(idx aU x4)>>=fun y4=>aGo p0 (QA .i64 (x4+1)) (aU.set (x4).toNat y3)) else (some aU)
  partial_fixpoint
def aFi (p0:List aA):Option (List aA) :=
  (mkG 32 (p0.length:Int) ((aA.mk 0 0 []):aA))>>=fun y1=>aGo p0 0 y1
def aGr (p0:List (List aA)) (x4:Int) (aU:List (List aA)):Option (List (List aA)) :=
  if (decide (x4<(p0.length:Int)))=true then ((idx p0 x4)>>=fun y2=>(aFi y2)>>=fun y3=>(idx aU x4)>>=fun y4=>aGr p0 (QA .i64 (x4+1)) (aU.set (x4).toNat y3)) else (some aU)
  partial_fixpoint
def aEt (p0:List (List aA)):Option (List (List aA)) :=
  (mkG 24 (p0.length:Int) (([]:List aA):(List aA)))>>=fun y1=>aGr p0 0 y1
def aI0 (p0:bN):Option bN :=
  (aEt p0.rows)>>=fun y1=>some (bN.mk y1)
def aFe (p0:List bN) (x4:Int) (aU:List bN):Option (List bN) :=
  if (decide (x4<(p0.length:Int)))=true then ((idx p0 x4)>>=fun y2=>(aI0 y2)>>=fun y3=>(idx aU x4)>>=fun y4=>aFe p0 (QA .i64 (x4+1)) (aU.set (x4).toNat y3)) else (some aU)
  partial_fixpoint
def aFm (p0:List bN):Option (List bN) :=
  (mkG 24 (p0.length:Int) ((bN.mk ([]:List (List aA))):bN))>>=fun y1=>aFe p0 0 y1
def aFw (p0:GDb):Option GDb :=
  (aFm p0.tables)>>=fun y1=>some (GDb.mk y1)
def aGm (p0:List Int) (x4:Int) (aP:List Int):Option (List Int) :=
  if (decide (x4<(p0.length:Int)))=true then ((idx p0 x4)>>=fun y2=>(idx aP x4)>>=fun y3=>(iC aP x4 y2)>>=fun y4=>aGm p0 (QA .i64 (x4+1)) y4) else (some aP)
  partial_fixpoint
def aDu (p0:List Int):Option (List Int) :=
  (mkG 8 (p0.length:Int) (0:Int))>>=fun y1=>aGm p0 0 y1
def aI5 (p0:List (List UInt8)) (x4:Int) (aP:List (List UInt8)):Option (List (List UInt8)) :=
  if (decide (x4<(p0.length:Int)))=true then ((idx p0 x4)>>=fun y2=>(idx aP x4)>>=fun y3=>(iC aP x4 y2)>>=fun y4=>aI5 p0 (QA .i64 (x4+1)) y4) else (some aP)
  partial_fixpoint
def aEq (p0:List (List UInt8)):Option (List (List UInt8)) :=
  (mkG 16 (p0.length:Int) ([]:(List UInt8)))>>=fun y1=>aI5 p0 0 y1
mutual
def M8 (p0:bD):Option bD :=
  (uM p0.expr)>>=fun y1=>some (bD.mk y1 p0.desc)
  partial_fixpoint
def aMv (p0:List bD) (x4:Int) (aP:List bD):Option (List bD) :=
  if (decide (x4<(p0.length:Int)))=true then ((idx p0 x4)>>=fun y2=>(M8 y2)>>=fun y3=>(idx aP x4)>>=fun y4=>(iC aP x4 y3)>>=fun y5=>aMv p0 (QA .i64 (x4+1)) y5) else (some aP)
  partial_fixpoint
def aK7 (p0:List bD):Option (List bD) :=
  (mkG 128 (p0.length:Int) ((bD.mk (aJ.mk 0 0 false (aA.mk 0 0 []) 0 0 ([]:List aJ) ([]:List aQ)) false):bD))>>=fun y1=>aMv p0 0 y1
  partial_fixpoint
def aIc (p0:List (List aJ)) (x4:Int) (aP:List (List aJ)):Option (List (List aJ)) :=
  if (decide (x4<(p0.length:Int)))=true then ((idx p0 x4)>>=fun y2=>(qA y2)>>=fun y3=>(idx aP x4)>>=fun y4=>(iC aP x4 y3)>>=fun y5=>aIc p0 (QA .i64 (x4+1)) y5) else (some aP)
  partial_fixpoint
def aJ7 (p0:List (List aJ)):Option (List (List aJ)) :=
  (mkG 24 (p0.length:Int) (([]:List aJ):(List aJ)))>>=fun y1=>aIc p0 0 y1
  partial_fixpoint
def aKy (p0:List aQ) (x4:Int) (aP:List aQ):Option (List aQ) :=
  if (decide (x4<(p0.length:Int)))=true then ((idx p0 x4)>>=fun y2=>(A8 y2)>>=fun y3=>(idx aP x4)>>=fun y4=>(iC aP x4 y3)>>=fun y5=>aKy p0 (QA .i64 (x4+1)) y5) else (some aP)
  partial_fixpoint
def aM4 (p0:List aQ):Option (List aQ) :=
  (mkG 160 (p0.length:Int) ((aQ.mk ([]:List Int) ([]:List (List aJ)) ([]:List aJ) ([]:List bD) ([]:List aJ) ([]:List (List UInt8)) false 0):aQ))>>=fun y1=>aKy p0 0 y1
  partial_fixpoint
def uM (p0:aJ):Option aJ :=
  (qY p0.value)>>=fun y1=>(qA p0.kids)>>=fun y2=>(aM4 p0.sub)>>=fun y3=>some (aJ.mk p0.kind p0.op p0.not_ y1 p0.up p0.at_ y2 y3)
  partial_fixpoint
def aAf (p0:List aJ) (x4:Int) (aP:List aJ):Option (List aJ) :=
  if (decide (x4<(p0.length:Int)))=true then ((idx p0 x4)>>=fun y2=>(uM y2)>>=fun y3=>(idx aP x4)>>=fun y4=>(iC aP x4 y3)>>=fun y5=>aAf p0 (QA .i64 (x4+1)) y5) else (some aP)
  partial_fixpoint
def qA (p0:List aJ):Option (List aJ) :=
  (mkG 120 (p0.length:Int) ((aJ.mk 0 0 false (aA.mk 0 0 []) 0 0 ([]:List aJ) ([]:List aQ)):aJ))>>=fun y1=>aAf p0 0 y1
  partial_fixpoint
def A8 (p0:aQ):Option aQ :=
  (aDu p0.tables)>>=fun y1=>(aJ7 p0.on_)>>=fun y2=>(qA p0.where_)>>=fun y3=>(aK7 p0.order)>>=fun y4=>(qA p0.items)>>=fun y5=>(aEq p0.names)>>=fun y6=>some (aQ.mk y1 y2 y3 y4 y5 y6 p0.distinct p0.limit)
  partial_fixpoint
end
def aGk (p0:List Int) (x4:Int) (aU:List Int):Option (List Int) :=
  if (decide (x4<(p0.length:Int)))=true then ((idx p0 x4)>>=fun y2=>(idx aU x4)>>=fun y3=>aGk p0 (QA .i64 (x4+1)) (aU.set (x4).toNat y2)) else (some aU)
  partial_fixpoint
def aGj (p0:List Int):Option (List Int) :=
  (mkG 8 (p0.length:Int) (0:Int))>>=fun y1=>aGk p0 0 y1
def aH1 (p0:List (List UInt8)) (x4:Int) (aU:List (List UInt8)):Option (List (List UInt8)) :=
  if (decide (x4<(p0.length:Int)))=true then ((idx p0 x4)>>=fun y2=>(idx aU x4)>>=fun y3=>aH1 p0 (QA .i64 (x4+1)) (aU.set (x4).toNat y2)) else (some aU)
  partial_fixpoint
def aEc (p0:List (List UInt8)):Option (List (List UInt8)) :=
  (mkG 16 (p0.length:Int) ([]:(List UInt8)))>>=fun y1=>aH1 p0 0 y1
mutual
def aA8 (p0:bD):Option bD :=
  (uH p0.expr)>>=fun y1=>some (bD.mk y1 p0.desc)
  partial_fixpoint
def aIx (p0:List bD) (x4:Int) (aU:List bD):Option (List bD) :=
  if (decide (x4<(p0.length:Int)))=true then ((idx p0 x4)>>=fun y2=>(aA8 y2)>>=fun y3=>(idx aU x4)>>=fun y4=>aIx p0 (QA .i64 (x4+1)) (aU.set (x4).toNat y3)) else (some aU)
  partial_fixpoint
def aMe (p0:List bD):Option (List bD) :=
  (mkG 128 (p0.length:Int) ((bD.mk (aJ.mk 0 0 false (aA.mk 0 0 []) 0 0 ([]:List aJ) ([]:List aQ)) false):bD))>>=fun y1=>aIx p0 0 y1
  partial_fixpoint
def aKe (p0:List aQ) (x4:Int) (aU:List aQ):Option (List aQ) :=
  if (decide (x4<(p0.length:Int)))=true then ((idx p0 x4)>>=fun y2=>(zX y2)>>=fun y3=>(idx aU x4)>>=fun y4=>aKe p0 (QA .i64 (x4+1)) (aU.set (x4).toNat y3)) else (some aU)
  partial_fixpoint
def aIq (p0:List aQ):Option (List aQ) :=
  (mkG 160 (p0.length:Int) ((aQ.mk ([]:List Int) ([]:List (List aJ)) ([]:List aJ) ([]:List bD) ([]:List aJ) ([]:List (List UInt8)) false 0):aQ))>>=fun y1=>aKe p0 0 y1
  partial_fixpoint
def uH (p0:aJ):Option aJ :=
  (qY p0.value)>>=fun y1=>(qO p0.kids)>>=fun y2=>(aIq p0.sub)>>=fun y3=>some (aJ.mk p0.kind p0.op p0.not_ y1 p0.up p0.at_ y2 y3)
  partial_fixpoint
def O0 (p0:List aJ) (x4:Int) (aU:List aJ):Option (List aJ) :=
  if (decide (x4<(p0.length:Int)))=true then ((idx p0 x4)>>=fun y2=>(uH y2)>>=fun y3=>(idx aU x4)>>=fun y4=>O0 p0 (QA .i64 (x4+1)) (aU.set (x4).toNat y3)) else (some aU)
  partial_fixpoint
def qO (p0:List aJ):Option (List aJ) :=
  (mkG 120 (p0.length:Int) ((aJ.mk 0 0 false (aA.mk 0 0 []) 0 0 ([]:List aJ) ([]:List aQ)):aJ))>>=fun y1=>O0 p0 0 y1
  partial_fixpoint
def aIu (p0:List (List aJ)) (x4:Int) (aU:List (List aJ)):Option (List (List aJ)) :=
  if (decide (x4<(p0.length:Int)))=true then ((idx p0 x4)>>=fun y2=>(qO y2)>>=fun y3=>(idx aU x4)>>=fun y4=>aIu p0 (QA .i64 (x4+1)) (aU.set (x4).toNat y3)) else (some aU)
  partial_fixpoint
def aLy (p0:List (List aJ)):Option (List (List aJ)) :=
  (mkG 24 (p0.length:Int) (([]:List aJ):(List aJ)))>>=fun y1=>aIu p0 0 y1
  partial_fixpoint
def zX (p0:aQ):Option aQ :=
  (aGj p0.tables)>>=fun y1=>(aLy p0.on_)>>=fun y2=>(qO p0.where_)>>=fun y3=>(aMe p0.order)>>=fun y4=>(qO p0.items)>>=fun y5=>(aEc p0.names)>>=fun y6=>some (aQ.mk y1 y2 y3 y4 y5 y6 p0.distinct p0.limit)
  partial_fixpoint
end
def aIm (p0:aX) (p1:GDb) (p2:aQ):Option Bool :=
  (aN2 p0 1048576)>>=fun y1=>if (decide (y1<0))=true then (some true) else ((aKq p1 y1)>>=fun y2=>if (decide (y2<0))=true then (some true) else ((Y7 p2 y2)>>=fun y3=>if (decide (y3<0))=true then (some true) else ((aF7 p0)>>=fun y4=>(aGt p1)>>=fun y5=>(A8 p2)>>=fun y6=>(aMx y4 y5 y6)>>=fun y7=>(aH2 p0)>>=fun y8=>(aFw p1)>>=fun y9=>(zX p2)>>=fun y10=>(aE3 y8 y9 y10)>>=fun y11=>(vC y11.1 y7.1)>>=fun y12=>(some (if (!y12)=true then true else (!decide (y11.2=y7.2))))>>=fun y13=>if y13=true then (some false) else ((aF7 p0)>>=fun y14=>(aIj y8 y14)>>=fun y15=>if (!y15)=true then (some false) else ((aGt p1)>>=fun y16=>(aIo y9 y16)>>=fun y17=>if (!y17)=true then (some false) else ((A8 p2)>>=fun y18=>(M5 y10 y18)>>=fun y19=>if (!y19)=true then (some false) else ((aIa y8 1)>>=fun y20=>(aKs y9 y20.1)>>=fun y21=>(aMj y10 y21.1)>>=fun y22=>(if (true&&((decide (y22.1<0))==false))=true then vC y11.1 y7.1 else some (default:Bool))>>=fun y23=>(some (if (decide (y22.1<0))=true then true else (!y23)))>>=fun y24=>(some (if y24=true then true else (!decide (y11.2=y7.2))))>>=fun y25=>if y25=true then (some false) else ((aFa y11.1 1)>>=fun y26=>(aI3 y26.2 1)>>=fun y27=>if (decide (y27<0))=true then (some false) else (if (!decide (y27=y26.1))=true then (some false) else ((aH2 p0)>>=fun y28=>(aFw p1)>>=fun y29=>(zX p2)>>=fun y30=>(aE3 y28 y29 y30)>>=fun y31=>(vC y31.1 y7.1)>>=fun y32=>(some (if (!y32)=true then true else (!decide (y31.2=y7.2))))>>=fun y33=>if y33=true then (some false) else ((aI3 y26.2 1)>>=fun y34=>if (decide (y34<0))=true then (some false) else (if (!decide (y34=y26.1))=true then (some false) else (some true)))))))))))))
end Go.Ab
