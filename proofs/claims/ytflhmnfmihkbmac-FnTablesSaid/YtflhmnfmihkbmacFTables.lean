/- The functions of the program,as Lean functions (printed by a program). -/
import Derived.Test.YtflhmnfmihkbmacAbF0
namespace Go.Ab
open Go
structure bN where
  kind:Int
  num:Int
  text:(List UInt8)
instance:Inhabited bN:=⟨(bN.mk 0 0 [])⟩
mutual
structure aA where
  kind:Int
  op:Int
  not_:Bool
  value:bN
  qual:(List UInt8)
  name:(List UInt8)
  kids:(List aA)
  sub:(List aQ)
structure bH where
  star:Bool
  qual:(List UInt8)
  expr:aA
  as_:(List UInt8)
structure aQ where
  distinct:Bool
  items:(List bH)
  from_:(List bI)
  where_:(List aA)
  order:(List dU)
  limit:Int
structure dU where
  expr:aA
  desc:Bool
structure bI where
  table:(List UInt8)
  as_:(List UInt8)
  on_:(List aA)
end
instance:Inhabited aA:=⟨(aA.mk 0 0 false (bN.mk 0 0 []) [] [] [] [])⟩
instance:Inhabited bH:=⟨(bH.mk false [] (aA.mk 0 0 false (bN.mk 0 0 []) [] [] [] []) [])⟩
instance:Inhabited aQ:=⟨(aQ.mk false [] [] [] [] 0)⟩
instance:Inhabited dU:=⟨(dU.mk (aA.mk 0 0 false (bN.mk 0 0 []) [] [] [] []) false)⟩
instance:Inhabited bI:=⟨(bI.mk [] [] [])⟩
structure bD where
  kind:Int
  query:aQ
  table:(List UInt8)
  rows:(List (List aA))
  cols:(List (List UInt8))
  sets:(List aA)
  where_:(List aA)
instance:Inhabited bD:=⟨(bD.mk 0 (aQ.mk false [] [] [] [] 0) [] [] [] [] [])⟩
structure aB where
  kind:Int
  text:(List UInt8)
  at_:Int
instance:Inhabited aB:=⟨(aB.mk 0 [] 0)⟩
structure dD where
  list:(List (List UInt8))
instance:Inhabited dD:=⟨(dD.mk [])⟩
structure aJ where
  b:(List Int)
  i:Int
  h:Int
instance:Inhabited aJ:=⟨(aJ.mk [] 0 0)⟩
def okGValue (x:bN):Prop:=okI x.kind∧okI x.num∧okS x.text
mutual
def okGExpr:aA→Prop
  | ⟨a0,a1,a2,a3,a4,a5,a6,a7⟩=>okI a0∧okI a1∧okB a2∧okGValue a3∧okS a4∧okS a5∧(a6.length≤9223372036854775807∧okLGExpr a6)∧(a7.length≤9223372036854775807∧okLGQuery a7)
def okGItem:bH→Prop
  | ⟨a0,a1,a2,a3⟩=>okB a0∧okS a1∧okGExpr a2∧okS a3
def okGQuery:aQ→Prop
  | ⟨a0,a1,a2,a3,a4,a5⟩=>okB a0∧(a1.length≤9223372036854775807∧okLGItem a1)∧(a2.length≤9223372036854775807∧okLGSource a2)∧(a3.length≤9223372036854775807∧okLGExpr a3)∧(a4.length≤9223372036854775807∧okLGSortKey a4)∧okI a5
def okGSortKey:dU→Prop
  | ⟨a0,a1⟩=>okGExpr a0∧okB a1
def okGSource:bI→Prop
  | ⟨a0,a1,a2⟩=>okS a0∧okS a1∧(a2.length≤9223372036854775807∧okLGExpr a2)
def okLGExpr:List aA→Prop
  | []=>True
  | x::l=>okGExpr x∧okLGExpr l
def okLGItem:List bH→Prop
  | []=>True
  | x::l=>okGItem x∧okLGItem l
def okLGQuery:List aQ→Prop
  | []=>True
  | x::l=>okGQuery x∧okLGQuery l
def okLGSortKey:List dU→Prop
  | []=>True
  | x::l=>okGSortKey x∧okLGSortKey l
def okLGSource:List bI→Prop
  | []=>True
  | x::l=>okGSource x∧okLGSource l
end
def okGStmt (x:bD):Prop:=okI x.kind∧okGQuery x.query∧okS x.table∧(okL (okL okGExpr)) x.rows∧(okL okS) x.cols∧(okL okGExpr) x.sets∧(okL okGExpr) x.where_
def okGToken (x:aB):Prop:=okI x.kind∧okS x.text∧okI x.at_
def okGTables (x:dD):Prop:=(okL okS) x.list
def okGL1Cur (x:aJ):Prop:=(okL okU8) x.b∧okI x.i∧okI x.h
def xI (p0:aQ) (lK:(List aA)) (x46:Int):Option (List aA) :=
  if (decide (x46<(p0.order.length:Int)))=true then ((idx p0.order x46)>>=fun y9=>(appG 136 lK ([y9.expr]:List aA))>>=fun y10=>xI p0 y10 (IntKind.wrap .i64 (x46+1))) else (some lK)
  partial_fixpoint
def yK (p0:aQ) (dF:(List aA)) (x30:Int):Option (List aA) :=
  if (decide (x30<(p0.from_.length:Int)))=true then ((idx p0.from_ x30)>>=fun y5=>(appG 136 dF y5.on_)>>=fun y6=>yK p0 y6 (IntKind.wrap .i64 (x30+1))) else ((appG 136 dF p0.where_)>>=fun y7=>xI p0 y7 0)
  partial_fixpoint
mutual
def Y4 (p0:aQ) (x14:Int) (dX:(List aA)):Option (List aA) :=
  Q4 p0 dX (IntKind.wrap .i64 (x14+1))
  partial_fixpoint
def Q4 (p0:aQ) (x3:(List aA)) (x14:Int):Option (List aA) :=
  if (decide (x14<(p0.items.length:Int)))=true then ((idx p0.items x14)>>=fun y1=>if (!y1.star)=true then ((appG 136 x3 ([y1.expr]:List aA))>>=fun y2=>Y4 p0 x14 y2) else (Y4 p0 x14 x3)) else (yK p0 x3 0)
  partial_fixpoint
end
def qY (p0:aQ):Option (List aA) :=
  Q4 p0 ([]:List aA) 0
def C9 (p0:bD) (x3:(List aA)) (x12:Int):Option (List aA) :=
  if (decide (x12<(p0.rows.length:Int)))=true then ((idx p0.rows x12)>>=fun y2=>(appG 136 x3 y2)>>=fun y3=>C9 p0 y3 (IntKind.wrap .i64 (x12+1))) else ((appG 136 x3 p0.sets)>>=fun y4=>(appG 136 y4 p0.where_)>>=fun y5=>some y5)
  partial_fixpoint
def O8 (p0:bD):Option (List aA) :=
  (qY p0.query)>>=fun y1=>C9 p0 y1 0
def yM (p0:(List (List UInt8))) (p1:(List UInt8)) (x8:Int):Option Int :=
  if (decide (x8<(p0.length:Int)))=true then ((idx p0 x8)>>=fun y1=>if (decide (p1=y1))=true then (some x8) else (yM p0 p1 (IntKind.wrap .i64 (x8+1)))) else (some (-1))
  partial_fixpoint
def aIs (p0:(List (List UInt8))) (p1:(List UInt8)):Option Int :=
  yM p0 p1 0
def aAl (p0:(List (List UInt8))) (p1:(List UInt8)):Option Bool :=
  (aIs p0 p1)>>=fun y1=>some (decide (0≤y1))
def P9 (p0:dD) (p1:(List UInt8)):Option dD :=
  (if (true&&((!decide (p1=[]))==true))=true then aAl p0.list p1 else some default)>>=fun y1=>(some (if (!decide (p1=[]))=true then (!y1) else false))>>=fun y2=>if y2=true then ((appG 16 p0.list ([p1]:List (List UInt8)))>>=fun y3=>some (dD.mk y3)) else (some p0)
def F7 (p1:aQ) (x9:Int) (bC:(List (List UInt8))):Option dD :=
  if (decide (x9<(p1.from_.length:Int)))=true then ((idx p1.from_ x9)>>=fun y1=>(P9 (dD.mk bC) y1.table)>>=fun y2=>F7 p1 (IntKind.wrap .i64 (x9+1)) y2.list) else (some (dD.mk bC))
  partial_fixpoint
def Y0 (p0:dD) (p1:aQ):Option dD :=
  F7 p1 0 p0.list
mutual
def A7 (p1:(List aA)) (x10:Int) (y1:aA) (x21:Int) (lH:(List (List UInt8))):Option dD :=
  if (decide (x21<(y1.sub.length:Int)))=true then ((idx y1.sub x21)>>=fun y4=>(Y0 (dD.mk lH) y4)>>=fun y5=>(qY y4)>>=fun y6=>(xV y5 y6)>>=fun y7=>A7 p1 x10 y1 (IntKind.wrap .i64 (x21+1)) y7.list) else (Q0 p1 (IntKind.wrap .i64 (x10+1)) lH)
  partial_fixpoint
def Q0 (p1:(List aA)) (x10:Int) (bC:(List (List UInt8))):Option dD :=
  if (decide (x10<(p1.length:Int)))=true then ((idx p1 x10)>>=fun y1=>(xV (dD.mk bC) y1.kids)>>=fun y2=>A7 p1 x10 y1 0 y2.list) else (some (dD.mk bC))
  partial_fixpoint
def xV (p0:dD) (p1:(List aA)):Option dD :=
  Q0 p1 0 p0.list
  partial_fixpoint
end
def X3 (p0:bD):Option (List (List UInt8)) :=
  (P9 (dD.mk ([]:List (List UInt8))) p0.table)>>=fun y1=>(Y0 y1 p0.query)>>=fun y2=>(O8 p0)>>=fun y3=>(xV y2 y3)>>=fun y4=>some y4.list
def aC5 (p0:aJ) (x3:Int) (bJ:Int):Option (Int×aJ) :=
  some (x3,(aJ.mk p0.b bJ (IntKind.wrap .i64 ((IntKind.wrap .i64 (p0.h * 6364136223846793005))+1442695040888963407))))
def uI (p0:aJ):Option (Int×aJ) :=
  if (decide (p0.i<(p0.b.length:Int)))=true then ((idx p0.b p0.i)>>=fun y1=>aC5 p0 (IntKind.wrap .i64 ((BitVec.ofInt (IntKind.bits .i64) (IntKind.wrap .i64 ((IntKind.wrap .i64 ((BitVec.ofInt (IntKind.bits .i64) (IntKind.wrap .i64 ((BitVec.ofInt (IntKind.bits .i64) (Int.fdiv (IntKind.wrap .i64 ((IntKind.wrap .i64 (p0.h * 6364136223846793005))+1442695040888963407)) (2 ^ 33)) ^^^ BitVec.ofInt (IntKind.bits .i64) (Int.fdiv (IntKind.wrap .i64 ((IntKind.wrap .i64 (p0.h * 6364136223846793005))+1442695040888963407)) (2 ^ 45))).toNat:Int)) &&& BitVec.ofInt (IntKind.bits .i64) 255).toNat:Int))+(IntKind.wrap .i64 y1))) &&& BitVec.ofInt (IntKind.bits .i64) 255).toNat:Int)) (IntKind.wrap .i64 (p0.i+1))) else (aC5 p0 (IntKind.wrap .i64 ((BitVec.ofInt (IntKind.bits .i64) (IntKind.wrap .i64 ((BitVec.ofInt (IntKind.bits .i64) (Int.fdiv (IntKind.wrap .i64 ((IntKind.wrap .i64 (p0.h * 6364136223846793005))+1442695040888963407)) (2 ^ 33)) ^^^ BitVec.ofInt (IntKind.bits .i64) (Int.fdiv (IntKind.wrap .i64 ((IntKind.wrap .i64 (p0.h * 6364136223846793005))+1442695040888963407)) (2 ^ 45))).toNat:Int)) &&& BitVec.ofInt (IntKind.bits .i64) 255).toNat:Int)) p0.i)
def fI (p0:aJ) (p1:Int):Option (Int×aJ) :=
  if (decide (p1≤0))=true then (some (0,p0)) else (if (decide (p1≤256))=true then ((uI p0)>>=fun y1=>(X4 y1.1 p1)>>=fun y2=>some (y2,y1.2)) else ((uI p0)>>=fun y3=>(uI y3.2)>>=fun y4=>(uI y4.2)>>=fun y5=>(uI y5.2)>>=fun y6=>(X4 (IntKind.wrap .i64 ((IntKind.wrap .i64 ((IntKind.wrap .i64 ((IntKind.wrap .i64 (y3.1 * 16777216))+(IntKind.wrap .i64 (y4.1 * 65536))))+(IntKind.wrap .i64 (y5.1 * 256))))+y6.1)) p1)>>=fun y7=>some (y7,y6.2)))
def yI (p0:(List Int)) (x3:Int) (x4:Int):Option aJ :=
  (some (if (decide (x4<(p0.length:Int)))=true then (decide (x4<4000)) else false))>>=fun y1=>if y1=true then ((idx p0 x4)>>=fun y2=>yI p0 (IntKind.wrap .i64 ((BitVec.ofInt (IntKind.bits .i64) (IntKind.wrap .i64 ((IntKind.wrap .i64 ((IntKind.wrap .i64 (x3 * 131))+(IntKind.wrap .i64 y2)))+7)) &&& BitVec.ofInt (IntKind.bits .i64) 1073741823).toNat:Int)) (IntKind.wrap .i64 (x4+1))) else (some (aJ.mk p0 0 x3))
  partial_fixpoint
def aBn (p0:(List Int)):Option aJ :=
  yI p0 (IntKind.wrap .i64 (28322+(p0.length:Int))) 0
def aC7 (p0:(List Int)) (p1:Int):Option Int :=
  if (decide (p1<(IntKind.wrap .i64 (2+(IntKind.wrap .i64 (Int.tdiv (p0.length:Int) 20))))))=true then (some p1) else (some (IntKind.wrap .i64 (2+(IntKind.wrap .i64 (Int.tdiv (p0.length:Int) 20)))))
def wX (p1:Int) (x5:(List Int)) (x6:Int) (bC:(List Int)) (bJ:Int) (bS:Int):Option ((List Int)×aJ) :=
  if (decide (x6<p1))=true then ((uI (aJ.mk bC bJ bS))>>=fun y1=>(appG 1 x5 ([(IntKind.wrap .u8 y1.1)]:List Int))>>=fun y2=>wX p1 y2 (IntKind.wrap .i64 (x6+1)) y1.2.b y1.2.i y1.2.h) else (some (x5,(aJ.mk bC bJ bS)))
  partial_fixpoint
def aOi (p0:aJ) (p1:Int):Option ((List Int)×aJ) :=
  wX p1 ([]:List Int) 0 p0.b p0.i p0.h
def oM (p0:aJ) (p1:(List (List UInt8))):Option ((List UInt8)×aJ) :=
  (fI p0 (p1.length:Int))>>=fun y1=>(idx p1 y1.1)>>=fun y2=>some (y2,y1.2)
def fV (p0:aJ) (p1:Int):Option (Bool×aJ) :=
  (fI p0 p1)>>=fun y1=>some ((decide (y1.1=0)),y1.2)
def sI (p0:aJ):Option ((List UInt8)×aJ) :=
  (fV p0 6)>>=fun y1=>if y1.1=true then ((oM y1.2 ([[97,32,98],[102,114,111,109],[83,101,108,101,99,116],[49,120],[113,34,113],[0],[34],[105,116,39,115],[120,46,121],[45]]:List (List UInt8)))>>=fun y2=>some (y2.1,y2.2)) else ((oM y1.2 ([[97],[98],[99],[116],[117],[118],[105,100],[110,97,109,101],[65],[95,120,49]]:List (List UInt8)))>>=fun y3=>some (y3.1,y3.2))
def aHk:Option (List (List UInt8)) :=
  some ([[],[83,69,76,69,67,84],[68,73,83,84,73,78,67,84],[70,82,79,77],[74,79,73,78],[79,78],[87,72,69,82,69],[79,82,68,69,82],[66,89],[65,83,67],[68,69,83,67],[76,73,77,73,84],[65,83],[65,78,68],[79,82],[78,79,84],[73,83],[73,78],[66,69,84,87,69,69,78],[69,88,73,83,84,83],[78,85,76,76],[84,82,85,69],[70,65,76,83,69],[73,78,83,69,82,84],[73,78,84,79],[86,65,76,85,69,83],[85,80,68,65,84,69],[83,69,84],[68,69,76,69,84,69]]:List (List UInt8))
def yB (p0:aJ):Option ((List UInt8)×aJ) :=
  (fI p0 6)>>=fun y1=>if (decide (y1.1=0))=true then ((oM y1.2 ([[],[97,98,99,100,101,102,103,104,105,106,107,108,109,110,111,112,113,114,115,116],[97,98,99,100,101,102,103,104,105,106,107,108,109,110,111,112,113,114,115,116,117],[108,105,109,105,116],[76,73,77,73,84,83],[65,83,99],[57],[97,57],[195,169]]:List (List UInt8)))>>=fun y2=>some (y2.1,y2.2)) else (if (decide (y1.1=1))=true then ((aHk)>>=fun y3=>(fI y1.2 29)>>=fun y4=>(idx y3 y4.1)>>=fun y5=>some (y5,y4.2)) else (if (decide (y1.1=2))=true then ((fI y1.2 5)>>=fun y6=>(aOi y6.2 y6.1)>>=fun y7=>(ofBytes y7.1)>>=fun y8=>some (y8,y7.2)) else ((sI y1.2)>>=fun y9=>some (y9.1,y9.2))))
def wZ (p0:aJ) (p1:(List Int)):Option (Int×aJ) :=
  (fI p0 (p1.length:Int))>>=fun y1=>(idx p1 y1.1)>>=fun y2=>some (y2,y1.2)
def Z9 (p0:aJ):Option (Int×aJ) :=
  (fI p0 3)>>=fun y1=>if (decide (y1.1=0))=true then ((wZ y1.2 ([0,1,(-1),63,64,(-64),(-65),127,128,16383,16384,9223372036854775807,(-9223372036854775808),4611686018427387904]:List Int))>>=fun y2=>some (y2.1,y2.2)) else (if (decide (y1.1=1))=true then ((fI y1.2 1000000)>>=fun y3=>some ((IntKind.wrap .i64 (y3.1 - 500000)),y3.2)) else ((fI y1.2 20)>>=fun y4=>some (y4.1,y4.2)))
def vQ (eY:Int) (eG:Int) (eX:(List UInt8)) (bC:(List Int)) (bJ:Int) (bS:Int):Option (bN×aJ) :=
  some ((bN.mk eY eG eX),(aJ.mk bC bJ bS))
def wY (y1:bN×aJ) (jS:(List UInt8)) (nH:(List Int)) (nU:Int) (nI:Int):Option (bN×aJ) :=
  (fV (aJ.mk nH nU nI) 2)>>=fun y10=>(some (if y10.1=true then (decide ((jS.length:Int)<400)) else false))>>=fun y11=>if y11=true then ((vM jS jS)>>=fun y12=>(vM y12 [48,49,50,51,52,53,54,55,56,57])>>=fun y13=>wY y1 y13 y10.2.b y10.2.i y10.2.h) else (vQ y1.1.kind y1.1.num jS y10.2.b y10.2.i y10.2.h)
  partial_fixpoint
def aJb (p0:Bool):Option bN :=
  if p0=true then (some (bN.mk 3 1 [])) else (some (bN.mk 3 0 []))
def aBj (p0:Int):Option bN :=
  some (bN.mk 1 p0 [])
def aD2 (p0:(List UInt8)):Option bN :=
  some (bN.mk 2 0 p0)
def F8 (p0:aJ):Option (bN×aJ) :=
  (fI p0 6)>>=fun y1=>if (decide (y1.1=0))=true then (some ((bN.mk 0 0 []),y1.2)) else (if (decide (y1.1=1))=true then ((oM y1.2 ([[],[97],[98],[105,116,39,115],[97,98],[255]]:List (List UInt8)))>>=fun y2=>(aD2 y2.1)>>=fun y3=>some (y3,y2.2)) else (if (decide (y1.1=2))=true then ((fV y1.2 2)>>=fun y4=>(aJb y4.1)>>=fun y5=>some (y5,y4.2)) else (if (decide (y1.1=3))=true then ((Z9 y1.2)>>=fun y6=>(aBj y6.1)>>=fun y7=>some (y7,y6.2)) else ((fI y1.2 7)>>=fun y8=>(aBj (IntKind.wrap .i64 (y8.1 - 2)))>>=fun y9=>some (y9,y8.2)))))
def U7 (p0:aJ):Option (bN×aJ) :=
  (F8 p0)>>=fun y1=>(fI y1.2 14)>>=fun y2=>if (decide (y2.1=0))=true then ((fI y2.2 6)>>=fun y3=>vQ (IntKind.wrap .i64 (y3.1 - 1)) y1.1.num y1.1.text y3.2.b y3.2.i y3.2.h) else (if (decide (y2.1=1))=true then ((Z9 y2.2)>>=fun y4=>vQ y1.1.kind y4.1 y1.1.text y4.2.b y4.2.i y4.2.h) else (if (decide (y2.1=2))=true then ((oM y2.2 ([[120],[],[108,111,110,103]]:List (List UInt8)))>>=fun y5=>wY y1 y5.1 y5.2.b y5.2.i y5.2.h) else (vQ y1.1.kind y1.1.num y1.1.text y2.2.b y2.2.i y2.2.h)))
def rJ (eY:Int) (eG:Int) (eX:Bool) (gJ:Int) (gK:Int) (sS:(List UInt8)) (gD:(List UInt8)) (jO:(List UInt8)) (bC:(List Int)) (bJ:Int) (bS:Int) (uV:(List aA)) (vN:(List aQ)):Option (aA×aJ) :=
  some ((aA.mk eY eG eX (bN.mk gJ gK sS) gD jO uV vN),(aJ.mk bC bJ bS))
def aBy (gD:(List UInt8)) (jO:(List UInt8)) (tK:(List Int)) (tY:Int) (uD:Int):Option (aA×aJ) :=
  some ((aA.mk 2 0 false (bN.mk 0 0 []) gD jO ([]:List aA) ([]:List aQ)),(aJ.mk tK tY uD))
def M6 (y1:(List UInt8)×aJ) (gD:(List UInt8)) (bC:(List Int)) (bJ:Int) (bS:Int):Option (aA×aJ) :=
  (fV (aJ.mk bC bJ bS) 12)>>=fun y4=>if y4.1=true then ((sI y4.2)>>=fun y5=>aBy gD y5.1 y5.2.b y5.2.i y5.2.h) else (aBy gD y1.1 y4.2.b y4.2.i y4.2.h)
def D6 (p0:aJ):Option (aA×aJ) :=
  (oM p0 ([[97],[98],[99],[105,100],[110,97,109,101]]:List (List UInt8)))>>=fun y1=>(fV y1.2 3)>>=fun y2=>if y2.1=true then ((oM y2.2 ([[116],[117],[118]]:List (List UInt8)))>>=fun y3=>M6 y1 y3.1 y3.2.b y3.2.i y3.2.h) else (M6 y1 [] y2.2.b y2.2.i y2.2.h)
def zU (p0:aJ) (p1:aA):Option (aA×aJ) :=
  (if (true&&((decide (0<(p1.kids.length:Int)))==true))=true then fV p0 2 else some ((default:Bool),p0))>>=fun y1=>(some (if (decide (0<(p1.kids.length:Int)))=true then y1.1 else false))>>=fun y2=>if y2=true then ((fI y1.2 (p1.kids.length:Int))>>=fun y3=>(idx p1.kids y3.1)>>=fun y4=>(zU y3.2 y4)>>=fun y5=>some ((aA.mk p1.kind p1.op p1.not_ p1.value p1.qual p1.name (p1.kids.set (y3.1).toNat y5.1) p1.sub),y5.2)) else ((fI y1.2 8)>>=fun y6=>if (decide (y6.1=0))=true then ((fI y6.2 12)>>=fun y7=>rJ (IntKind.wrap .i64 (y7.1 - 1)) p1.op p1.not_ p1.value.kind p1.value.num p1.value.text p1.qual p1.name y7.2.b y7.2.i y7.2.h p1.kids p1.sub) else (if (decide (y6.1=1))=true then ((wZ y6.2 ([0,1,14,15,16,17,(-1)]:List Int))>>=fun y8=>rJ p1.kind y8.1 p1.not_ p1.value.kind p1.value.num p1.value.text p1.qual p1.name y8.2.b y8.2.i y8.2.h p1.kids p1.sub) else (if (decide (y6.1=2))=true then (rJ p1.kind p1.op (!p1.not_) p1.value.kind p1.value.num p1.value.text p1.qual p1.name y6.2.b y6.2.i y6.2.h p1.kids p1.sub) else (if (decide (y6.1=3))=true then ((U7 y6.2)>>=fun y9=>rJ p1.kind p1.op p1.not_ y9.1.kind y9.1.num y9.1.text p1.qual p1.name y9.2.b y9.2.i y9.2.h p1.kids p1.sub) else (if (decide (y6.1=4))=true then ((yB y6.2)>>=fun y10=>rJ p1.kind p1.op p1.not_ p1.value.kind p1.value.num p1.value.text p1.qual y10.1 y10.2.b y10.2.i y10.2.h p1.kids p1.sub) else (if (decide (y6.1=5))=true then ((yB y6.2)>>=fun y11=>rJ p1.kind p1.op p1.not_ p1.value.kind p1.value.num p1.value.text y11.1 p1.name y11.2.b y11.2.i y11.2.h p1.kids p1.sub) else (if (decide (y6.1=6))=true then ((D6 y6.2)>>=fun y12=>(appG 136 p1.kids ([y12.1]:List aA))>>=fun y13=>rJ p1.kind p1.op p1.not_ p1.value.kind p1.value.num p1.value.text p1.qual p1.name y12.2.b y12.2.i y12.2.h y13 p1.sub) else ((appG 112 p1.sub ([(aQ.mk false ([]:List bH) ([]:List bI) ([]:List aA) ([]:List dU) 0)]:List aQ))>>=fun y14=>rJ p1.kind p1.op p1.not_ p1.value.kind p1.value.num p1.value.text p1.qual p1.name y6.2.b y6.2.i y6.2.h p1.kids y14))))))))
  partial_fixpoint
def wL (y2:Int×aJ) (x5:Int) (eY:Int) (eG:Int) (eX:Bool) (gJ:Int) (gK:Int) (eT:((List UInt8)×((List UInt8)×((List UInt8)×((List aA)×(List aQ)))))):Option (aA×aJ) :=
  if (decide (x5<(IntKind.wrap .i64 (22+y2.1))))=true then (wL y2 (IntKind.wrap .i64 (x5+1)) 3 16 false 0 0 ([],([],([],(([(aA.mk eY eG eX (bN.mk gJ gK eT.1) eT.2.1 eT.2.2.1 eT.2.2.2.1 eT.2.2.2.2)]:List aA),([]:List aQ)))))) else (some ((aA.mk eY eG eX (bN.mk gJ gK eT.1) eT.2.1 eT.2.2.1 eT.2.2.2.1 eT.2.2.2.2),y2.2))
  partial_fixpoint
def aBt (p0:aJ):Option (aA×aJ) :=
  (D6 p0)>>=fun y1=>(fI y1.2 3)>>=fun y2=>wL y2 0 y1.1.kind y1.1.op y1.1.not_ y1.1.value.kind y1.1.value.num (y1.1.value.text,(y1.1.qual,(y1.1.name,(y1.1.kids,y1.1.sub))))
def aAp (y1:Bool×aJ) (jH:(List dU)) (jJ:(List aA)) (jL:(List bI)) (cZ:(List bH)) (uK:Int) (uN:(List Int)) (uH:Int) (rZ:Int):Option (aQ×aJ) :=
  some ((aQ.mk y1.1 cZ jL jJ jH uK),(aJ.mk uN uH rZ))
def N8 (y1:Bool×aJ) (jL:(List bI)) (cZ:(List bH)) (wO:(List Int)) (wK:Int) (vF:Int) (jH:(List dU)) (jJ:(List aA)):Option (aQ×aJ) :=
  (fV (aJ.mk wO wK vF) 4)>>=fun y46=>if y46.1=true then ((wZ y46.2 ([0,1,2,9223372036854775807]:List Int))>>=fun y47=>aAp y1 jH jJ jL cZ y47.1 y47.2.b y47.2.i y47.2.h) else (aAp y1 jH jJ jL cZ (-1) y46.2.b y46.2.i y46.2.h)
def aCd (y1:bN×aJ) (eG:Int):Option (bN×aJ) :=
  some ((bN.mk y1.1.kind eG y1.1.text),y1.2)
def aAk (p0:aJ):Option (bN×aJ) :=
  (F8 p0)>>=fun y1=>(some (if (decide (y1.1.kind=1))=true then (decide (y1.1.num<0)) else false))>>=fun y2=>if y2=true then (aCd y1 9223372036854775807) else (aCd y1 y1.1.num)
mutual
def I4 (p1:Int) (y1:Bool×aJ) (cZ:(List bH)) (nV:(List Int)) (nS:Int) (nE:Int) (kE:((List aA)×(List bI))):Option (aQ×aJ) :=
  (fV (aJ.mk nV nS nE) 3)>>=fun y38=>if y38.1=true then ((nZ y38.2 p1)>>=fun y39=>(fV y39.2 2)>>=fun y40=>(appG 144 ([]:List dU) ([(dU.mk y39.1 y40.1)]:List dU))>>=fun y41=>N8 y1 kE.2 cZ y40.2.b y40.2.i y40.2.h y41 kE.1) else (N8 y1 kE.2 cZ y38.2.b y38.2.i y38.2.h ([]:List dU) kE.1)
  partial_fixpoint
def Z4 (p1:Int) (y16:Int×aJ) (x9:Int) (y1:Bool×aJ) (y21:(List UInt8)×aJ) (kY:(List UInt8)) (iA:((List bH)×((List Int)×(Int×(Int×((List aA)×(List bI))))))):Option (aQ×aJ) :=
  (appG 56 iA.2.2.2.2.2 ([(bI.mk y21.1 kY iA.2.2.2.2.1)]:List bI))>>=fun y45=>yH p1 y16 y1 iA.1 (IntKind.wrap .i64 (x9+1)) iA.2.1 (iA.2.2.1,(iA.2.2.2.1,y45))
  partial_fixpoint
def Y2 (p1:Int) (y16:Int×aJ) (x9:Int) (y1:Bool×aJ) (y21:(List UInt8)×aJ) (mF:(List bI)) (fQ:((List bH)×((List UInt8)×((List Int)×(Int×Int))))):Option (aQ×aJ) :=
  (if (true&&((decide (0<x9))==true))=true then fV (aJ.mk fQ.2.2.1 fQ.2.2.2.1 fQ.2.2.2.2) 2 else some ((default:Bool),(aJ.mk fQ.2.2.1 fQ.2.2.2.1 fQ.2.2.2.2)))>>=fun y32=>(some (if (decide (0<x9))=true then y32.1 else false))>>=fun y33=>if y33=true then ((nZ y32.2 p1)>>=fun y34=>Z4 p1 y16 x9 y1 y21 fQ.2.1 (fQ.1,(y34.2.b,(y34.2.i,(y34.2.h,(([y34.1]:List aA),mF)))))) else (Z4 p1 y16 x9 y1 y21 fQ.2.1 (fQ.1,(y32.2.b,(y32.2.i,(y32.2.h,(([]:List aA),mF))))))
  partial_fixpoint
def yH (p1:Int) (y16:Int×aJ) (y1:Bool×aJ) (cZ:(List bH)) (x9:Int) (mJ:(List Int)) (iY:(Int×(Int×(List bI)))):Option (aQ×aJ) :=
  if (decide (x9<(IntKind.wrap .i64 (1+y16.1))))=true then ((oM (aJ.mk mJ iY.1 iY.2.1) ([[116],[117],[118]]:List (List UInt8)))>>=fun y21=>(fV y21.2 3)>>=fun y22=>if y22.1=true then ((sI y22.2)>>=fun y23=>Y2 p1 y16 x9 y1 y21 iY.2.2 (cZ,(y23.1,(y23.2.b,(y23.2.i,y23.2.h))))) else (Y2 p1 y16 x9 y1 y21 iY.2.2 (cZ,([],(y22.2.b,(y22.2.i,y22.2.h)))))) else ((fV (aJ.mk mJ iY.1 iY.2.1) 2)>>=fun y27=>if y27.1=true then ((nZ y27.2 p1)>>=fun y28=>I4 p1 y1 cZ y28.2.b y28.2.i y28.2.h (([y28.1]:List aA),iY.2.2)) else (I4 p1 y1 cZ y27.2.b y27.2.i y27.2.h (([]:List aA),iY.2.2)))
  partial_fixpoint
def O3 (p1:Int) (y2:Int×aJ) (x7:Int) (y1:Bool×aJ) (y10:aA×aJ) (cZ:(List bH)) (jC:((List UInt8)×((List Int)×(Int×Int)))):Option (aQ×aJ) :=
  (appG 176 cZ ([(bH.mk false [] y10.1 jC.1)]:List bH))>>=fun y20=>K6 p1 y2 x7 y1 jC.2.1 jC.2.2.1 (jC.2.2.2,y20)
  partial_fixpoint
def K6 (p1:Int) (y2:Int×aJ) (x7:Int) (y1:Bool×aJ) (nC:(List Int)) (nL:Int) (lQ:(Int×(List bH))):Option (aQ×aJ) :=
  xW p1 y2 y1 (IntKind.wrap .i64 (x7+1)) nC nL (lQ.1,lQ.2)
  partial_fixpoint
def xW (p1:Int) (y2:Int×aJ) (y1:Bool×aJ) (x7:Int) (bC:(List Int)) (bJ:Int) (iW:(Int×(List bH))):Option (aQ×aJ) :=
  if (decide (x7<(IntKind.wrap .i64 (1+y2.1))))=true then ((fI (aJ.mk bC bJ iW.1) 5)>>=fun y3=>if (decide (y3.1=0))=true then ((appG 176 iW.2 ([(bH.mk true [] (aA.mk 0 0 false (bN.mk 0 0 []) [] [] ([]:List aA) ([]:List aQ)) [])]:List bH))>>=fun y4=>K6 p1 y2 x7 y1 y3.2.b y3.2.i (y3.2.h,y4)) else (if (decide (y3.1=1))=true then ((oM y3.2 ([[116],[117]]:List (List UInt8)))>>=fun y8=>(appG 176 iW.2 ([(bH.mk true y8.1 (aA.mk 0 0 false (bN.mk 0 0 []) [] [] ([]:List aA) ([]:List aQ)) [])]:List bH))>>=fun y9=>K6 p1 y2 x7 y1 y8.2.b y8.2.i (y8.2.h,y9)) else ((nZ y3.2 p1)>>=fun y10=>(fV y10.2 2)>>=fun y11=>if y11.1=true then ((sI y11.2)>>=fun y12=>O3 p1 y2 x7 y1 y10 iW.2 (y12.1,(y12.2.b,(y12.2.i,y12.2.h)))) else (O3 p1 y2 x7 y1 y10 iW.2 ([],(y11.2.b,(y11.2.i,y11.2.h))))))) else ((fI (aJ.mk bC bJ iW.1) 2)>>=fun y16=>yH p1 y16 y1 iW.2 0 y16.2.b (y16.2.i,(y16.2.h,([]:List bI))))
  partial_fixpoint
def vD (p0:aJ) (p1:Int):Option (aQ×aJ) :=
  (fV p0 4)>>=fun y1=>(fI y1.2 2)>>=fun y2=>xW p1 y2 y1 0 y2.2.b y2.2.i (y2.2.h,([]:List bH))
  partial_fixpoint
def F5 (p1:Int) (p2:Int) (x8:Int) (bC:(List Int)) (bJ:Int) (bS:Int) (kU:(List aA)):Option ((List aA)×aJ) :=
  if (decide (x8<p2))=true then ((nZ (aJ.mk bC bJ bS) (IntKind.wrap .i64 (p1 - 1)))>>=fun y1=>(appG 136 kU ([y1.1]:List aA))>>=fun y2=>F5 p1 p2 (IntKind.wrap .i64 (x8+1)) y1.2.b y1.2.i y1.2.h y2) else (some (kU,(aJ.mk bC bJ bS)))
  partial_fixpoint
def mX (p0:aJ) (p1:Int) (p2:Int):Option ((List aA)×aJ) :=
  F5 p1 p2 0 p0.b p0.i p0.h ([]:List aA)
  partial_fixpoint
def zT (p1:Int) (y6:Int×aJ):Option (aA×aJ) :=
  (fI y6.2 14)>>=fun y20=>(mX y20.2 p1 2)>>=fun y21=>some ((aA.mk 4 (IntKind.wrap .i64 (1+y20.1)) false (bN.mk 0 0 []) [] [] y21.1 ([]:List aQ)),y21.2)
  partial_fixpoint
def nZ (p0:aJ) (p1:Int):Option (aA×aJ) :=
  (if (true&&((decide (p1≤0))==false))=true then fV p0 5 else some ((default:Bool),p0))>>=fun y1=>(some (if (decide (p1≤0))=true then true else y1.1))>>=fun y2=>if y2=true then ((fV y1.2 2)>>=fun y3=>if y3.1=true then ((D6 y3.2)>>=fun y4=>some (y4.1,y4.2)) else ((aAk y3.2)>>=fun y5=>some ((aA.mk 1 0 false y5.1 [] [] ([]:List aA) ([]:List aQ)),y5.2))) else ((fI y1.2 12)>>=fun y6=>if (decide (y6.1=0))=true then ((mX y6.2 p1 1)>>=fun y7=>some ((aA.mk 3 15 false (bN.mk 0 0 []) [] [] y7.1 ([]:List aQ)),y7.2)) else (if (decide (y6.1=1))=true then ((mX y6.2 p1 1)>>=fun y8=>some ((aA.mk 3 16 false (bN.mk 0 0 []) [] [] y8.1 ([]:List aQ)),y8.2)) else (if (decide (y6.1=2))=true then ((fV y6.2 2)>>=fun y9=>(mX y9.2 p1 1)>>=fun y10=>some ((aA.mk 5 0 y9.1 (bN.mk 0 0 []) [] [] y10.1 ([]:List aQ)),y10.2)) else (if (decide (y6.1=3))=true then ((fV y6.2 2)>>=fun y11=>(mX y11.2 p1 3)>>=fun y12=>some ((aA.mk 6 0 y11.1 (bN.mk 0 0 []) [] [] y12.1 ([]:List aQ)),y12.2)) else (if (decide (y6.1=4))=true then ((fV y6.2 2)>>=fun y13=>(fI y13.2 2)>>=fun y14=>(mX y14.2 p1 (IntKind.wrap .i64 (2+y14.1)))>>=fun y15=>some ((aA.mk 7 0 y13.1 (bN.mk 0 0 []) [] [] y15.1 ([]:List aQ)),y15.2)) else (if (decide (y6.1=5))=true then (if (decide (1<p1))=true then ((fV y6.2 2)>>=fun y16=>(mX y16.2 p1 1)>>=fun y17=>(vD y17.2 (IntKind.wrap .i64 (p1 - 2)))>>=fun y18=>some ((aA.mk 8 0 y16.1 (bN.mk 0 0 []) [] [] y17.1 ([y18.1]:List aQ)),y18.2)) else (zT p1 y6)) else (if (decide (y6.1=6))=true then (if (decide (1<p1))=true then ((vD y6.2 (IntKind.wrap .i64 (p1 - 2)))>>=fun y19=>some ((aA.mk 9 0 false (bN.mk 0 0 []) [] [] ([]:List aA) ([y19.1]:List aQ)),y19.2)) else (zT p1 y6)) else (zT p1 y6))))))))
  partial_fixpoint
end
def qP (y4:bD×aJ) (uB:Int) (tZ:Int) (sF:(List UInt8)) (uC:(List (List UInt8))) (tF:(List (List aA))) (uA:(List aA)) (uL:(List aA)):Option bD :=
  some (bD.mk uB (aQ.mk y4.1.query.distinct y4.1.query.items y4.1.query.from_ y4.1.query.where_ y4.1.query.order tZ) sF tF uC uA uL)
def aAa (iJ:Int) (y18:(List UInt8)×aJ) (jG:(List (List UInt8))) (jZ:(List aA)) (jY:(List (List aA))) (uO:(List Int)) (uQ:Int) (tL:Int) (vX:(List aA)):Option (bD×aJ) :=
  some ((bD.mk iJ (aQ.mk false ([]:List bH) ([]:List bI) ([]:List aA) ([]:List dU) 0) y18.1 jY jG jZ vX),(aJ.mk uO uQ tL))
def L9 (p1:Int) (iJ:Int) (jG:(List (List UInt8))) (xC:(List Int)) (xD:Int) (yZ:Int) (jZ:(List aA)) (jY:(List (List aA))):Option (bD×aJ) :=
  (sI (aJ.mk xC xD yZ))>>=fun y18=>(if (true&&((!decide (iJ=2))==true))=true then fV y18.2 2 else some ((default:Bool),y18.2))>>=fun y19=>(some (if (!decide (iJ=2))=true then y19.1 else false))>>=fun y20=>if y20=true then ((mX y19.2 p1 1)>>=fun y21=>aAa iJ y18 jG jZ jY y21.2.b y21.2.i y21.2.h y21.1) else (aAa iJ y18 jG jZ jY y19.2.b y19.2.i y19.2.h ([]:List aA))
def vE (p1:Int) (y2:Int×aJ) (x7:Int) (bC:(List Int)) (bJ:Int) (bS:Int) (lM:(List (List aA))):Option (bD×aJ) :=
  if (decide (x7<(IntKind.wrap .i64 (1+y2.1))))=true then ((fI (aJ.mk bC bJ bS) 3)>>=fun y12=>(mX y12.2 p1 (IntKind.wrap .i64 (1+y12.1)))>>=fun y13=>(appG 24 lM ([y13.1]:List (List aA)))>>=fun y14=>vE p1 y2 (IntKind.wrap .i64 (x7+1)) y13.2.b y13.2.i y13.2.h y14) else (L9 p1 2 ([]:List (List UInt8)) bC bJ bS ([]:List aA) lM)
  partial_fixpoint
def vP (p1:Int) (y3:Int×aJ) (x9:Int) (lY:(List (List UInt8))) (mE:(List Int)) (mO:Int) (mU:Int):Option (bD×aJ) :=
  if (decide (x9<(IntKind.wrap .i64 (1+y3.1))))=true then ((sI (aJ.mk mE mO mU))>>=fun y15=>(appG 16 lY ([y15.1]:List (List UInt8)))>>=fun y16=>vP p1 y3 (IntKind.wrap .i64 (x9+1)) y16 y15.2.b y15.2.i y15.2.h) else ((mX (aJ.mk mE mO mU) p1 (IntKind.wrap .i64 (1+y3.1)))>>=fun y17=>L9 p1 3 lY y17.2.b y17.2.i y17.2.h y17.1 ([]:List (List aA)))
  partial_fixpoint
def aAq (p0:aJ) (p1:Int):Option (bD×aJ) :=
  (fI p0 6)>>=fun y1=>if (decide (y1.1=0))=true then ((fI y1.2 2)>>=fun y2=>vE p1 y2 0 y2.2.b y2.2.i y2.2.h ([]:List (List aA))) else (if (decide (y1.1=1))=true then ((fI y1.2 2)>>=fun y3=>vP p1 y3 0 ([]:List (List UInt8)) y3.2.b y3.2.i y3.2.h) else (if (decide (y1.1=2))=true then (L9 p1 4 ([]:List (List UInt8)) y1.2.b y1.2.i y1.2.h ([]:List aA) ([]:List (List aA))) else ((vD y1.2 p1)>>=fun y11=>some ((bD.mk 1 y11.1 [] ([]:List (List aA)) ([]:List (List UInt8)) ([]:List aA) ([]:List aA)),y11.2))))
def aCm (p0:(List Int)):Option bD :=
  (aBn p0)>>=fun y1=>(aC7 p0 3)>>=fun y2=>(fI y1 y2)>>=fun y3=>(aAq y3.2 (IntKind.wrap .i64 (1+y3.1)))>>=fun y4=>(fI y4.2 14)>>=fun y5=>if (decide (y5.1=0))=true then ((fI y5.2 7)>>=fun y6=>qP y4 (IntKind.wrap .i64 (y6.1 - 1)) y4.1.query.limit y4.1.table y4.1.cols y4.1.rows y4.1.sets y4.1.where_) else (if (decide (y5.1=1))=true then ((yB y5.2)>>=fun y7=>qP y4 y4.1.kind y4.1.query.limit y7.1 y4.1.cols y4.1.rows y4.1.sets y4.1.where_) else (if (decide (y5.1=2))=true then ((nZ y5.2 1)>>=fun y8=>(zU y8.2 y8.1)>>=fun y9=>(appG 136 y4.1.where_ ([y9.1]:List aA))>>=fun y10=>qP y4 y4.1.kind y4.1.query.limit y4.1.table y4.1.cols y4.1.rows y4.1.sets y10) else (if (decide (y5.1=3))=true then ((yB y5.2)>>=fun y11=>(appG 16 y4.1.cols ([y11.1]:List (List UInt8)))>>=fun y12=>qP y4 y4.1.kind y4.1.query.limit y4.1.table y12 y4.1.rows y4.1.sets y4.1.where_) else (if (decide (y5.1=4))=true then ((appG 24 y4.1.rows ([([]:List aA)]:List (List aA)))>>=fun y13=>qP y4 y4.1.kind y4.1.query.limit y4.1.table y4.1.cols y13 y4.1.sets y4.1.where_) else (if (decide (y5.1=5))=true then ((fI y5.2 4)>>=fun y14=>qP y4 y4.1.kind (IntKind.wrap .i64 (y14.1 - 2)) y4.1.table y4.1.cols y4.1.rows y4.1.sets y4.1.where_) else (if (decide (y5.1=6))=true then ((aBt y5.2)>>=fun y15=>(appG 136 y4.1.sets ([y15.1]:List aA))>>=fun y16=>qP y4 y4.1.kind y4.1.query.limit y4.1.table y4.1.cols y4.1.rows y16 y4.1.where_) else (qP y4 y4.1.kind y4.1.query.limit y4.1.table y4.1.cols y4.1.rows y4.1.sets y4.1.where_)))))))
def aIe (p0:(List Int)):Option bD :=
  (aCm p0)>>=fun y1=>some y1
def gM (p0:Int) (p1:Int) (p2:Int):Option Bool :=
  (some (if (decide (p1≤p0))=true then (decide (p0≤p2)) else false))>>=fun y1=>some y1
def aMk (p0:Int):Option (List UInt8) :=
  (gM p0 1 28)>>=fun y1=>if (!y1)=true then (some []) else ((aHk)>>=fun y2=>(idx y2 p0)>>=fun y3=>some y3)
def dW (p0:Int):Option aB :=
  (aMk p0)>>=fun y1=>some (aB.mk 1 y1 0)
def qE (p0:(List UInt8)):Option aB :=
  some (aB.mk 2 p0 0)
def wW (p0:(List aB)) (p1:(List UInt8)):Option (List aB) :=
  if (decide (p1=[]))=true then (some p0) else ((dW 12)>>=fun y1=>(qE p1)>>=fun y2=>(appG 32 p0 ([y1,y2]:List aB))>>=fun y3=>some y3)
def aC0 (p1:aA) (x0:(List aB)):Option (List aB) :=
  (qE p1.name)>>=fun y41=>(appG 32 x0 ([y41]:List aB))>>=fun y42=>some y42
def iX (p0:(List UInt8)):Option aB :=
  some (aB.mk 5 p0 0)
def vY:Option Int :=
  some 0
def zV (p0:aA) (x9:Bool):Option Int :=
  if x9=true then (some 4) else (if (decide (p0.kind=3))=true then (if (decide (p0.op=15))=true then (some 3) else (if (decide (p0.op=16))=true then (some 8) else (vY))) else (if (decide (p0.kind=4))=true then ((gM p0.op 1 14)>>=fun y1=>if y1=true then ((idx ([0,1,2,4,4,4,4,4,4,5,6,6,7,7,7]:List Int) p0.op)>>=fun y2=>some y2) else (vY)) else (vY)))
def Y6 (p0:aA) (x5:Bool):Option Int :=
  if x5=true then (some 9) else (if (decide (p0.kind=5))=true then (zV p0 (decide (p0.kind=5))) else (if (decide (p0.kind=6))=true then (zV p0 (decide (p0.kind=6))) else (if (decide (p0.kind=7))=true then (zV p0 (decide (p0.kind=7))) else (zV p0 (decide (p0.kind=8))))))
def J8 (p0:aA):Option Int :=
  if (decide (p0.kind=1))=true then (Y6 p0 (decide (p0.kind=1))) else (if (decide (p0.kind=2))=true then (Y6 p0 (decide (p0.kind=2))) else (Y6 p0 (decide (p0.kind=9))))
def aAm:Option Int :=
  some 5
def aAo (p0:aA) (p1:Int):Option Int :=
  (J8 p0)>>=fun y1=>(gM p1 0 (IntKind.wrap .i64 ((p0.kids.length:Int) - 1)))>>=fun y2=>(some (if (!y2)=true then true else (decide (y1=0))))>>=fun y3=>(some (if y3=true then true else (decide (y1=9))))>>=fun y4=>if y4=true then (some 0) else (if (decide (p0.kind=3))=true then (some y1) else (if (decide (p0.kind=4))=true then (if (decide (y1=4))=true then (some 5) else (if (decide (p1=0))=true then (some y1) else (some (IntKind.wrap .i64 (y1+1))))) else (if (decide (p0.kind=7))=true then (if (decide (0<p1))=true then (some 1) else (aAm)) else (aAm))))
def aBl (p0:aA) (p1:Int):Option Bool :=
  (gM p1 0 (IntKind.wrap .i64 ((p0.kids.length:Int) - 1)))>>=fun y1=>(if (true&&(y1==true))=true then idx p0.kids p1 else some default)>>=fun y2=>(if (true&&(y1==true))=true then J8 y2 else some default)>>=fun y3=>(if (true&&(y1==true))=true then aAo p0 p1 else some default)>>=fun y4=>(some (if y1=true then (decide (y3<y4)) else false))>>=fun y5=>some y5
mutual
def zO (x0:Int) (p0:Int) (x4:(List UInt8)) (x5:Int):Option (List UInt8) :=
  (ofBytes ([(IntKind.wrap .u8 (IntKind.wrap .i64 (48+x5)))]:List Int))>>=fun y2=>(vM y2 x4)>>=fun y3=>wG p0 (IntKind.wrap .i64 (Int.tdiv x0 10)) y3
  partial_fixpoint
def wG (p0:Int) (x0:Int) (x4:(List UInt8)):Option (List UInt8) :=
  if (!decide (x0=0))=true then (if (decide ((Int.tmod x0 10)<0))=true then (zO x0 p0 x4 (IntKind.wrap .i64 (0 - (Int.tmod x0 10)))) else (zO x0 p0 x4 (Int.tmod x0 10))) else (if (decide (p0<0))=true then ((vM [45] x4)>>=fun y1=>some y1) else (some x4))
  partial_fixpoint
end
def P8 (p0:Int):Option (List UInt8) :=
  if (decide (p0=0))=true then (some [48]) else (wG p0 p0 [])
def aB9 (p0:bN):Option aB :=
  if (decide (p0.kind=1))=true then ((P8 p0.num)>>=fun y1=>some (aB.mk 3 y1 0)) else (if (decide (p0.kind=2))=true then (some (aB.mk 4 p0.text 0)) else (if (decide (p0.kind=3))=true then (if (decide (p0.num=1))=true then ((dW 21)>>=fun y2=>some y2) else ((dW 22)>>=fun y3=>some y3)) else ((dW 20)>>=fun y4=>some y4)))
def xR (p0:(List aB)) (p1:aA):Option (List aB) :=
  if p1.not_=true then ((dW 15)>>=fun y1=>(appG 32 p0 ([y1]:List aB))>>=fun y2=>some y2) else (some p0)
def aDo (p0:Int):Option (List UInt8) :=
  (gM p0 1 16)>>=fun y1=>if (!y1)=true then (some []) else ((idx ([[],[79,82],[65,78,68],[61],[60,62],[60],[60,61],[62],[62,61],[124,124],[43],[45],[42],[47],[37],[78,79,84],[45]]:List (List UInt8)) p0)>>=fun y2=>some y2)
def V6 (p0:Int):Option aB :=
  (some (if (decide (p0=1))=true then true else (decide (p0=2))))>>=fun y1=>(some (if y1=true then true else (decide (p0=15))))>>=fun y2=>if y2=true then ((aDo p0)>>=fun y3=>some (aB.mk 1 y3 0)) else ((aDo p0)>>=fun y4=>(iX y4)>>=fun y5=>some y5)
def aC1 (x0:(List aB)):Option (List aB) :=
  (iX [42])>>=fun y6=>(appG 32 x0 ([y6]:List aB))>>=fun y7=>some y7
def U2 (wF:(List aB)):Option (List aB) :=
  some wF
mutual
def vU (p0:(List aB)) (p1:(List aA)) (p2:Bool):Option (List aB) :=
  if (decide ((p1.length:Int)=0))=true then (some p0) else ((dW 6)>>=fun y1=>(appG 32 p0 ([y1]:List aB))>>=fun y2=>(idx p1 0)>>=fun y3=>(jD y2 y3 p2)>>=fun y4=>some y4)
  partial_fixpoint
def aCv (p2:Bool) (x8:Int) (p1:aQ) (oC:(List aB)):Option (List aB) :=
  oU p2 p1 oC (IntKind.wrap .i64 (x8+1))
  partial_fixpoint
def V4 (p2:Bool) (x8:Int) (p1:aQ) (nM:(List aB)):Option (List aB) :=
  (idx p1.order x8)>>=fun y26=>(jD nM y26.expr p2)>>=fun y27=>(idx p1.order x8)>>=fun y28=>if y28.desc=true then ((dW 10)>>=fun y29=>(appG 32 y27 ([y29]:List aB))>>=fun y30=>aCv p2 x8 p1 y30) else (aCv p2 x8 p1 y27)
  partial_fixpoint
def oU (p2:Bool) (p1:aQ) (kR:(List aB)) (x8:Int):Option (List aB) :=
  if (decide (x8<(p1.order.length:Int)))=true then (if (decide (x8=0))=true then ((dW 7)>>=fun y16=>(dW 8)>>=fun y17=>(appG 32 kR ([y16,y17]:List aB))>>=fun y18=>V4 p2 x8 p1 y18) else ((iX [44])>>=fun y20=>(appG 32 kR ([y20]:List aB))>>=fun y21=>V4 p2 x8 p1 y21)) else (if (decide (0≤p1.limit))=true then ((dW 11)>>=fun y22=>(P8 p1.limit)>>=fun y23=>(appG 32 kR ([y22,(aB.mk 3 y23 0)]:List aB))>>=fun y24=>U2 y24) else (U2 kR))
  partial_fixpoint
def G5 (p0:(List aB)) (p1:bH) (p2:Bool):Option (List aB) :=
  if (!p1.star)=true then ((jD p0 p1.expr p2)>>=fun y1=>(wW y1 p1.as_)>>=fun y2=>some y2) else (if (!decide (p1.qual=[]))=true then ((qE p1.qual)>>=fun y3=>(iX [46])>>=fun y4=>(appG 32 p0 ([y3,y4]:List aB))>>=fun y5=>aC1 y5) else (aC1 p0))
  partial_fixpoint
def aAb (p2:Bool) (x7:Int) (p1:aQ) (nQ:(List aB)):Option (List aB) :=
  (idx p1.items x7)>>=fun y14=>(G5 nQ y14 p2)>>=fun y15=>sV p2 p1 y15 (IntKind.wrap .i64 (x7+1))
  partial_fixpoint
def aA9 (p1:(List bI)) (p2:Bool) (x7:Int) (nN:(List aB)):Option (List aB) :=
  uM p1 p2 nN (IntKind.wrap .i64 (x7+1))
  partial_fixpoint
def qJ (p0:(List aB)) (p1:aA) (p2:Int) (p3:Bool):Option (List aB) :=
  (idx p1.kids p2)>>=fun y1=>(aBl p1 p2)>>=fun y2=>(if ((true&&(y2==false))&&(p3==true))=true then J8 y1 else some default)>>=fun y3=>(if (true&&(y2==false))=true then some (if p3=true then (decide (y3<9)) else false) else some default)>>=fun y4=>(some (if y2=true then true else y4))>>=fun y5=>if y5=true then ((iX [40])>>=fun y6=>(appG 32 p0 ([y6]:List aB))>>=fun y7=>(jD y7 y1 p3)>>=fun y8=>(iX [41])>>=fun y9=>(appG 32 y8 ([y9]:List aB))>>=fun y10=>some y10) else ((jD p0 y1 p3)>>=fun y11=>some y11)
  partial_fixpoint
def aBp (p2:Bool) (x7:Int) (p1:aA) (nR:(List aB)):Option (List aB) :=
  (qJ nR p1 x7 p2)>>=fun y48=>yP p2 p1 y48 (IntKind.wrap .i64 (x7+1))
  partial_fixpoint
def yP (p2:Bool) (p1:aA) (lW:(List aB)) (x7:Int):Option (List aB) :=
  if (decide (x7<(p1.kids.length:Int)))=true then (if (decide (1<x7))=true then ((iX [44])>>=fun y43=>(appG 32 lW ([y43]:List aB))>>=fun y44=>aBp p2 x7 p1 y44) else (aBp p2 x7 p1 lW)) else ((iX [41])>>=fun y46=>(appG 32 lW ([y46]:List aB))>>=fun y47=>some y47)
  partial_fixpoint
def jD (p0:(List aB)) (p1:aA) (p2:Bool):Option (List aB) :=
  if (decide (p1.kind=1))=true then ((aB9 p1.value)>>=fun y1=>(appG 32 p0 ([y1]:List aB))>>=fun y2=>some y2) else (if (decide (p1.kind=2))=true then (if (!decide (p1.qual=[]))=true then ((qE p1.qual)>>=fun y3=>(iX [46])>>=fun y4=>(appG 32 p0 ([y3,y4]:List aB))>>=fun y5=>aC0 p1 y5) else (aC0 p1 p0)) else (if (decide (p1.kind=3))=true then ((V6 p1.op)>>=fun y6=>(appG 32 p0 ([y6]:List aB))>>=fun y7=>(qJ y7 p1 0 p2)>>=fun y8=>some y8) else (if (decide (p1.kind=9))=true then ((dW 19)>>=fun y9=>(iX [40])>>=fun y10=>(appG 32 p0 ([y9,y10]:List aB))>>=fun y11=>(idx p1.sub 0)>>=fun y12=>(yU y11 y12 p2)>>=fun y13=>(iX [41])>>=fun y14=>(appG 32 y13 ([y14]:List aB))>>=fun y15=>some y15) else ((qJ p0 p1 0 p2)>>=fun y16=>if (decide (p1.kind=4))=true then ((V6 p1.op)>>=fun y17=>(appG 32 y16 ([y17]:List aB))>>=fun y18=>(qJ y18 p1 1 p2)>>=fun y19=>some y19) else (if (decide (p1.kind=5))=true then ((dW 16)>>=fun y20=>(appG 32 y16 ([y20]:List aB))>>=fun y21=>(xR y21 p1)>>=fun y22=>(dW 20)>>=fun y23=>(appG 32 y22 ([y23]:List aB))>>=fun y24=>some y24) else (if (decide (p1.kind=6))=true then ((xR y16 p1)>>=fun y25=>(dW 18)>>=fun y26=>(appG 32 y25 ([y26]:List aB))>>=fun y27=>(qJ y27 p1 1 p2)>>=fun y28=>(dW 13)>>=fun y29=>(appG 32 y28 ([y29]:List aB))>>=fun y30=>(qJ y30 p1 2 p2)>>=fun y31=>some y31) else ((xR y16 p1)>>=fun y32=>(dW 17)>>=fun y33=>(iX [40])>>=fun y34=>(appG 32 y32 ([y33,y34]:List aB))>>=fun y35=>if (decide (p1.kind=8))=true then ((idx p1.sub 0)>>=fun y36=>(yU y35 y36 p2)>>=fun y37=>(iX [41])>>=fun y38=>(appG 32 y37 ([y38]:List aB))>>=fun y39=>some y39) else (yP p2 p1 y35 1))))))))
  partial_fixpoint
def V8 (p1:(List bI)) (p2:Bool) (x7:Int) (gG:(List aB)):Option (List aB) :=
  (idx p1 x7)>>=fun y11=>(qE y11.table)>>=fun y12=>(appG 32 gG ([y12]:List aB))>>=fun y13=>(idx p1 x7)>>=fun y14=>(wW y13 y14.as_)>>=fun y15=>(idx p1 x7)>>=fun y16=>if (decide (0<(y16.on_.length:Int)))=true then ((dW 5)>>=fun y17=>(appG 32 y15 ([y17]:List aB))>>=fun y18=>(idx p1 x7)>>=fun y19=>(idx y19.on_ 0)>>=fun y20=>(jD y18 y20 p2)>>=fun y21=>aA9 p1 p2 x7 y21) else (aA9 p1 p2 x7 y15)
  partial_fixpoint
def aAu (p1:(List bI)) (p2:Bool) (x7:Int) (fP:(List aB)):Option (List aB) :=
  (if (true&&((decide (0<x7))==true))=true then idx p1 x7 else some default)>>=fun y6=>(some (if (decide (0<x7))=true then (decide ((y6.on_.length:Int)=0)) else false))>>=fun y7=>if y7=true then ((iX [44])>>=fun y8=>(appG 32 fP ([y8]:List aB))>>=fun y9=>V8 p1 p2 x7 y9) else (V8 p1 p2 x7 fP)
  partial_fixpoint
def uM (p1:(List bI)) (p2:Bool) (x0:(List aB)) (x7:Int):Option (List aB) :=
  if (decide (x7<(p1.length:Int)))=true then ((if (true&&((decide (0<x7))==true))=true then idx p1 x7 else some default)>>=fun y1=>(some (if (decide (0<x7))=true then (decide (0<(y1.on_.length:Int))) else false))>>=fun y2=>if y2=true then ((dW 4)>>=fun y3=>(appG 32 x0 ([y3]:List aB))>>=fun y4=>aAu p1 p2 x7 y4) else (aAu p1 p2 x7 x0)) else (some x0)
  partial_fixpoint
def aCs (p0:(List aB)) (p1:(List bI)) (p2:Bool):Option (List aB) :=
  uM p1 p2 p0 0
  partial_fixpoint
def sV (p2:Bool) (p1:aQ) (fP:(List aB)) (x7:Int):Option (List aB) :=
  if (decide (x7<(p1.items.length:Int)))=true then (if (decide (0<x7))=true then ((iX [44])>>=fun y6=>(appG 32 fP ([y6]:List aB))>>=fun y7=>aAb p2 x7 p1 y7) else (aAb p2 x7 p1 fP)) else ((dW 3)>>=fun y9=>(appG 32 fP ([y9]:List aB))>>=fun y10=>(aCs y10 p1.from_ p2)>>=fun y11=>(vU y11 p1.where_ p2)>>=fun y12=>oU p2 p1 y12 0)
  partial_fixpoint
def V9 (p2:Bool) (p1:aQ) (x0:(List aB)):Option (List aB) :=
  sV p2 p1 x0 0
  partial_fixpoint
def yU (p0:(List aB)) (p1:aQ) (p2:Bool):Option (List aB) :=
  (dW 1)>>=fun y1=>(appG 32 p0 ([y1]:List aB))>>=fun y2=>if p1.distinct=true then ((dW 2)>>=fun y3=>(appG 32 y2 ([y3]:List aB))>>=fun y4=>V9 p2 p1 y4) else (V9 p2 p1 y2)
  partial_fixpoint
end
mutual
def X9 (p1:(List (List aA))) (p2:Bool) (x7:Int) (x8:Int) (gG:(List aB)):Option (List aB) :=
  (idx p1 x7)>>=fun y13=>(idx y13 x8)>>=fun y14=>(jD gG y14 p2)>>=fun y15=>K9 p1 p2 x7 y15 (IntKind.wrap .i64 (x8+1))
  partial_fixpoint
def K9 (p1:(List (List aA))) (p2:Bool) (x7:Int) (lX:(List aB)) (x8:Int):Option (List aB) :=
  (idx p1 x7)>>=fun y7=>if (decide (x8<(y7.length:Int)))=true then (if (decide (0<x8))=true then ((iX [44])>>=fun y8=>(appG 32 lX ([y8]:List aB))>>=fun y9=>X9 p1 p2 x7 x8 y9) else (X9 p1 p2 x7 x8 lX)) else ((iX [41])>>=fun y11=>(appG 32 lX ([y11]:List aB))>>=fun y12=>H5 p1 p2 y12 (IntKind.wrap .i64 (x7+1)))
  partial_fixpoint
def aB3 (p1:(List (List aA))) (p2:Bool) (x7:Int) (oD:(List aB)):Option (List aB) :=
  (iX [40])>>=fun y4=>(appG 32 oD ([y4]:List aB))>>=fun y5=>K9 p1 p2 x7 y5 0
  partial_fixpoint
def H5 (p1:(List (List aA))) (p2:Bool) (x0:(List aB)) (x7:Int):Option (List aB) :=
  if (decide (x7<(p1.length:Int)))=true then (if (decide (0<x7))=true then ((iX [44])>>=fun y1=>(appG 32 x0 ([y1]:List aB))>>=fun y2=>aB3 p1 p2 x7 y2) else (aB3 p1 p2 x7 x0)) else (some x0)
  partial_fixpoint
end
def aBe (p0:(List aB)) (p1:(List (List aA))) (p2:Bool):Option (List aB) :=
  H5 p1 p2 p0 0
mutual
def Q3 (p1:Bool) (x6:Int) (p0:bD) (nD:(List aB)):Option (List aB) :=
  (idx p0.cols x6)>>=fun y21=>(qE y21)>>=fun y22=>(iX [61])>>=fun y23=>(appG 32 nD ([y22,y23]:List aB))>>=fun y24=>(idx p0.sets x6)>>=fun y25=>(jD y24 y25 p1)>>=fun y26=>xX p1 p0 y26 (IntKind.wrap .i64 (x6+1))
  partial_fixpoint
def xX (p1:Bool) (p0:bD) (x5:(List aB)) (x6:Int):Option (List aB) :=
  if (decide (x6<(p0.cols.length:Int)))=true then (if (decide (0<x6))=true then ((iX [44])>>=fun y17=>(appG 32 x5 ([y17]:List aB))>>=fun y18=>Q3 p1 x6 p0 y18) else (Q3 p1 x6 p0 x5)) else ((vU x5 p0.where_ p1)>>=fun y20=>some y20)
  partial_fixpoint
end
def uJ (p0:bD) (p1:Bool):Option (List aB) :=
  if (decide (p0.kind=1))=true then ((yU ([]:List aB) p0.query p1)>>=fun y1=>some y1) else (if (decide (p0.kind=2))=true then ((dW 23)>>=fun y2=>(dW 24)>>=fun y3=>(qE p0.table)>>=fun y4=>(dW 25)>>=fun y5=>(appG 32 ([]:List aB) ([y2,y3,y4,y5]:List aB))>>=fun y6=>(aBe y6 p0.rows p1)>>=fun y7=>some y7) else (if (decide (p0.kind=3))=true then ((dW 26)>>=fun y8=>(qE p0.table)>>=fun y9=>(dW 27)>>=fun y10=>(appG 32 ([]:List aB) ([y8,y9,y10]:List aB))>>=fun y11=>xX p1 p0 y11 0) else ((dW 28)>>=fun y12=>(dW 3)>>=fun y13=>(qE p0.table)>>=fun y14=>(appG 32 ([]:List aB) ([y12,y13,y14]:List aB))>>=fun y15=>(vU y15 p0.where_ p1)>>=fun y16=>some y16)))
def qD (p0:Int) (p1:Int):Option Int :=
  if (decide (p1<p0))=true then (some p0) else (some p1)
def yJ (p0:aQ) (jR:(List aA)) (x6:Int):Option (List aA) :=
  if (decide (x6<(p0.order.length:Int)))=true then ((idx p0.order x6)>>=fun y10=>(appG 136 jR ([y10.expr]:List aA))>>=fun y11=>yJ p0 y11 (IntKind.wrap .i64 (x6+1))) else (some jR)
  partial_fixpoint
def zK (p0:aQ) (mK:(List aA)) (x5:Int):Option (List aA) :=
  if (decide (x5<(p0.from_.length:Int)))=true then ((idx p0.from_ x5)>>=fun y6=>(appG 136 mK y6.on_)>>=fun y7=>zK p0 y7 (IntKind.wrap .i64 (x5+1))) else ((appG 136 mK p0.where_)>>=fun y8=>yJ p0 y8 0)
  partial_fixpoint
mutual
def R3 (x4:Int) (p0:aQ) (dF:(List aA)):Option (List aA) :=
  U6 p0 dF (IntKind.wrap .i64 (x4+1))
  partial_fixpoint
def U6 (p0:aQ) (x3:(List aA)) (x4:Int):Option (List aA) :=
  if (decide (x4<(p0.items.length:Int)))=true then ((idx p0.items x4)>>=fun y1=>if (!y1.star)=true then ((idx p0.items x4)>>=fun y2=>(appG 136 x3 ([y2.expr]:List aA))>>=fun y3=>R3 x4 p0 y3) else (R3 x4 p0 x3)) else (zK p0 x3 0)
  partial_fixpoint
end
def rV (p0:aQ):Option (List aA) :=
  U6 p0 ([]:List aA) 0
mutual
def J5 (y1:(List aA)) (x3:Int) (x5:Int):Option Int :=
  if (decide (x5<(y1.length:Int)))=true then ((idx y1 x5)>>=fun y2=>(kG y2)>>=fun y3=>(qD x3 y3)>>=fun y4=>J5 y1 y4 (IntKind.wrap .i64 (x5+1))) else (some x3)
  partial_fixpoint
def yX (p0:aQ):Option Int :=
  (rV p0)>>=fun y1=>J5 y1 0 0
  partial_fixpoint
def zZ (p0:aA) (dF:Int) (x5:Int):Option Int :=
  if (decide (x5<(p0.sub.length:Int)))=true then ((idx p0.sub x5)>>=fun y5=>(yX y5)>>=fun y6=>(qD dF y6)>>=fun y7=>zZ p0 y7 (IntKind.wrap .i64 (x5+1))) else (some (IntKind.wrap .i64 (dF+1)))
  partial_fixpoint
def O7 (p0:aA) (x3:Int) (x4:Int):Option Int :=
  if (decide (x4<(p0.kids.length:Int)))=true then ((idx p0.kids x4)>>=fun y1=>(kG y1)>>=fun y2=>(qD x3 y2)>>=fun y3=>O7 p0 y3 (IntKind.wrap .i64 (x4+1))) else (zZ p0 x3 0)
  partial_fixpoint
def kG (p0:aA):Option Int :=
  O7 p0 0 0
  partial_fixpoint
end
mutual
def wS (x6:Int) (y7:(List aA)) (p0:aA) (kZ:Int) (x8:Int):Option Int :=
  (some (if (decide (x8<(y7.length:Int)))=true then (decide (0≤kZ)) else false))>>=fun y9=>if y9=true then ((idx y7 x8)>>=fun y10=>(wU y10 kZ)>>=fun y11=>wS x6 y7 p0 y11 (IntKind.wrap .i64 (x8+1))) else (uY p0 kZ (IntKind.wrap .i64 (x6+1)))
  partial_fixpoint
def uY (p0:aA) (fJ:Int) (x6:Int):Option Int :=
  (some (if (decide (x6<(p0.sub.length:Int)))=true then (decide (0≤fJ)) else false))>>=fun y5=>if y5=true then ((idx p0.sub x6)>>=fun y6=>(rV y6)>>=fun y7=>wS x6 y7 p0 fJ 0) else (some fJ)
  partial_fixpoint
def G8 (p0:aA) (x1:Int) (x5:Int):Option Int :=
  (some (if (decide (x5<(p0.kids.length:Int)))=true then (decide (0≤x1)) else false))>>=fun y1=>if y1=true then ((idx p0.kids x5)>>=fun y2=>(wU y2 x1)>>=fun y3=>G8 p0 y3 (IntKind.wrap .i64 (x5+1))) else (uY p0 x1 0)
  partial_fixpoint
def wU (p0:aA) (p1:Int):Option Int :=
  G8 p0 (IntKind.wrap .i64 (p1 - 1)) 0
  partial_fixpoint
end
def mQ (p0:(List UInt8)):Option Bool :=
  (gM (p0.length:Int) 1 20)>>=fun y1=>some y1
def pE (p0:(List UInt8)):Option Bool :=
  (if (true&&((decide (p0=[]))==false))=true then mQ p0 else some default)>>=fun y1=>(some (if (decide (p0=[]))=true then true else y1))>>=fun y2=>some y2
mutual
def aA5 (p0:aQ) (p1:aQ) (x11:Int):Option Bool :=
  if (decide (x11<(p0.order.length:Int)))=true then ((idx p0.order x11)>>=fun y18=>(idx p1.order x11)>>=fun y19=>(if (true&&((!(y18.desc==y19.desc))==false))=true then idx p0.order x11 else some default)>>=fun y20=>(if (true&&((!(y18.desc==y19.desc))==false))=true then idx p1.order x11 else some default)>>=fun y21=>(if (true&&((!(y18.desc==y19.desc))==false))=true then tH y20.expr y21.expr else some default)>>=fun y22=>(some (if (!(y18.desc==y19.desc))=true then true else (!y22)))>>=fun y23=>if y23=true then (some false) else (aA5 p0 p1 (IntKind.wrap .i64 (x11+1)))) else (some true)
  partial_fixpoint
def aCa (p0:aQ) (p1:aQ) (x8:Int):Option Bool :=
  if (decide (x8<(p0.from_.length:Int)))=true then ((idx p0.from_ x8)>>=fun y13=>(idx p1.from_ x8)>>=fun y14=>(some (if (!decide (y13.table=y14.table))=true then true else (!decide (y13.as_=y14.as_))))>>=fun y15=>(if (true&&(y15==false))=true then wB y13.on_ y14.on_ else some default)>>=fun y16=>(some (if y15=true then true else (!y16)))>>=fun y17=>if y17=true then (some false) else (aCa p0 p1 (IntKind.wrap .i64 (x8+1)))) else (aA5 p0 p1 0)
  partial_fixpoint
def M5 (p0:aQ) (p1:aQ) (x5:Int):Option Bool :=
  if (decide (x5<(p0.items.length:Int)))=true then ((idx p0.items x5)>>=fun y7=>(idx p1.items x5)>>=fun y8=>(some (if (!(y7.star==y8.star))=true then true else (!decide (y7.qual=y8.qual))))>>=fun y9=>(some (if y9=true then true else (!decide (y7.as_=y8.as_))))>>=fun y10=>(if (true&&(y10==false))=true then tH y7.expr y8.expr else some default)>>=fun y11=>(some (if y10=true then true else (!y11)))>>=fun y12=>if y12=true then (some false) else (M5 p0 p1 (IntKind.wrap .i64 (x5+1)))) else (aCa p0 p1 0)
  partial_fixpoint
def Z5 (p0:aQ) (p1:aQ):Option Bool :=
  (some (if (!(p0.distinct==p1.distinct))=true then true else (!decide (p0.limit=p1.limit))))>>=fun y1=>(some (if y1=true then true else (!decide ((p0.items.length:Int)=(p1.items.length:Int)))))>>=fun y2=>(some (if y2=true then true else (!decide ((p0.from_.length:Int)=(p1.from_.length:Int)))))>>=fun y3=>(some (if y3=true then true else (!decide ((p0.order.length:Int)=(p1.order.length:Int)))))>>=fun y4=>(if (true&&(y4==false))=true then wB p0.where_ p1.where_ else some default)>>=fun y5=>(some (if y4=true then true else (!y5)))>>=fun y6=>if y6=true then (some false) else (M5 p0 p1 0)
  partial_fixpoint
def Y7 (p0:aA) (p1:aA) (x5:Int):Option Bool :=
  if (decide (x5<(p0.sub.length:Int)))=true then ((idx p0.sub x5)>>=fun y9=>(idx p1.sub x5)>>=fun y10=>(Z5 y9 y10)>>=fun y11=>if (!y11)=true then (some false) else (Y7 p0 p1 (IntKind.wrap .i64 (x5+1)))) else (some true)
  partial_fixpoint
def V3 (p0:(List aA)) (p1:(List aA)) (x5:Int):Option Bool :=
  if (decide (x5<(p0.length:Int)))=true then ((idx p0 x5)>>=fun y1=>(idx p1 x5)>>=fun y2=>(tH y1 y2)>>=fun y3=>if (!y3)=true then (some false) else (V3 p0 p1 (IntKind.wrap .i64 (x5+1)))) else (some true)
  partial_fixpoint
def wB (p0:(List aA)) (p1:(List aA)):Option Bool :=
  if (!decide ((p0.length:Int)=(p1.length:Int)))=true then (some false) else (V3 p0 p1 0)
  partial_fixpoint
def tH (p0:aA) (p1:aA):Option Bool :=
  (some (if (!decide (p0.kind=p1.kind))=true then true else (!decide (p0.op=p1.op))))>>=fun y1=>(some (if y1=true then true else (!(p0.not_==p1.not_))))>>=fun y2=>(some (if y2=true then true else (!((decide (p0.value.kind=p1.value.kind))&&((decide (p0.value.num=p1.value.num))&&((decide (p0.value.text=p1.value.text))&&true))))))>>=fun y3=>(some (if y3=true then true else (!decide (p0.qual=p1.qual))))>>=fun y4=>(some (if y4=true then true else (!decide (p0.name=p1.name))))>>=fun y5=>(some (if y5=true then true else (!decide ((p0.sub.length:Int)=(p1.sub.length:Int)))))>>=fun y6=>(if (true&&(y6==false))=true then wB p0.kids p1.kids else some default)>>=fun y7=>(some (if y6=true then true else (!y7)))>>=fun y8=>if y8=true then (some false) else (Y7 p0 p1 0)
  partial_fixpoint
end
def P7 (p0:bN):Option Bool :=
  if (decide (p0.kind=0))=true then ((some (if (decide (p0.num=0))=true then (decide (p0.text=[])) else false))>>=fun y1=>some y1) else (if (decide (p0.kind=1))=true then (some (decide (p0.text=[]))) else (if (decide (p0.kind=2))=true then ((some (if (decide (p0.num=0))=true then (decide ((p0.text.length:Int)≤200)) else false))>>=fun y2=>some y2) else (if (decide (p0.kind=3))=true then ((gM p0.num 0 1)>>=fun y3=>(some (if y3=true then (decide (p0.text=[])) else false))>>=fun y4=>some y4) else (some false))))
def U3 (p0:bN):Option Bool :=
  (P7 p0)>>=fun y1=>(if (true&&(y1==true))=true then some (if (!decide (p0.kind=1))=true then true else (decide (0≤p0.num))) else some default)>>=fun y2=>(some (if y1=true then y2 else false))>>=fun y3=>(some (if y3=true then (decide ((p0.text.length:Int)≤40)) else false))>>=fun y4=>some y4
def zN (p0:aA):Option Bool :=
  (if (true&&((!decide (p0.kind=2))==true))=true then some (if (!decide (p0.qual=[]))=true then true else (!decide (p0.name=[]))) else some default)>>=fun y1=>(some (if (!decide (p0.kind=2))=true then y1 else false))>>=fun y2=>(if (true&&(y2==false))=true then some (if (!decide (p0.kind=1))=true then (!((decide (p0.value.kind=0))&&((decide (p0.value.num=0))&&((decide (p0.value.text=[]))&&true)))) else false) else some default)>>=fun y3=>(some (if y2=true then true else y3))>>=fun y4=>if y4=true then (some false) else ((some (if (!decide (p0.kind=3))=true then (!decide (p0.kind=4)) else false))>>=fun y5=>(some (if y5=true then (!decide (p0.op=0)) else false))>>=fun y6=>(if ((true&&(y6==false))&&(p0.not_==true))=true then gM p0.kind 5 8 else some default)>>=fun y7=>(if (true&&(y6==false))=true then some (if p0.not_=true then (!y7) else false) else some default)>>=fun y8=>(some (if y6=true then true else y8))>>=fun y9=>if y9=true then (some false) else (if (decide (p0.kind=1))=true then ((U3 p0.value)>>=fun y10=>(some (if y10=true then (decide ((IntKind.wrap .i64 ((p0.kids.length:Int)+(p0.sub.length:Int)))=0)) else false))>>=fun y11=>some y11) else (if (decide (p0.kind=2))=true then ((mQ p0.name)>>=fun y12=>(if (true&&(y12==true))=true then pE p0.qual else some default)>>=fun y13=>(some (if y12=true then y13 else false))>>=fun y14=>(some (if y14=true then (decide ((IntKind.wrap .i64 ((p0.kids.length:Int)+(p0.sub.length:Int)))=0)) else false))>>=fun y15=>some y15) else (if (decide (p0.kind=3))=true then ((some (if (decide (p0.op=15))=true then true else (decide (p0.op=16))))>>=fun y16=>(some (if y16=true then (decide ((p0.kids.length:Int)=1)) else false))>>=fun y17=>(some (if y17=true then (decide ((p0.sub.length:Int)=0)) else false))>>=fun y18=>some y18) else (if (decide (p0.kind=4))=true then ((gM p0.op 1 14)>>=fun y19=>(some (if y19=true then (decide ((p0.kids.length:Int)=2)) else false))>>=fun y20=>(some (if y20=true then (decide ((p0.sub.length:Int)=0)) else false))>>=fun y21=>some y21) else (if (decide (p0.kind=5))=true then ((some (if (decide ((p0.kids.length:Int)=1))=true then (decide ((p0.sub.length:Int)=0)) else false))>>=fun y22=>some y22) else (if (decide (p0.kind=6))=true then ((some (if (decide ((p0.kids.length:Int)=3))=true then (decide ((p0.sub.length:Int)=0)) else false))>>=fun y23=>some y23) else (if (decide (p0.kind=7))=true then ((gM (p0.kids.length:Int) 2 9)>>=fun y24=>(some (if y24=true then (decide ((p0.sub.length:Int)=0)) else false))>>=fun y25=>some y25) else (if (decide (p0.kind=8))=true then ((some (if (decide ((p0.kids.length:Int)=1))=true then (decide ((p0.sub.length:Int)=1)) else false))>>=fun y26=>some y26) else (if (decide (p0.kind=9))=true then ((some (if (decide ((p0.kids.length:Int)=0))=true then (decide ((p0.sub.length:Int)=1)) else false))>>=fun y27=>some y27) else (some false)))))))))))
mutual
def qO (y24:(List aA)) (x8:Int):Option Bool :=
  if (decide (x8<(y24.length:Int)))=true then ((idx y24 x8)>>=fun y25=>(gN y25)>>=fun y26=>if (!y26)=true then (some false) else (qO y24 (IntKind.wrap .i64 (x8+1)))) else (some true)
  partial_fixpoint
def qK (p0:aQ) (x5:Int):Option Bool :=
  if (decide (x5<(p0.from_.length:Int)))=true then ((idx p0.from_ x5)>>=fun y17=>(mQ y17.table)>>=fun y18=>(if (true&&((!y18)==false))=true then pE y17.as_ else some default)>>=fun y19=>(some (if (!y18)=true then true else (!y19)))>>=fun y20=>(some (if y20=true then true else (decide (1<(y17.on_.length:Int)))))>>=fun y21=>(if (true&&(y21==false))=true then some (if (decide (x5=0))=true then (decide (0<(y17.on_.length:Int))) else false) else some default)>>=fun y22=>(some (if y21=true then true else y22))>>=fun y23=>if y23=true then (some false) else (qK p0 (IntKind.wrap .i64 (x5+1)))) else ((rV p0)>>=fun y24=>qO y24 0)
  partial_fixpoint
def qG (p0:aQ) (x3:Int):Option Bool :=
  if (decide (x3<(p0.items.length:Int)))=true then ((idx p0.items x3)>>=fun y7=>(if (true&&(y7.star==true))=true then pE y7.qual else some default)>>=fun y8=>(if (true&&(y7.star==true))=true then some (if (!y8)=true then true else (!decide (y7.as_=[]))) else some default)>>=fun y9=>(if ((true&&(y7.star==true))&&(y9==false))=true then tH y7.expr (aA.mk 0 0 false (bN.mk 0 0 []) [] [] ([]:List aA) ([]:List aQ)) else some default)>>=fun y10=>(if (true&&(y7.star==true))=true then some (if y9=true then true else (!y10)) else some default)>>=fun y11=>(some (if y7.star=true then y11 else false))>>=fun y12=>(if (((true&&(y12==false))&&((!y7.star)==true))&&((!decide (y7.qual=[]))==false))=true then pE y7.as_ else some default)>>=fun y13=>(if ((true&&(y12==false))&&((!y7.star)==true))=true then some (if (!decide (y7.qual=[]))=true then true else (!y13)) else some default)>>=fun y14=>(if (true&&(y12==false))=true then some (if (!y7.star)=true then y14 else false) else some default)>>=fun y15=>(some (if y12=true then true else y15))>>=fun y16=>if y16=true then (some false) else (qG p0 (IntKind.wrap .i64 (x3+1)))) else (qK p0 0)
  partial_fixpoint
def nP (p0:aQ):Option Bool :=
  (gM (p0.items.length:Int) 1 12)>>=fun y1=>(if (true&&((!y1)==false))=true then gM (p0.from_.length:Int) 1 3 else some default)>>=fun y2=>(some (if (!y1)=true then true else (!y2)))>>=fun y3=>(some (if y3=true then true else (decide (1<(p0.where_.length:Int)))))>>=fun y4=>(some (if y4=true then true else (decide (12<(p0.order.length:Int)))))>>=fun y5=>(some (if y5=true then true else (decide (p0.limit<(-1)))))>>=fun y6=>if y6=true then (some false) else (qG p0 0)
  partial_fixpoint
def qV (p0:aA) (x3:Int):Option Bool :=
  if (decide (x3<(p0.kids.length:Int)))=true then ((idx p0.kids x3)>>=fun y2=>(gN y2)>>=fun y3=>if (!y3)=true then (some false) else (qV p0 (IntKind.wrap .i64 (x3+1)))) else ((if (true&&((decide ((p0.sub.length:Int)=0))==false))=true then idx p0.sub 0 else some default)>>=fun y4=>(if (true&&((decide ((p0.sub.length:Int)=0))==false))=true then nP y4 else some default)>>=fun y5=>(some (if (decide ((p0.sub.length:Int)=0))=true then true else y5))>>=fun y6=>some y6)
  partial_fixpoint
def gN (p0:aA):Option Bool :=
  (zN p0)>>=fun y1=>if (!y1)=true then (some false) else (qV p0 0)
  partial_fixpoint
end
def D8 (p0:aA):Option Bool :=
  (wU p0 200)>>=fun y1=>(if (true&&((decide (0≤y1))==true))=true then gN p0 else some default)>>=fun y2=>(some (if (decide (0≤y1))=true then y2 else false))>>=fun y3=>(if (true&&(y3==true))=true then kG p0 else some default)>>=fun y4=>(some (if y3=true then (decide (y4≤24)) else false))>>=fun y5=>some y5
def zG (p0:(List aA)) (x3:Int):Option Bool :=
  if (decide (x3<(p0.length:Int)))=true then ((idx p0 x3)>>=fun y1=>(D8 y1)>>=fun y2=>if (!y2)=true then (some false) else (zG p0 (IntKind.wrap .i64 (x3+1)))) else (some true)
  partial_fixpoint
def qB (p0:(List aA)):Option Bool :=
  zG p0 0
def uZ (y1:Bool) (y2:Bool) (p0:bD) (x9:Int):Option Bool :=
  if (decide (x9<(p0.rows.length:Int)))=true then ((idx p0.rows x9)>>=fun y11=>(gM (y11.length:Int) 1 12)>>=fun y12=>(if (true&&((!y12)==false))=true then idx p0.rows x9 else some default)>>=fun y13=>(if (true&&((!y12)==false))=true then qB y13 else some default)>>=fun y14=>(some (if (!y12)=true then true else (!y14)))>>=fun y15=>if y15=true then (some false) else (uZ y1 y2 p0 (IntKind.wrap .i64 (x9+1)))) else ((some (if y1=true then y2 else false))>>=fun y16=>(if (true&&(y16==true))=true then gM (p0.rows.length:Int) 1 5 else some default)>>=fun y17=>(some (if y16=true then y17 else false))>>=fun y18=>(some (if y18=true then (decide ((IntKind.wrap .i64 ((IntKind.wrap .i64 ((p0.cols.length:Int)+(p0.sets.length:Int)))+(p0.where_.length:Int)))=0)) else false))>>=fun y19=>some y19)
  partial_fixpoint
def vG (y1:Bool) (y2:Bool) (p0:bD) (x10:Int):Option Bool :=
  if (decide (x10<(p0.cols.length:Int)))=true then ((idx p0.cols x10)>>=fun y20=>(mQ y20)>>=fun y21=>if (!y21)=true then (some false) else (vG y1 y2 p0 (IntKind.wrap .i64 (x10+1)))) else ((some (if y1=true then y2 else false))>>=fun y22=>(some (if y22=true then (decide ((p0.rows.length:Int)=0)) else false))>>=fun y23=>(if (true&&(y23==true))=true then gM (p0.cols.length:Int) 1 12 else some default)>>=fun y24=>(some (if y23=true then y24 else false))>>=fun y25=>(some (if y25=true then (decide ((p0.sets.length:Int)=(p0.cols.length:Int))) else false))>>=fun y26=>(some (if y26=true then (decide ((p0.where_.length:Int)≤1)) else false))>>=fun y27=>(if (true&&(y27==true))=true then qB p0.sets else some default)>>=fun y28=>(some (if y27=true then y28 else false))>>=fun y29=>(if (true&&(y29==true))=true then qB p0.where_ else some default)>>=fun y30=>(some (if y29=true then y30 else false))>>=fun y31=>some y31)
  partial_fixpoint
mutual
def yQ (p0:aA) (dX:Int) (x5:Int):Option Int :=
  if (decide (x5<(p0.sub.length:Int)))=true then ((idx p0.sub x5)>>=fun y4=>(xJ y4)>>=fun y5=>yQ p0 (IntKind.wrap .i64 (dX+y5)) (IntKind.wrap .i64 (x5+1))) else (some dX)
  partial_fixpoint
def Z8 (p0:aA) (x3:Int) (x4:Int):Option Int :=
  if (decide (x4<(p0.kids.length:Int)))=true then ((idx p0.kids x4)>>=fun y1=>(lU y1)>>=fun y2=>Z8 p0 (IntKind.wrap .i64 (x3+y2)) (IntKind.wrap .i64 (x4+1))) else (yQ p0 x3 0)
  partial_fixpoint
def lU (p0:aA):Option Int :=
  Z8 p0 1 0
  partial_fixpoint
def N9 (y1:(List aA)) (x3:Int) (x5:Int):Option Int :=
  if (decide (x5<(y1.length:Int)))=true then ((idx y1 x5)>>=fun y2=>(lU y2)>>=fun y3=>N9 y1 (IntKind.wrap .i64 (x3+y3)) (IntKind.wrap .i64 (x5+1))) else (some x3)
  partial_fixpoint
def xJ (p0:aQ):Option Int :=
  (rV p0)>>=fun y1=>N9 y1 0 0
  partial_fixpoint
end
def aBq (p0:aQ):Option Bool :=
  (nP p0)>>=fun y1=>(if (true&&(y1==true))=true then yX p0 else some default)>>=fun y2=>(some (if y1=true then (decide (y2≤24)) else false))>>=fun y3=>(if (true&&(y3==true))=true then xJ p0 else some default)>>=fun y4=>(some (if y3=true then (decide (y4≤200)) else false))>>=fun y5=>some y5
def aCf (p0:bD):Option Bool :=
  (Z5 p0.query (aQ.mk false ([]:List bH) ([]:List bI) ([]:List aA) ([]:List dU) 0))>>=fun y1=>(mQ p0.table)>>=fun y2=>if (decide (p0.kind=1))=true then ((aBq p0.query)>>=fun y3=>(some (if y3=true then (decide (p0.table=[])) else false))>>=fun y4=>(some (if y4=true then (decide ((IntKind.wrap .i64 ((IntKind.wrap .i64 ((IntKind.wrap .i64 ((p0.rows.length:Int)+(p0.cols.length:Int)))+(p0.sets.length:Int)))+(p0.where_.length:Int)))=0)) else false))>>=fun y5=>some y5) else (if (decide (p0.kind=2))=true then (uZ y1 y2 p0 0) else (if (decide (p0.kind=3))=true then (vG y1 y2 p0 0) else (if (decide (p0.kind=4))=true then ((some (if y1=true then y2 else false))>>=fun y6=>(some (if y6=true then (decide ((IntKind.wrap .i64 ((IntKind.wrap .i64 ((p0.rows.length:Int)+(p0.cols.length:Int)))+(p0.sets.length:Int)))=0)) else false))>>=fun y7=>(some (if y7=true then (decide ((p0.where_.length:Int)≤1)) else false))>>=fun y8=>(if (true&&(y8==true))=true then qB p0.where_ else some default)>>=fun y9=>(some (if y8=true then y9 else false))>>=fun y10=>some y10) else (some false))))
def I5 (p0:bD) (x3:(List aA)) (x4:Int):Option (List aA) :=
  if (decide (x4<(p0.rows.length:Int)))=true then ((idx p0.rows x4)>>=fun y2=>(appG 136 x3 y2)>>=fun y3=>I5 p0 y3 (IntKind.wrap .i64 (x4+1))) else ((appG 136 x3 p0.sets)>>=fun y4=>(appG 136 y4 p0.where_)>>=fun y5=>some y5)
  partial_fixpoint
def M7 (p0:bD):Option (List aA) :=
  (rV p0.query)>>=fun y1=>I5 p0 y1 0
def A9 (y1:(List aA)) (x3:Int) (x5:Int):Option Int :=
  if (decide (x5<(y1.length:Int)))=true then ((idx y1 x5)>>=fun y2=>(kG y2)>>=fun y3=>(qD x3 y3)>>=fun y4=>A9 y1 y4 (IntKind.wrap .i64 (x5+1))) else (some x3)
  partial_fixpoint
def aBb (p0:bD):Option Int :=
  (M7 p0)>>=fun y1=>A9 y1 0 0
def F6 (y1:(List aA)) (x3:Int) (x5:Int):Option Int :=
  if (decide (x5<(y1.length:Int)))=true then ((idx y1 x5)>>=fun y2=>(lU y2)>>=fun y3=>F6 y1 (IntKind.wrap .i64 (x3+y3)) (IntKind.wrap .i64 (x5+1))) else (some x3)
  partial_fixpoint
def aCu (p0:bD):Option Int :=
  (M7 p0)>>=fun y1=>F6 y1 0 0
def aBz (p0:bD):Option Bool :=
  (aCf p0)>>=fun y1=>(if (true&&(y1==true))=true then aBb p0 else some default)>>=fun y2=>(some (if y1=true then (decide (y2≤24)) else false))>>=fun y3=>(if (true&&(y3==true))=true then aCu p0 else some default)>>=fun y4=>(some (if y3=true then (decide (y4≤200)) else false))>>=fun y5=>some y5
def aBh (p0:bD):Option (List aB) :=
  (aBz p0)>>=fun y1=>if (!y1)=true then (some ([]:List aB)) else ((uJ p0 false)>>=fun y2=>some y2)
def xO (p0:(List (List UInt8))) (p1:(List UInt8)) (x5:Int):Option Bool :=
  if (decide (x5<(p0.length:Int)))=true then ((idx p0 x5)>>=fun y1=>if (decide (y1=p1))=true then (some true) else (xO p0 p1 (IntKind.wrap .i64 (x5+1)))) else (some false)
  partial_fixpoint
def aBm (p0:(List (List UInt8))) (p1:(List UInt8)):Option Bool :=
  xO p0 p1 0
def F3 (p0:(List (List UInt8))) (p1:(List UInt8)):Option (List (List UInt8)) :=
  (if (true&&((decide (p1=[]))==false))=true then aBm p0 p1 else some default)>>=fun y1=>(some (if (decide (p1=[]))=true then true else y1))>>=fun y2=>if y2=true then (some p0) else ((appG 16 p0 ([p1]:List (List UInt8)))>>=fun y3=>some y3)
mutual
def qI (p0:aA) (lJ:(List (List UInt8))) (x6:Int):Option (List (List UInt8)) :=
  if (decide (x6<(p0.sub.length:Int)))=true then ((idx p0.sub x6)>>=fun y4=>(wP y4 lJ)>>=fun y5=>qI p0 y5 (IntKind.wrap .i64 (x6+1))) else (some lJ)
  partial_fixpoint
def tJ (p0:aA) (x1:(List (List UInt8))) (x5:Int):Option (List (List UInt8)) :=
  if (decide (x5<(p0.kids.length:Int)))=true then ((idx p0.kids x5)>>=fun y1=>(jU y1 x1)>>=fun y2=>tJ p0 y2 (IntKind.wrap .i64 (x5+1))) else (qI p0 x1 0)
  partial_fixpoint
def jU (p0:aA) (p1:(List (List UInt8))):Option (List (List UInt8)) :=
  tJ p0 p1 0
  partial_fixpoint
def K4 (y3:(List aA)) (fJ:(List (List UInt8))) (x7:Int):Option (List (List UInt8)) :=
  if (decide (x7<(y3.length:Int)))=true then ((idx y3 x7)>>=fun y5=>(jU y5 fJ)>>=fun y6=>K4 y3 y6 (IntKind.wrap .i64 (x7+1))) else (some fJ)
  partial_fixpoint
def M3 (p0:aQ) (x1:(List (List UInt8))) (x5:Int):Option (List (List UInt8)) :=
  if (decide (x5<(p0.from_.length:Int)))=true then ((idx p0.from_ x5)>>=fun y1=>(F3 x1 y1.table)>>=fun y2=>M3 p0 y2 (IntKind.wrap .i64 (x5+1))) else ((rV p0)>>=fun y3=>K4 y3 x1 0)
  partial_fixpoint
def wP (p0:aQ) (p1:(List (List UInt8))):Option (List (List UInt8)) :=
  M3 p0 p1 0
  partial_fixpoint
end
def yF (p0:bD) (lC:(List (List UInt8))) (x7:Int):Option (List (List UInt8)) :=
  if (decide (x7<(p0.where_.length:Int)))=true then ((idx p0.where_ x7)>>=fun y12=>(jU y12 lC)>>=fun y13=>yF p0 y13 (IntKind.wrap .i64 (x7+1))) else (some lC)
  partial_fixpoint
def yD (p0:bD) (dF:(List (List UInt8))) (x6:Int):Option (List (List UInt8)) :=
  if (decide (x6<(p0.sets.length:Int)))=true then ((idx p0.sets x6)>>=fun y9=>(jU y9 dF)>>=fun y10=>yD p0 y10 (IntKind.wrap .i64 (x6+1))) else (yF p0 dF 0)
  partial_fixpoint
mutual
def yC (x4:Int) (p0:bD) (dX:(List (List UInt8))) (x5:Int):Option (List (List UInt8)) :=
  (idx p0.rows x4)>>=fun y5=>if (decide (x5<(y5.length:Int)))=true then ((idx p0.rows x4)>>=fun y6=>(idx y6 x5)>>=fun y7=>(jU y7 dX)>>=fun y8=>yC x4 p0 y8 (IntKind.wrap .i64 (x5+1))) else (wH p0 dX (IntKind.wrap .i64 (x4+1)))
  partial_fixpoint
def wH (p0:bD) (x3:(List (List UInt8))) (x4:Int):Option (List (List UInt8)) :=
  if (decide (x4<(p0.rows.length:Int)))=true then (yC x4 p0 x3 0) else (yD p0 x3 0)
  partial_fixpoint
end
def aAv (p0:bD):Option (List (List UInt8)) :=
  (F3 ([]:List (List UInt8)) p0.table)>>=fun y1=>(wP p0.query y1)>>=fun y2=>wH p0 y2 0
def aIa (p0:(List Int)):Option Bool :=
  some (decide (1048576<(p0.length:Int)))
mutual
def wQ (y3:(List (List UInt8))) (y5:(List aB)) (x6:Int) (x8:Bool) (x9:Int):Option Bool :=
  if (decide (x9<(y5.length:Int)))=true then ((if (true&&(x8==false))=true then idx y5 x9 else some default)>>=fun y8=>(if ((true&&(x8==false))&&((decide (y8.kind=2))==true))=true then idx y5 x9 else some default)>>=fun y9=>(if ((true&&(x8==false))&&((decide (y8.kind=2))==true))=true then idx y3 x6 else some default)>>=fun y10=>(if (true&&(x8==false))=true then some (if (decide (y8.kind=2))=true then (decide (y9.text=y10)) else false) else some default)>>=fun y11=>(some (if x8=true then true else y11))>>=fun y12=>wQ y3 y5 x6 y12 (IntKind.wrap .i64 (x9+1))) else (if (!x8)=true then (some false) else (wC y3 y5 (IntKind.wrap .i64 (x6+1))))
  partial_fixpoint
def L8 (y3:(List (List UInt8))) (y5:(List aB)) (x6:Int) (x7:Int):Option Bool :=
  if (decide (x7<x6))=true then ((idx y3 x7)>>=fun y6=>(idx y3 x6)>>=fun y7=>if (decide (y6=y7))=true then (some false) else (L8 y3 y5 x6 (IntKind.wrap .i64 (x7+1)))) else (wQ y3 y5 x6 (decide ((y5.length:Int)=0)) 0)
  partial_fixpoint
def wC (y3:(List (List UInt8))) (y5:(List aB)) (x6:Int):Option Bool :=
  if (decide (x6<(y3.length:Int)))=true then (L8 y3 y5 x6 0) else (some true)
  partial_fixpoint
end
def aAy (p0:(List Int)):Option Bool :=
  (aIa p0)>>=fun y1=>if y1=true then (some true) else ((aIe p0)>>=fun y2=>(X3 y2)>>=fun y3=>(aAv y2)>>=fun y4=>if (!decide ((y3.length:Int)=(y4.length:Int)))=true then (some false) else ((aBh y2)>>=fun y5=>wC y3 y5 0))
end Go.Ab
