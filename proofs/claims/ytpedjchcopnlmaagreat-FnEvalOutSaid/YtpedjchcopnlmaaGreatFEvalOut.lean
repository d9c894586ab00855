/- The functions of the program,as Lean functions (printed by a program). -/
import Derived.Test.YtpedjchcopnlmaaGreatAbF2
import Derived.Test.YtpedjchcopnlmaaGreatAbF0
namespace Go.Ab
open Go
open Go.IntKind renaming wrap→QA,bits→QC
open _root_.Int renaming fdiv→QB
structure iP where
  name:(List UInt8)
  type:Int
instance:Inhabited iP:=⟨(iP.mk [] 0)⟩
structure gG where
  name:(List UInt8)
  cols:(List iP)
instance:Inhabited gG:=⟨(gG.mk [] [])⟩
structure aR where
  tables:(List gG)
instance:Inhabited aR:=⟨(aR.mk [])⟩
structure aA where
  kind:Int
  num:Int
  text:(List UInt8)
instance:Inhabited aA:=⟨(aA.mk 0 0 [])⟩
structure jR where
  rows:(List (List aA))
instance:Inhabited jR:=⟨(jR.mk [])⟩
structure GDb where
  tables:(List jR)
instance:Inhabited GDb:=⟨(GDb.mk [])⟩
mutual
structure aB where
  kind:Int
  op:Int
  not_:Bool
  value:aA
  up:Int
  at_:Int
  kids:(List aB)
  sub:(List aQ)
structure bF where
  expr:aB
  desc:Bool
structure aQ where
  tables:(List Int)
  on_:(List (List aB))
  where_:(List aB)
  order:(List bF)
  items:(List aB)
  names:(List (List UInt8))
  distinct:Bool
  limit:Int
end
instance:Inhabited aB:=⟨(aB.mk 0 0 false (aA.mk 0 0 []) 0 0 [] [])⟩
instance:Inhabited bF:=⟨(bF.mk (aB.mk 0 0 false (aA.mk 0 0 []) 0 0 [] []) false)⟩
instance:Inhabited aQ:=⟨(aQ.mk [] [] [] [] [] [] false 0)⟩
mutual
structure eT where
  kind:Int
  op:Int
  not_:Bool
  value:aA
  qual:(List UInt8)
  name:(List UInt8)
  kids:(List eT)
  sub:(List jV)
structure rH where
  star:Bool
  qual:(List UInt8)
  expr:eT
  as_:(List UInt8)
structure jV where
  distinct:Bool
  items:(List rH)
  from_:(List qV)
  where_:(List eT)
  order:(List qW)
  limit:Int
structure qW where
  expr:eT
  desc:Bool
structure qV where
  table:(List UInt8)
  as_:(List UInt8)
  on_:(List eT)
end
instance:Inhabited eT:=⟨(eT.mk 0 0 false (aA.mk 0 0 []) [] [] [] [])⟩
instance:Inhabited rH:=⟨(rH.mk false [] (eT.mk 0 0 false (aA.mk 0 0 []) [] [] [] []) [])⟩
instance:Inhabited jV:=⟨(jV.mk false [] [] [] [] 0)⟩
instance:Inhabited qW:=⟨(qW.mk (eT.mk 0 0 false (aA.mk 0 0 []) [] [] [] []) false)⟩
instance:Inhabited qV:=⟨(qV.mk [] [] [])⟩
structure qF where
  kind:Int
  op:Int
  not_:Bool
  value:aA
  kids:(List aA)
  rows:(List (List aA))
instance:Inhabited qF:=⟨(qF.mk 0 0 false (aA.mk 0 0 []) [] [])⟩
structure kW where
  op:Bool
  not_:Bool
  value:Bool
  name:Bool
  least:Int
  most:Int
  subs:Int
instance:Inhabited kW:=⟨(kW.mk false false false false 0 0 0)⟩
structure bZ where
  c0:aR
  c1:GDb
  c2:(List (List aA))
  c3:aB
instance:Inhabited bZ:=⟨(bZ.mk (aR.mk []) (GDb.mk []) [] (aB.mk 0 0 false (aA.mk 0 0 []) 0 0 [] []))⟩
structure nL where
  eval:bZ
  desc:Bool
instance:Inhabited nL:=⟨(nL.mk (bZ.mk (aR.mk []) (GDb.mk []) [] (aB.mk 0 0 false (aA.mk 0 0 []) 0 0 [] [])) false)⟩
structure aAn where
  c0:(List bZ)
instance:Inhabited aAn:=⟨(aAn.mk [])⟩
structure eX where
  tables:(List (List (List aA)))
  on_:(List (List bZ))
  where_:(List bZ)
  order:(List nL)
  items:aAn
  distinct:Bool
  limit:Int
instance:Inhabited eX:=⟨(eX.mk [] [] [] [] (aAn.mk []) false 0)⟩
structure pG where
  c0:aR
  c1:GDb
  c2:(List (List aA))
instance:Inhabited pG:=⟨(pG.mk (aR.mk []) (GDb.mk []) [])⟩
structure aX where
  row:(List aA)
  keys:(List aA)
instance:Inhabited aX:=⟨(aX.mk [] [])⟩
structure fH where
  c0:eX
instance:Inhabited fH:=⟨(fH.mk (eX.mk [] [] [] [] (aAn.mk []) false 0))⟩
structure aJ where
  b:(List Int)
  i:Int
  h:Int
instance:Inhabited aJ:=⟨(aJ.mk [] 0 0)⟩
def okGCol (x:iP):Prop:=okS x.name∧okI x.type
def okGTable (x:gG):Prop:=okS x.name∧(okL okGCol) x.cols
def okGCatalog (x:aR):Prop:=(okL okGTable) x.tables
def okGValue (x:aA):Prop:=okI x.kind∧okI x.num∧okS x.text
def okGData (x:jR):Prop:=(okL (okL okGValue)) x.rows
def okGDb (x:GDb):Prop:=(okL okGData) x.tables
mutual
def okGPExpr:aB→Prop
  | ⟨a0,a1,a2,a3,a4,a5,a6,a7⟩=>okI a0∧okI a1∧okB a2∧okGValue a3∧okI a4∧okI a5∧(a6.length≤9223372036854775807∧okLGPExpr a6)∧(a7.length≤9223372036854775807∧okLGPlan a7)
def okGPSort:bF→Prop
  | ⟨a0,a1⟩=>okGPExpr a0∧okB a1
def okGPlan:aQ→Prop
  | ⟨a0,a1,a2,a3,a4,a5,a6,a7⟩=>(okL okI) a0∧(a1.length≤9223372036854775807∧okLLGPExpr a1)∧(a2.length≤9223372036854775807∧okLGPExpr a2)∧(a3.length≤9223372036854775807∧okLGPSort a3)∧(a4.length≤9223372036854775807∧okLGPExpr a4)∧(okL okS) a5∧okB a6∧okI a7
def okLGPExpr:List aB→Prop
  | []=>True
  | x::l=>okGPExpr x∧okLGPExpr l
def okLGPSort:List bF→Prop
  | []=>True
  | x::l=>okGPSort x∧okLGPSort l
def okLGPlan:List aQ→Prop
  | []=>True
  | x::l=>okGPlan x∧okLGPlan l
def okLLGPExpr:List (List aB)→Prop
  | []=>True
  | x::l=>(x.length≤9223372036854775807∧okLGPExpr x)∧okLLGPExpr l
end
mutual
def okGExpr:eT→Prop
  | ⟨a0,a1,a2,a3,a4,a5,a6,a7⟩=>okI a0∧okI a1∧okB a2∧okGValue a3∧okS a4∧okS a5∧(a6.length≤9223372036854775807∧okLGExpr a6)∧(a7.length≤9223372036854775807∧okLGQuery a7)
def okGItem:rH→Prop
  | ⟨a0,a1,a2,a3⟩=>okB a0∧okS a1∧okGExpr a2∧okS a3
def okGQuery:jV→Prop
  | ⟨a0,a1,a2,a3,a4,a5⟩=>okB a0∧(a1.length≤9223372036854775807∧okLGItem a1)∧(a2.length≤9223372036854775807∧okLGSource a2)∧(a3.length≤9223372036854775807∧okLGExpr a3)∧(a4.length≤9223372036854775807∧okLGSortKey a4)∧okI a5
def okGSortKey:qW→Prop
  | ⟨a0,a1⟩=>okGExpr a0∧okB a1
def okGSource:qV→Prop
  | ⟨a0,a1,a2⟩=>okS a0∧okS a1∧(a2.length≤9223372036854775807∧okLGExpr a2)
def okLGExpr:List eT→Prop
  | []=>True
  | x::l=>okGExpr x∧okLGExpr l
def okLGItem:List rH→Prop
  | []=>True
  | x::l=>okGItem x∧okLGItem l
def okLGQuery:List jV→Prop
  | []=>True
  | x::l=>okGQuery x∧okLGQuery l
def okLGSortKey:List qW→Prop
  | []=>True
  | x::l=>okGSortKey x∧okLGSortKey l
def okLGSource:List qV→Prop
  | []=>True
  | x::l=>okGSource x∧okLGSource l
end
def okGNode (x:qF):Prop:=okI x.kind∧okI x.op∧okB x.not_∧okGValue x.value∧(okL okGValue) x.kids∧(okL (okL okGValue)) x.rows
def okGForm (x:kW):Prop:=okB x.op∧okB x.not_∧okB x.value∧okB x.name∧okI x.least∧okI x.most∧okI x.subs
def okGSortBy (x:nL):Prop:=(fun _=>True) x.eval∧okB x.desc
def okGExecution (x:eX):Prop:=(okL (okL (okL okGValue))) x.tables∧(okL (okL (fun _=>True))) x.on_∧(okL (fun _=>True)) x.where_∧(okL okGSortBy) x.order∧(fun _=>True) x.items∧okB x.distinct∧okI x.limit
def okGKeyed (x:aX):Prop:=(okL okGValue) x.row∧(okL okGValue) x.keys
def okGL1Cur (x:aJ):Prop:=(okL okU8) x.b∧okI x.i∧okI x.h
def aOa (gY:Int):Option aA :=
  some (aA.mk 3 gY [])
def tV (p0:Bool):Option aA :=
  if p0=true then (aOa 1) else (aOa 0)
def aH8 (p0:Int) (p1:Int):Option (Int×Bool) :=
  (some (if (decide (0<p1))=true then (decide ((QA .i64 (9223372036854775807 - p1))<p0)) else false))>>=fun y1=>(if (true&&(y1==false))=true then some (if (decide (p1<0))=true then (decide (p0<(QA .i64 ((-9223372036854775808) - p1)))) else false) else some default)>>=fun y2=>(some (if y1=true then true else y2))>>=fun y3=>if y3=true then (some (0,false)) else (some ((QA .i64 (p0+p1)),true))
def xG (p0:Int):Option aA :=
  some (aA.mk 1 p0 [])
def aGd (x8:Int) (x9:Bool):Option (aA×Int) :=
  if (!x9)=true then (some ((aA.mk 0 0 []),2)) else ((xG x8)>>=fun y5=>some (y5,0))
def aNq (p0:Int) (p1:Int) (p2:Int):Option (aA×Int) :=
  if (decide (p2=0))=true then (some ((aA.mk 0 0 []),3)) else (if (decide (p0=14))=true then ((zB p1 p2)>>=fun y1=>(xG y1)>>=fun y2=>some (y2,0)) else ((some (if (decide (p1=(-9223372036854775808)))=true then (decide (p2=(-1))) else false))>>=fun y3=>if y3=true then (some ((aA.mk 0 0 []),2)) else ((zC .i64 p1 p2)>>=fun y4=>(xG y4)>>=fun y5=>some (y5,0))))
def aHn (p0:Int) (p1:Int):Option (Int×Bool) :=
  (if (true&&((!decide (p0=0))==true))=true then zC .i64 (QA .i64 (p0 * p1)) p0 else some default)>>=fun y1=>(if ((true&&((!decide (p0=0))==true))&&((!decide (y1=p1))==false))=true then some (if (decide (p0=(-1)))=true then (decide (p1=(-9223372036854775808))) else false) else some default)>>=fun y2=>(if (true&&((!decide (p0=0))==true))=true then some (if (!decide (y1=p1))=true then true else y2) else some default)>>=fun y3=>(some (if (!decide (p0=0))=true then y3 else false))>>=fun y4=>if y4=true then (some (0,false)) else (some ((QA .i64 (p0 * p1)),true))
def aGc (p0:Int) (p1:Int):Option (Int×Bool) :=
  (some (if (decide (p1<0))=true then (decide ((QA .i64 (9223372036854775807+p1))<p0)) else false))>>=fun y1=>(if (true&&(y1==false))=true then some (if (decide (0<p1))=true then (decide (p0<(QA .i64 ((-9223372036854775808)+p1)))) else false) else some default)>>=fun y2=>(some (if y1=true then true else y2))>>=fun y3=>if y3=true then (some (0,false)) else (some ((QA .i64 (p0 - p1)),true))
def aH3 (p0:Int) (p1:Int) (p2:Int):Option (aA×Int) :=
  if (decide (p0=10))=true then ((aH8 p1 p2)>>=fun y1=>aGd y1.1 y1.2) else (if (decide (p0=11))=true then ((aGc p1 p2)>>=fun y2=>aGd y2.1 y2.2) else (if (decide (p0=12))=true then ((aHn p1 p2)>>=fun y3=>aGd y3.1 y3.2) else ((aNq p0 p1 p2)>>=fun y4=>some (y4.1,y4.2))))
def aK2 (p0:Int):Option Bool :=
  some (!decide (p0=p0))
def aEc (p0:Int) (p1:Int):Option Int :=
  (aK2 p0)>>=fun y1=>(aK2 p1)>>=fun y2=>if y1=true then (if y2=true then (some 0) else (some (-1))) else (if y2=true then (some 1) else (if (decide (p0<p1))=true then (some (-1)) else (if (decide (p1<p0))=true then (some 1) else (some 0))))
def aLe (p0:List UInt8):Option Bool :=
  some (!decide (p0=p0))
def aI0 (p0:List UInt8) (p1:List UInt8):Option Int :=
  (aLe p0)>>=fun y1=>(aLe p1)>>=fun y2=>if y1=true then (if y2=true then (some 0) else (some (-1))) else (if y2=true then (some 1) else (if (Op.bytesLess p0 p1)=true then (some (-1)) else (if (!(Op.bytesLess p0 p1||decide (p0=p1)))=true then (some 1) else (some 0))))
def I9 (p0:List Int) (x8:Int):Option Int :=
  if (decide (x8<(p0.length:Int)))=true then ((idx p0 x8)>>=fun y1=>if (!decide (y1=0))=true then (some y1) else (I9 p0 (QA .i64 (x8+1)))) else (some 0)
  partial_fixpoint
def aL1 (p0:List Int):Option Int :=
  I9 p0 0
def aFt (p0:aA) (p1:aA):Option Int :=
  (aEc p0.kind p1.kind)>>=fun y1=>(aEc p0.num p1.num)>>=fun y2=>(aI0 p0.text p1.text)>>=fun y3=>(aL1 ([y1,y2,y3]:List Int))>>=fun y4=>some y4
def aD8 (p0:Int) (p1:aA) (p2:aA):Option aA :=
  (aFt p1 p2)>>=fun y1=>if (decide (p0=3))=true then ((tV (decide (y1=0)))>>=fun y2=>some y2) else (if (decide (p0=4))=true then ((tV (!decide (y1=0)))>>=fun y3=>some y3) else (if (decide (p0=5))=true then ((tV (decide (y1<0)))>>=fun y4=>some y4) else (if (decide (p0=6))=true then ((tV (decide (y1≤0)))>>=fun y5=>some y5) else (if (decide (p0=7))=true then ((tV (decide (0<y1)))>>=fun y6=>some y6) else ((tV (decide (0≤y1)))>>=fun y7=>some y7)))))
def Y5 (p0:Int) (p1:aA):Option Bool :=
  (some (if (decide (p1.kind=0))=true then true else (decide (p0≤8))))>>=fun y1=>if y1=true then (some true) else (if (decide (p0=9))=true then (some (decide (p1.kind=2))) else (some (decide (p1.kind=1))))
def aBg (p0:Int) (p1:aA) (p2:aA) (x15:Int):Option (aA×Int) :=
  if (decide (x15<(([p1,p2]:List aA).length:Int)))=true then ((idx ([p1,p2]:List aA) x15)>>=fun y1=>(some (if (!decide (y1.kind=3))=true then (!decide (y1.kind=0)) else false))>>=fun y2=>if y2=true then (some ((aA.mk 0 0 []),1)) else (aBg p0 p1 p2 (QA .i64 (x15+1)))) else ((tV (decide (p0=1)))>>=fun y3=>(some (if ((decide (p1.kind=y3.kind))&&((decide (p1.num=y3.num))&&((decide (p1.text=y3.text))&&true)))=true then true else ((decide (p2.kind=y3.kind))&&((decide (p2.num=y3.num))&&((decide (p2.text=y3.text))&&true)))))>>=fun y4=>if y4=true then (some (y3,0)) else ((some (if (decide (p1.kind=0))=true then true else (decide (p2.kind=0))))>>=fun y5=>if y5=true then (some ((aA.mk 0 0 []),0)) else ((tV (decide (p0=2)))>>=fun y6=>some (y6,0))))
  partial_fixpoint
def aJs (p0:Int) (p1:aA) (p2:aA):Option (aA×Int) :=
  aBg p0 p1 p2 0
def aMp (p0:List UInt8):Option aA :=
  some (aA.mk 2 0 p0)
def wF (p0:aA):Option Bool :=
  if (decide (p0.kind=0))=true then ((some (if (decide (p0.num=0))=true then (decide (p0.text=[])) else false))>>=fun y1=>some y1) else (if (decide (p0.kind=1))=true then (some (decide (p0.text=[]))) else (if (decide (p0.kind=2))=true then ((some (if (decide (p0.num=0))=true then (decide ((p0.text.length:Int)≤200)) else false))>>=fun y2=>some y2) else (if (decide (p0.kind=3))=true then ((some (if (decide (p0.num=0))=true then true else (decide (p0.num=1))))>>=fun y3=>(some (if y3=true then (decide (p0.text=[])) else false))>>=fun y4=>some y4) else (some false))))
def uR (p0:Int) (p1:aA) (p2:aA):Option (aA×Int) :=
  (some (if (decide (p0<1))=true then true else (decide (14<p0))))>>=fun y1=>(if (true&&(y1==false))=true then wF p1 else some default)>>=fun y2=>(some (if y1=true then true else (!y2)))>>=fun y3=>(if (true&&(y3==false))=true then wF p2 else some default)>>=fun y4=>(some (if y3=true then true else (!y4)))>>=fun y5=>if y5=true then (some ((aA.mk 0 0 []),1)) else (if (decide (p0≤2))=true then ((aJs p0 p1 p2)>>=fun y6=>some (y6.1,y6.2)) else ((some (if (decide (p1.kind=0))=true then true else (decide (p2.kind=0))))>>=fun y7=>(Y5 p0 p1)>>=fun y8=>(if (true&&((!y8)==false))=true then Y5 p0 p2 else some default)>>=fun y9=>(some (if (!y8)=true then true else (!y9)))>>=fun y10=>(if (true&&(y10==false))=true then some (if (decide (p0≤8))=true then (!y7) else false) else some default)>>=fun y11=>(if (true&&(y10==false))=true then some (if y11=true then (!decide (p1.kind=p2.kind)) else false) else some default)>>=fun y12=>(some (if y10=true then true else y12))>>=fun y13=>if y13=true then (some ((aA.mk 0 0 []),1)) else (if y7=true then (some ((aA.mk 0 0 []),0)) else (if (decide (p0≤8))=true then ((aD8 p0 p1 p2)>>=fun y14=>some (y14,0)) else (if (!decide (p0=9))=true then ((aH3 p0 p1.num p2.num)>>=fun y15=>some (y15.1,y15.2)) else (if (decide (200<(QA .i64 ((p1.text.length:Int)+(p2.text.length:Int)))))=true then (some ((aA.mk 0 0 []),2)) else ((Z5 p1.text p2.text)>>=fun y16=>(aMp y16)>>=fun y17=>some (y17,0))))))))
def aKl (p0:aA) (p1:aA) (p2:aA):Option (aA×Int) :=
  (uR 8 p0 p1)>>=fun y1=>if (!decide (y1.2=0))=true then (some ((aA.mk 0 0 []),y1.2)) else ((uR 6 p0 p2)>>=fun y2=>if (!decide (y2.2=0))=true then (some ((aA.mk 0 0 []),y2.2)) else ((uR 2 y1.1 y2.1)>>=fun y3=>some (y3.1,y3.2)))
def Z0 (p1:List aA) (p0:aA) (x14:Int) (jL:Int) (jJ:Int) (jI:List UInt8):Option (aA×Int) :=
  if (decide (x14<(p1.length:Int)))=true then ((idx p1 x14)>>=fun y2=>(uR 3 p0 y2)>>=fun y3=>if (!decide (y3.2=0))=true then (some ((aA.mk 0 0 []),y3.2)) else ((uR 1 (aA.mk jL jJ jI) y3.1)>>=fun y4=>if (!decide (y4.2=0))=true then (some ((aA.mk 0 0 []),y4.2)) else (Z0 p1 p0 (QA .i64 (x14+1)) y4.1.kind y4.1.num y4.1.text))) else (some ((aA.mk jL jJ jI),0))
  partial_fixpoint
def aEi (p0:aA) (p1:List aA):Option (aA×Int) :=
  (tV false)>>=fun y1=>Z0 p1 p0 0 y1.kind y1.num y1.text
def M5 (p0:qF) (x4:List aA) (x42:Int):Option (aA×Int) :=
  if (decide (x42<(p0.rows.length:Int)))=true then ((idx p0.rows x42)>>=fun y8=>if (decide ((y8.length:Int)=0))=true then (some ((aA.mk 0 0 []),4)) else ((idx y8 0)>>=fun y9=>(appG 32 x4 ([y9]:List aA))>>=fun y10=>M5 p0 y10 (QA .i64 (x42+1)))) else ((idx p0.kids 0)>>=fun y11=>(aEi y11 x4)>>=fun y12=>some (y12.1,y12.2))
  partial_fixpoint
def aFo (p0:qF):Option (aA×Int) :=
  if (decide (p0.kind=6))=true then ((idx p0.kids 0)>>=fun y1=>(idx p0.kids 1)>>=fun y2=>(idx p0.kids 2)>>=fun y3=>(aKl y1 y2 y3)>>=fun y4=>some (y4.1,y4.2)) else (if (decide (p0.kind=7))=true then ((idx p0.kids 0)>>=fun y5=>(jA p0.kids 1 (p0.kids.length:Int))>>=fun y6=>(aEi y5 y6)>>=fun y7=>some (y7.1,y7.2)) else (M5 p0 ([]:List aA) 0))
def aDm (p0:Int) (p1:aA):Option (aA×Int) :=
  (wF p1)>>=fun y1=>(if (true&&((!y1)==false))=true then some (if (!decide (p0=15))=true then (!decide (p0=16)) else false) else some default)>>=fun y2=>(some (if (!y1)=true then true else y2))>>=fun y3=>if y3=true then (some ((aA.mk 0 0 []),1)) else (if (decide (p1.kind=0))=true then (some ((aA.mk 0 0 []),0)) else ((some (if (decide (p0=15))=true then (decide (p1.kind=3)) else false))>>=fun y4=>if y4=true then ((tV (decide (p1.num=0)))>>=fun y5=>some (y5,0)) else ((some (if (decide (p0=16))=true then (decide (p1.kind=1)) else false))>>=fun y6=>if y6=true then ((aH3 11 0 p1.num)>>=fun y7=>some (y7.1,y7.2)) else (some ((aA.mk 0 0 []),1)))))
def aKw (p0:qF):Option (aA×Int) :=
  if (decide (p0.kind=1))=true then (some (p0.value,0)) else (if (decide (p0.kind=3))=true then ((idx p0.kids 0)>>=fun y1=>(aDm p0.op y1)>>=fun y2=>some (y2.1,y2.2)) else (if (decide (p0.kind=4))=true then ((idx p0.kids 0)>>=fun y3=>(idx p0.kids 1)>>=fun y4=>(uR p0.op y3 y4)>>=fun y5=>some (y5.1,y5.2)) else (if (decide (p0.kind=5))=true then ((idx p0.kids 0)>>=fun y6=>(tV (!((decide (y6.kind=0))==p0.not_)))>>=fun y7=>some (y7,0)) else (if (decide (p0.kind=9))=true then ((tV (decide (0<(p0.rows.length:Int))))>>=fun y8=>some (y8,0)) else ((aFo p0)>>=fun y9=>if (!decide (y9.2=0))=true then (some ((aA.mk 0 0 []),y9.2)) else (if p0.not_=true then ((aDm 15 y9.1)>>=fun y10=>some (y10.1,y10.2)) else (some (y9.1,0))))))))
def aC7 (p1:aR) (p2:GDb) (p3:List (List aA)) (p0:List aB) (x6:List bZ) (x12:Int):Option (List bZ) :=
  if (decide (x12<(p0.length:Int)))=true then ((idx p0 x12)>>=fun y1=>(appG 8 x6 ([(bZ.mk p1 p2 p3 y1)]:List bZ))>>=fun y2=>aC7 p1 p2 p3 p0 y2 (QA .i64 (x12+1))) else (some x6)
  partial_fixpoint
def aAg (p0:List aB) (p1:aR) (p2:GDb) (p3:List (List aA)):Option (List bZ) :=
  aC7 p1 p2 p3 p0 ([]:List bZ) 0
def xU (p0:List (List aA)) (x6:List aA) (x27:Int):Option (List aA) :=
  if (decide (x27<(p0.length:Int)))=true then ((idx p0 x27)>>=fun y3=>(appG 32 x6 y3)>>=fun y4=>xU p0 y4 (QA .i64 (x27+1))) else (some x6)
  partial_fixpoint
def aLp (p0:List aA) (p1:Int):Option (List aA) :=
  aJg 32 p0 p1
mutual
def aGk (p0:List (List aA)) (x3:Int) (y1:List aA) (x11:Int):Option (List aA) :=
  zJ p0 (QA .i64 (x3+(y1.length:Int))) (QA .i64 (x11+1))
  partial_fixpoint
def zJ (p0:List (List aA)) (x3:Int) (x11:Int):Option (List aA) :=
  if (decide (x11<(p0.length:Int)))=true then ((idx p0 x11)>>=fun y1=>if (decide ((QA .i64 (x3+(y1.length:Int)))<0))=true then (none) else (aGk p0 x3 y1 x11)) else ((aLp ([]:List aA) x3)>>=fun y2=>xU p0 y2 0)
  partial_fixpoint
end
def aKk (p0:List (List aA)):Option (List aA) :=
  zJ p0 0 0
def aJ6 (p0:aA):Option Bool :=
  (some (if (decide (p0.kind=3))=true then (decide (p0.num=1)) else false))>>=fun y1=>some y1
def aKp (p0:List aA):Option (List aA) :=
  if (decide ((p0.length:Int)=0))=true then (some ([]:List aA)) else ((appG 32 ([]:List aA) p0)>>=fun y1=>some y1)
def aAc (p0:List aA) (p1:List aA) (x13:Int):Option Bool :=
  if (decide (x13<(p0.length:Int)))=true then ((idx p0 x13)>>=fun y1=>(idx p1 x13)>>=fun y2=>if (!((decide (y1.kind=y2.kind))&&((decide (y1.num=y2.num))&&((decide (y1.text=y2.text))&&true))))=true then (some false) else (aAc p0 p1 (QA .i64 (x13+1)))) else (some true)
  partial_fixpoint
def aHh (p0:List aA) (p1:List aA):Option Bool :=
  if (!decide ((p0.length:Int)=(p1.length:Int)))=true then (some false) else (aAc p0 p1 0)
def aP8 (p0:List aA) (c0_0:List aA):Option Bool :=
  (aHh c0_0 p0)>>=fun y1=>some y1
def aAo (p0:List (List aA)) (c0_0:List aA) (x8:Int):Option Int :=
  if (decide (x8<(p0.length:Int)))=true then ((idx p0 x8)>>=fun y1=>(aP8 y1 c0_0)>>=fun y2=>if y2=true then (some x8) else (aAo p0 c0_0 (QA .i64 (x8+1)))) else (some (-1))
  partial_fixpoint
def aNb (p0:List (List aA)) (c0_0:List aA):Option Int :=
  aAo p0 c0_0 0
def aHt (p0:List (List aA)) (c0_0:List aA):Option Bool :=
  (aNb p0 c0_0)>>=fun y1=>some (decide (0≤y1))
mutual
def aBm (p0:List (List aA)) (x9:Int) (sF:List (List aA)):Option (List (List aA)) :=
  aCi p0 sF (QA .i64 (x9+1))
  partial_fixpoint
def aCi (p0:List (List aA)) (x3:List (List aA)) (x9:Int):Option (List (List aA)) :=
  if (decide (x9<(p0.length:Int)))=true then ((idx p0 x9)>>=fun y1=>(aHt x3 y1)>>=fun y2=>if (!y2)=true then ((aKp y1)>>=fun y3=>(appG 24 x3 ([y3]:List (List aA)))>>=fun y4=>aBm p0 x9 y4) else (aBm p0 x9 x3)) else (some x3)
  partial_fixpoint
end
def aE7 (p0:List (List aA)):Option (List (List aA)) :=
  aCi p0 ([]:List (List aA)) 0
def aHi (aAb:List (List aA)):Option ((List (List aA))×Int) :=
  some (aAb,0)
def yO (p0:eX) (xA:List (List aA)):Option ((List (List aA))×Int) :=
  (some (if (decide (0≤p0.limit))=true then (decide (p0.limit<(xA.length:Int))) else false))>>=fun y8=>if y8=true then ((jA xA 0 p0.limit)>>=fun y9=>aHi y9) else (aHi xA)
mutual
def aDa (p2:eX) (x12:Int) (p0:aX) (p1:aX) (x8:Int):Option Int :=
  if (!decide (x8=0))=true then (some x8) else (aCx p2 p0 p1 (QA .i64 (x12+1)))
  partial_fixpoint
def aCx (p2:eX) (p0:aX) (p1:aX) (x12:Int):Option Int :=
  if (decide (x12<(p2.order.length:Int)))=true then ((idx p2.order x12)>>=fun y1=>(idx p0.keys x12)>>=fun y2=>(idx p1.keys x12)>>=fun y3=>(aFt y2 y3)>>=fun y4=>if y1.desc=true then (aDa p2 x12 p0 p1 (QA .i64 (0 - y4))) else (aDa p2 x12 p0 p1 y4)) else (some 0)
  partial_fixpoint
end
def wP (p0:aX) (p1:aX) (p2:eX):Option Int :=
  aCx p2 p0 p1 0
mutual
def Z6 (p1:Int) (p2:Int) (p3:fH) (x8:Int) (x9:Int) (fO:List aX):Option (List aX) :=
  (if (true&&((decide (p1<x9))==true))=true then idx fO x9 else some default)>>=fun y2=>(if (true&&((decide (p1<x9))==true))=true then idx fO x9 else some default)>>=fun y3=>(if (true&&((decide (p1<x9))==true))=true then idx fO (QA .i64 (x9 - 1)) else some default)>>=fun y4=>(if (true&&((decide (p1<x9))==true))=true then idx fO (QA .i64 (x9 - 1)) else some default)>>=fun y5=>(if (true&&((decide (p1<x9))==true))=true then wP y3 y5 p3.c0 else some default)>>=fun y6=>(some (if (decide (p1<x9))=true then (decide (y6<0)) else false))>>=fun y7=>if y7=true then ((idx fO (QA .i64 (x9 - 1)))>>=fun y8=>(idx fO (QA .i64 (x9 - 1)))>>=fun y9=>(idx fO x9)>>=fun y10=>(idx fO x9)>>=fun y11=>(idx fO x9)>>=fun y12=>(qR fO x9 y9)>>=fun y13=>(idx y13 (QA .i64 (x9 - 1)))>>=fun y14=>(qR y13 (QA .i64 (x9 - 1)) y11)>>=fun y15=>Z6 p1 p2 p3 x8 (QA .i64 (x9 - 1)) y15) else (I5 p1 p2 p3 (QA .i64 (x8+1)) fO)
  partial_fixpoint
def I5 (p1:Int) (p2:Int) (p3:fH) (x8:Int) (bI:List aX):Option (List aX) :=
  if (decide (x8<p2))=true then (Z6 p1 p2 p3 x8 x8 bI) else (some bI)
  partial_fixpoint
end
def aGu (p0:List aX) (p1:Int) (p2:Int) (p3:fH):Option (List aX) :=
  I5 p1 p2 p3 (QA .i64 (p1+1)) p0
def aJd (p1:Int) (p2:Int) (p3:Int) (x10:Int) (bI:List aX):Option (List aX) :=
  if (decide (x10<p3))=true then ((idx bI (QA .i64 (p2+x10)))>>=fun y1=>(idx bI (QA .i64 (p2+x10)))>>=fun y2=>(idx bI (QA .i64 (p1+x10)))>>=fun y3=>(idx bI (QA .i64 (p1+x10)))>>=fun y4=>(idx bI (QA .i64 (p1+x10)))>>=fun y5=>(qR bI (QA .i64 (p1+x10)) y2)>>=fun y6=>(idx y6 (QA .i64 (p2+x10)))>>=fun y7=>(qR y6 (QA .i64 (p2+x10)) y4)>>=fun y8=>aJd p1 p2 p3 (QA .i64 (x10+1)) y8) else (some bI)
  partial_fixpoint
def aL7 (p0:List aX) (p1:Int) (p2:Int) (p3:Int) (p4:fH):Option (List aX) :=
  aJd p1 p2 p3 0 p0
def aFy (p2:Int) (p4:fH) (x10:Int) (x11:Int) (bI:List aX):Option (List aX) :=
  if (!decide (x10=x11))=true then (if (decide (x11<x10))=true then ((aL7 bI (QA .i64 (p2 - x10)) p2 x11 p4)>>=fun y1=>aFy p2 p4 (QA .i64 (x10 - x11)) x11 y1) else ((aL7 bI (QA .i64 (p2 - x10)) (QA .i64 ((QA .i64 (p2+x11)) - x10)) x10 p4)>>=fun y2=>aFy p2 p4 x10 (QA .i64 (x11 - x10)) y2)) else ((aL7 bI (QA .i64 (p2 - x10)) p2 x10 p4)>>=fun y3=>some y3)
  partial_fixpoint
def aT0 (p0:List aX) (p1:Int) (p2:Int) (p3:Int) (p4:fH):Option (List aX) :=
  aFy p2 p4 (QA .i64 (p2 - p1)) (QA .i64 (p3 - p2)) p0
def aIy (x10:Int) (x13:Int) (bI:List aX):Option (List aX) :=
  if (decide (x13<(QA .i64 (x10 - 1))))=true then ((idx bI (QA .i64 (x13+1)))>>=fun y14=>(idx bI (QA .i64 (x13+1)))>>=fun y15=>(idx bI x13)>>=fun y16=>(idx bI x13)>>=fun y17=>(idx bI x13)>>=fun y18=>(qR bI x13 y15)>>=fun y19=>(idx y19 (QA .i64 (x13+1)))>>=fun y20=>(qR y19 (QA .i64 (x13+1)) y17)>>=fun y21=>aIy x10 (QA .i64 (x13+1)) y21) else (some bI)
  partial_fixpoint
def aEx (p1:Int) (p4:fH) (p0:List aX) (x10:Int) (x11:Int):Option (List aX) :=
  if (decide (x10<x11))=true then ((idx p0 (QA .i64 (QB (QA .u64 (QA .i64 (x10+x11))) (2 ^ 1))))>>=fun y1=>(idx p0 (QA .i64 (QB (QA .u64 (QA .i64 (x10+x11))) (2 ^ 1))))>>=fun y2=>(idx p0 p1)>>=fun y3=>(idx p0 p1)>>=fun y4=>(wP y2 y4 p4.c0)>>=fun y5=>if (decide (y5<0))=true then (aEx p1 p4 p0 (QA .i64 ((QA .i64 (QB (QA .u64 (QA .i64 (x10+x11))) (2 ^ 1)))+1)) x11) else (aEx p1 p4 p0 x10 (QA .i64 (QB (QA .u64 (QA .i64 (x10+x11))) (2 ^ 1))))) else (aIy x10 p1 p0)
  partial_fixpoint
def aI9 (x14:Int) (x17:Int) (iZ:List aX):Option (List aX) :=
  if (decide (x14<x17))=true then ((idx iZ (QA .i64 (x17 - 1)))>>=fun y22=>(idx iZ (QA .i64 (x17 - 1)))>>=fun y23=>(idx iZ x17)>>=fun y24=>(idx iZ x17)>>=fun y25=>(idx iZ x17)>>=fun y26=>(qR iZ x17 y23)>>=fun y27=>(idx y27 (QA .i64 (x17 - 1)))>>=fun y28=>(qR y27 (QA .i64 (x17 - 1)) y25)>>=fun y29=>aI9 x14 (QA .i64 (x17 - 1)) y29) else (some iZ)
  partial_fixpoint
def aGt (p2:Int) (p4:fH) (p0:List aX) (x14:Int) (x15:Int):Option (List aX) :=
  if (decide (x14<x15))=true then ((idx p0 p2)>>=fun y6=>(idx p0 p2)>>=fun y7=>(idx p0 (QA .i64 (QB (QA .u64 (QA .i64 (x14+x15))) (2 ^ 1))))>>=fun y8=>(idx p0 (QA .i64 (QB (QA .u64 (QA .i64 (x14+x15))) (2 ^ 1))))>>=fun y9=>(wP y7 y9 p4.c0)>>=fun y10=>if (!(decide (y10<0)))=true then (aGt p2 p4 p0 (QA .i64 ((QA .i64 (QB (QA .u64 (QA .i64 (x14+x15))) (2 ^ 1)))+1)) x15) else (aGt p2 p4 p0 x14 (QA .i64 (QB (QA .u64 (QA .i64 (x14+x15))) (2 ^ 1))))) else (aI9 x14 p2 p0)
  partial_fixpoint
mutual
def aHy (p3:Int) (p4:fH) (p1:Int) (p2:Int) (dF:Int) (qY:List aX):Option (List aX) :=
  (some (if (decide ((QA .i64 (QB (QA .u64 (QA .i64 (p1+p3))) (2 ^ 1)))<(QA .i64 ((QA .i64 ((QA .i64 (QB (QA .u64 (QA .i64 (p1+p3))) (2 ^ 1)))+p2)) - dF))))=true then (decide ((QA .i64 ((QA .i64 ((QA .i64 (QB (QA .u64 (QA .i64 (p1+p3))) (2 ^ 1)))+p2)) - dF))<p3)) else false))>>=fun y41=>if y41=true then ((aFb qY (QA .i64 (QB (QA .u64 (QA .i64 (p1+p3))) (2 ^ 1))) (QA .i64 ((QA .i64 ((QA .i64 (QB (QA .u64 (QA .i64 (p1+p3))) (2 ^ 1)))+p2)) - dF)) p3 p4)>>=fun y42=>some y42) else (some qY)
  partial_fixpoint
def aP7 (p1:Int) (p3:Int) (p4:fH) (dF:Int) (p2:Int) (rA:List aX):Option (List aX) :=
  (some (if (decide (p1<dF))=true then (decide (dF<(QA .i64 (QB (QA .u64 (QA .i64 (p1+p3))) (2 ^ 1))))) else false))>>=fun y38=>if y38=true then ((aFb rA p1 dF (QA .i64 (QB (QA .u64 (QA .i64 (p1+p3))) (2 ^ 1))) p4)>>=fun y39=>aHy p3 p4 p1 p2 dF y39) else (aHy p3 p4 p1 p2 dF rA)
  partial_fixpoint
def aKe (p1:Int) (p2:Int) (p3:Int) (p4:fH) (p0:List aX) (dF:Int) (jC:Int):Option (List aX) :=
  if (decide (dF<jC))=true then ((idx p0 (QA .i64 ((QA .i64 ((QA .i64 ((QA .i64 (QB (QA .u64 (QA .i64 (p1+p3))) (2 ^ 1)))+p2)) - 1)) - (QA .i64 (QB (QA .u64 (QA .i64 (dF+jC))) (2 ^ 1))))))>>=fun y30=>(idx p0 (QA .i64 ((QA .i64 ((QA .i64 ((QA .i64 (QB (QA .u64 (QA .i64 (p1+p3))) (2 ^ 1)))+p2)) - 1)) - (QA .i64 (QB (QA .u64 (QA .i64 (dF+jC))) (2 ^ 1))))))>>=fun y31=>(idx p0 (QA .i64 (QB (QA .u64 (QA .i64 (dF+jC))) (2 ^ 1))))>>=fun y32=>(idx p0 (QA .i64 (QB (QA .u64 (QA .i64 (dF+jC))) (2 ^ 1))))>>=fun y33=>(wP y31 y33 p4.c0)>>=fun y34=>if (!(decide (y34<0)))=true then (aKe p1 p2 p3 p4 p0 (QA .i64 ((QA .i64 (QB (QA .u64 (QA .i64 (dF+jC))) (2 ^ 1)))+1)) jC) else (aKe p1 p2 p3 p4 p0 dF (QA .i64 (QB (QA .u64 (QA .i64 (dF+jC))) (2 ^ 1))))) else ((some (if (decide (dF<p2))=true then (decide (p2<(QA .i64 ((QA .i64 ((QA .i64 (QB (QA .u64 (QA .i64 (p1+p3))) (2 ^ 1)))+p2)) - dF)))) else false))>>=fun y35=>if y35=true then ((aT0 p0 dF p2 (QA .i64 ((QA .i64 ((QA .i64 (QB (QA .u64 (QA .i64 (p1+p3))) (2 ^ 1)))+p2)) - dF)) p4)>>=fun y36=>aP7 p1 p3 p4 dF p2 y36) else (aP7 p1 p3 p4 dF p2 p0))
  partial_fixpoint
def aPz (p1:Int) (p2:Int) (p3:Int) (p4:fH) (p0:List aX) (x20:Int) (x21:Int):Option (List aX) :=
  aKe p1 p2 p3 p4 p0 x20 x21
  partial_fixpoint
def aFb (p0:List aX) (p1:Int) (p2:Int) (p3:Int) (p4:fH):Option (List aX) :=
  if (decide ((QA .i64 (p2 - p1))=1))=true then (aEx p1 p4 p0 p2 p3) else (if (decide ((QA .i64 (p3 - p2))=1))=true then (aGt p2 p4 p0 p1 p2) else (if (decide ((QA .i64 (QB (QA .u64 (QA .i64 (p1+p3))) (2 ^ 1)))<p2))=true then (aPz p1 p2 p3 p4 p0 (QA .i64 ((QA .i64 ((QA .i64 (QB (QA .u64 (QA .i64 (p1+p3))) (2 ^ 1)))+p2)) - p3)) (QA .i64 (QB (QA .u64 (QA .i64 (p1+p3))) (2 ^ 1)))) else (aPz p1 p2 p3 p4 p0 p1 p2)))
  partial_fixpoint
end
mutual
def aLg (p1:Int) (p2:fH) (x6:Int) (rZ:List aX):Option (List aX) :=
  aIj p1 p2 (QA .i64 (x6 * 2)) rZ
  partial_fixpoint
def aOj (p1:Int) (p2:fH) (x6:Int) (nV:Int) (oP:Int) (qC:List aX):Option (List aX) :=
  if (decide (oP≤p1))=true then ((aFb qC nV (QA .i64 (nV+x6)) oP p2)>>=fun y7=>aOj p1 p2 x6 oP (QA .i64 (oP+(QA .i64 (2 * x6)))) y7) else (if (decide ((QA .i64 (nV+x6))<p1))=true then ((aFb qC nV (QA .i64 (nV+x6)) p1 p2)>>=fun y8=>aLg p1 p2 x6 y8) else (aLg p1 p2 x6 qC))
  partial_fixpoint
def aIj (p1:Int) (p2:fH) (x6:Int) (qX:List aX):Option (List aX) :=
  if (decide (x6<p1))=true then (aOj p1 p2 x6 0 (QA .i64 (2 * x6)) qX) else (some qX)
  partial_fixpoint
end
def aH1 (p1:Int) (p2:fH) (x7:Int) (x8:Int) (bI:List aX):Option (List aX) :=
  if (decide (x8≤p1))=true then ((aGu bI x7 x8 p2)>>=fun y1=>aH1 p1 p2 x8 (QA .i64 (x8+20)) y1) else ((aGu bI x7 p1 p2)>>=fun y2=>aIj p1 p2 20 y2)
  partial_fixpoint
def aOz (p0:List aX) (p1:Int) (p2:fH):Option (List aX) :=
  aH1 p1 p2 0 20 p0
def aHl (p0:List aX) (p1:fH):Option (List aX) :=
  (aOz p0 (p0.length:Int) p1)>>=fun y1=>some y1
def aB0 (y2:List aX) (x14:List (List aA)) (x60:Int):Option ((List (List aA))×Int) :=
  if (decide (x60<(y2.length:Int)))=true then ((idx y2 x60)>>=fun y7=>(idx y2 x60)>>=fun y8=>(appG 24 x14 ([y8.row]:List (List aA)))>>=fun y9=>aB0 y2 y9 (QA .i64 (x60+1))) else (some (x14,0))
  partial_fixpoint
def aE9 (p0:aA):Option Bool :=
  (wF p0)>>=fun y1=>(if (true&&(y1==true))=true then some (if (!decide (p0.kind=1))=true then true else (decide (0≤p0.num))) else some default)>>=fun y2=>(some (if y1=true then y2 else false))>>=fun y3=>(some (if y3=true then (decide ((p0.text.length:Int)≤40)) else false))>>=fun y4=>some y4
def xQ (p0:List UInt8):Option Bool :=
  (some (if (decide (1≤(p0.length:Int)))=true then (decide ((p0.length:Int)≤20)) else false))>>=fun y1=>some y1
def L6 (p0:eT):Option (kW×Bool) :=
  if (decide (p0.kind=1))=true then ((aE9 p0.value)>>=fun y1=>some ((kW.mk false false true false 0 0 0),y1)) else (if (decide (p0.kind=2))=true then ((xQ p0.name)>>=fun y2=>(if ((true&&(y2==true))&&((decide (p0.qual=[]))==false))=true then xQ p0.qual else some default)>>=fun y3=>(if (true&&(y2==true))=true then some (if (decide (p0.qual=[]))=true then true else y3) else some default)>>=fun y4=>(some (if y2=true then y4 else false))>>=fun y5=>some ((kW.mk false false false true 0 0 0),y5)) else (if (decide (p0.kind=3))=true then ((some (if (decide (p0.op=15))=true then true else (decide (p0.op=16))))>>=fun y6=>some ((kW.mk true false false false 1 1 0),y6)) else (if (decide (p0.kind=4))=true then ((some (if (decide (1≤p0.op))=true then (decide (p0.op≤14)) else false))>>=fun y7=>some ((kW.mk true false false false 2 2 0),y7)) else (if (decide (p0.kind=5))=true then (some ((kW.mk false true false false 1 1 0),true)) else (if (decide (p0.kind=6))=true then (some ((kW.mk false true false false 3 3 0),true)) else (if (decide (p0.kind=7))=true then (some ((kW.mk false true false false 2 9 0),true)) else (if (decide (p0.kind=8))=true then (some ((kW.mk false true false false 1 1 1),true)) else (if (decide (p0.kind=9))=true then (some ((kW.mk false false false false 0 0 1),true)) else (some ((kW.mk false false false false 0 0 0),false))))))))))
def aJw (p0:Int) (Y8:Int):Option (kW×Bool) :=
  (L6 (eT.mk p0 Y8 false (aA.mk 0 0 []) [] [120] ([]:List eT) ([]:List jV)))>>=fun y1=>some (y1.1,y1.2)
def aN0 (p0:Int):Option (kW×Bool) :=
  if (decide (p0=4))=true then (aJw p0 1) else (aJw p0 15)
def aLd (p0:Int) (p1:Int) (p2:Int):Option Bool :=
  (aN0 p0)>>=fun y1=>(some (if y1.2=true then (decide (y1.1.least≤p1)) else false))>>=fun y2=>(some (if y2=true then (decide (p1≤y1.1.most)) else false))>>=fun y3=>(some (if y3=true then (decide (p2=y1.1.subs)) else false))>>=fun y4=>some y4
mutual
def aC5 (y1:List aA) (p1:List (List aA)) (x20:Int) (p0:eX) (iV:List aX) (x9:List aA) (x28:Int):Option ((List (List aA))×Int) :=
  if (decide (x28<(p0.order.length:Int)))=true then ((idx p0.order x28)>>=fun y3=>(oZ y1 y3.eval.c0 y3.eval.c1 y3.eval.c2 y3.eval.c3)>>=fun y4=>if (!decide (y4.2=0))=true then (some (([]:List (List aA)),y4.2)) else ((appG 32 x9 ([y4.1]:List aA))>>=fun y5=>aC5 y1 p1 x20 p0 iV y5 (QA .i64 (x28+1)))) else ((appG 48 iV ([(aX.mk y1 x9)]:List aX))>>=fun y6=>U5 p1 p0 (QA .i64 (x20+1)) y6)
  partial_fixpoint
def U5 (p1:List (List aA)) (p0:eX) (x20:Int) (iV:List aX):Option ((List (List aA))×Int) :=
  if (decide (x20<(p1.length:Int)))=true then ((idx p1 x20)>>=fun y1=>aC5 y1 p1 x20 p0 iV ([]:List aA) 0) else ((aHl iV (fH.mk p0))>>=fun y2=>aB0 y2 ([]:List (List aA)) 0)
  partial_fixpoint
def aHm (p0:eX) (p1:List (List aA)):Option ((List (List aA))×Int) :=
  U5 p1 p0 0 ([]:List aX)
  partial_fixpoint
def aEk (p1:List aA) (p0:List bZ) (x6:List aA) (x14:Int):Option ((List aA)×Int) :=
  if (decide (x14<(p0.length:Int)))=true then ((idx p0 x14)>>=fun y1=>(oZ p1 y1.c0 y1.c1 y1.c2 y1.c3)>>=fun y2=>if (!decide (y2.2=0))=true then (some (([]:List aA),y2.2)) else ((appG 32 x6 ([y2.1]:List aA))>>=fun y3=>aEk p1 p0 y3 (QA .i64 (x14+1)))) else (some (x6,0))
  partial_fixpoint
def aNu (p0:List bZ) (p1:List aA):Option ((List aA)×Int) :=
  aEk p1 p0 ([]:List aA) 0
  partial_fixpoint
def aF5 (p0:List aA) (p1:List bZ):Option ((List aA)×Int) :=
  (aNu p1 p0)>>=fun y1=>some (y1.1,y1.2)
  partial_fixpoint
def aFi (y2:(List (List aA))×Int) (p0:eX) (x6:List (List aA)) (x31:Int):Option ((List (List aA))×Int) :=
  if (decide (x31<(y2.1.length:Int)))=true then ((idx y2.1 x31)>>=fun y3=>(aF5 y3 p0.items.c0)>>=fun y4=>if (!decide (y4.2=0))=true then (some (([]:List (List aA)),y4.2)) else ((appG 24 x6 ([y4.1]:List (List aA)))>>=fun y5=>aFi y2 p0 y5 (QA .i64 (x31+1)))) else (if p0.distinct=true then ((aE7 x6)>>=fun y6=>yO p0 y6) else (yO p0 x6))
  partial_fixpoint
def oZ (p0:List aA) (p1:aR) (p2:GDb) (p3:List (List aA)) (p4:aB):Option (aA×Int) :=
  (appG 24 ([p0]:List (List aA)) p3)>>=fun y1=>(rO p1 p2 y1 p4)>>=fun y2=>some (y2.1,y2.2)
  partial_fixpoint
def aEu (y1:bZ) (p1:List bZ) (x15:Int) (x0:List (List aA)) (x22:Int) (rV:List (List aA)):Option ((List (List aA))×Int) :=
  aAe y1 p1 x15 x0 rV (QA .i64 (x22+1))
  partial_fixpoint
def aAe (y1:bZ) (p1:List bZ) (x15:Int) (x0:List (List aA)) (x8:List (List aA)) (x22:Int):Option ((List (List aA))×Int) :=
  if (decide (x22<(x0.length:Int)))=true then ((idx x0 x22)>>=fun y2=>(oZ y2 y1.c0 y1.c1 y1.c2 y1.c3)>>=fun y3=>if (!decide (y3.2=0))=true then (some (([]:List (List aA)),y3.2)) else ((aJ6 y3.1)>>=fun y4=>if y4=true then ((appG 24 x8 ([y2]:List (List aA)))>>=fun y5=>aEu y1 p1 x15 x0 x22 y5) else (aEu y1 p1 x15 x0 x22 x8))) else (Y3 p1 x8 (QA .i64 (x15+1)))
  partial_fixpoint
def Y3 (p1:List bZ) (x0:List (List aA)) (x15:Int):Option ((List (List aA))×Int) :=
  if (decide (x15<(p1.length:Int)))=true then ((idx p1 x15)>>=fun y1=>aAe y1 p1 x15 x0 ([]:List (List aA)) 0) else (some (x0,0))
  partial_fixpoint
def aD9 (p0:List (List aA)) (p1:List bZ):Option ((List (List aA))×Int) :=
  Y3 p1 p0 0
  partial_fixpoint
def aDx (x19:Int) (y1:List (List aA)) (y3:List aA) (p0:eX) (x4:List (List aA)) (x27:Int) (mW:(List (List aA))×Int):Option ((List (List aA))×Int) :=
  if (decide (mW.2<(y1.length:Int)))=true then ((idx y1 mW.2)>>=fun y7=>(aKk ([y3,y7]:List (List aA)))>>=fun y8=>(appG 24 mW.1 ([y8]:List (List aA)))>>=fun y9=>aDx x19 y1 y3 p0 x4 x27 (y9,(QA .i64 (mW.2+1)))) else (V6 x19 y1 p0 x4 mW.1 (QA .i64 (x27+1)))
  partial_fixpoint
def V6 (x19:Int) (y1:List (List aA)) (p0:eX) (x4:List (List aA)) (x7:List (List aA)) (x27:Int):Option ((List (List aA))×Int) :=
  if (decide (x27<(x4.length:Int)))=true then ((idx x4 x27)>>=fun y3=>aDx x19 y1 y3 p0 x4 x27 (x7,0)) else ((idx p0.on_ x19)>>=fun y5=>(aD9 x7 y5)>>=fun y6=>if (!decide (y6.2=0))=true then (some (([]:List (List aA)),y6.2)) else (X0 p0 y6.1 (QA .i64 (x19+1))))
  partial_fixpoint
def X0 (p0:eX) (x4:List (List aA)) (x19:Int):Option ((List (List aA))×Int) :=
  if (decide (x19<(p0.tables.length:Int)))=true then ((idx p0.tables x19)>>=fun y1=>V6 x19 y1 p0 x4 ([]:List (List aA)) 0) else ((aD9 x4 p0.where_)>>=fun y2=>some (y2.1,y2.2))
  partial_fixpoint
def aOt (p0:eX):Option ((List (List aA))×Int) :=
  X0 p0 ([([]:List aA)]:List (List aA)) 0
  partial_fixpoint
def aBd (p0:eX):Option ((List (List aA))×Int) :=
  (aOt p0)>>=fun y1=>if (!decide (y1.2=0))=true then (some (([]:List (List aA)),y1.2)) else ((aHm p0 y1.1)>>=fun y2=>if (!decide (y2.2=0))=true then (some (([]:List (List aA)),y2.2)) else (aFi y2 p0 ([]:List (List aA)) 0))
  partial_fixpoint
def aCw (p0:aR) (p1:GDb) (p2:List (List aA)) (p3:aQ) (eQ:List (List (List aA))) (iI:List (List bZ)) (ky9:(List bZ)×Int×(List nL)):Option ((List (List aA))×Int) :=
  if (decide (ky9.2.1<(p3.order.length:Int)))=true then ((idx p3.order ky9.2.1)>>=fun y10=>(aAg ([y10.expr]:List aB) ((pG.mk p0 p1 p2).c0) ((pG.mk p0 p1 p2).c1) ((pG.mk p0 p1 p2).c2))>>=fun y11=>(idx y11 0)>>=fun y12=>(appG 16 ky9.2.2 ([(nL.mk y12 y10.desc)]:List nL))>>=fun y13=>aCw p0 p1 p2 p3 eQ iI (ky9.1,(QA .i64 (ky9.2.1+1)),y13)) else ((aAg p3.items ((pG.mk p0 p1 p2).c0) ((pG.mk p0 p1 p2).c1) ((pG.mk p0 p1 p2).c2))>>=fun y14=>(aBd (eX.mk eQ iI ky9.1 ky9.2.2 (aAn.mk y14) p3.distinct p3.limit))>>=fun y15=>some (y15.1,y15.2))
  partial_fixpoint
def Z7 (p0:aR) (p1:GDb) (p2:List (List aA)) (p3:aQ) (eQ:List (List (List aA))) (x69:Int) (iI:List (List bZ)):Option ((List (List aA))×Int) :=
  if (decide (x69<(p3.on_.length:Int)))=true then ((idx p3.on_ x69)>>=fun y6=>(aAg y6 ((pG.mk p0 p1 p2).c0) ((pG.mk p0 p1 p2).c1) ((pG.mk p0 p1 p2).c2))>>=fun y7=>(appG 24 iI ([y7]:List (List bZ)))>>=fun y8=>Z7 p0 p1 p2 p3 eQ (QA .i64 (x69+1)) y8) else ((aAg p3.where_ ((pG.mk p0 p1 p2).c0) ((pG.mk p0 p1 p2).c1) ((pG.mk p0 p1 p2).c2))>>=fun y9=>aCw p0 p1 p2 p3 eQ iI (y9,0,([]:List nL)))
  partial_fixpoint
def aDt (p3:aQ) (p0:aR) (p1:GDb) (p2:List (List aA)) (x40:Int) (eQ:List (List (List aA))):Option ((List (List aA))×Int) :=
  if (decide (x40<(p3.tables.length:Int)))=true then ((idx p3.tables x40)>>=fun y2=>(some (if (decide (y2<0))=true then true else (decide ((p1.tables.length:Int)≤y2))))>>=fun y3=>if y3=true then (some (([]:List (List aA)),4)) else ((idx p1.tables y2)>>=fun y4=>(appG 24 eQ ([y4.rows]:List (List (List aA))))>>=fun y5=>aDt p3 p0 p1 p2 (QA .i64 (x40+1)) y5)) else (Z7 p0 p1 p2 p3 eQ 0 ([]:List (List bZ)))
  partial_fixpoint
def O7 (p0:aR) (p1:GDb) (p2:List (List aA)) (p3:aQ):Option ((List (List aA))×Int) :=
  (some (if (decide ((p3.tables.length:Int)=0))=true then true else (!decide ((p3.on_.length:Int)=(p3.tables.length:Int)))))>>=fun y1=>if y1=true then (some (([]:List (List aA)),4)) else (aDt p3 p0 p1 p2 0 ([]:List (List (List aA))))
  partial_fixpoint
def F9 (p2:List (List aA)) (p3:aB) (p0:aR) (p1:GDb) (iE:List aA) (qD:Int) (rU:List (List aA)):Option (aA×Int) :=
  if (decide (qD<(p3.sub.length:Int)))=true then ((idx p3.sub qD)>>=fun y11=>(O7 p0 p1 p2 y11)>>=fun y12=>if (!decide (y12.2=0))=true then (some ((aA.mk 0 0 []),y12.2)) else (F9 p2 p3 p0 p1 iE (QA .i64 (qD+1)) y12.1)) else ((aKw (qF.mk p3.kind p3.op p3.not_ p3.value iE rU))>>=fun y13=>some (y13.1,y13.2))
  partial_fixpoint
def aE8 (p2:List (List aA)) (p3:aB) (p0:aR) (p1:GDb) (x81:Int) (iE:List aA):Option (aA×Int) :=
  if (decide (x81<(p3.kids.length:Int)))=true then ((idx p3.kids x81)>>=fun y8=>(rO p0 p1 p2 y8)>>=fun y9=>if (!decide (y9.2=0))=true then (some ((aA.mk 0 0 []),y9.2)) else ((appG 32 iE ([y9.1]:List aA))>>=fun y10=>aE8 p2 p3 p0 p1 (QA .i64 (x81+1)) y10)) else (F9 p2 p3 p0 p1 iE 0 ([]:List (List aA)))
  partial_fixpoint
def rO (p0:aR) (p1:GDb) (p2:List (List aA)) (p3:aB):Option (aA×Int) :=
  (aLd p3.kind (p3.kids.length:Int) (p3.sub.length:Int))>>=fun y1=>if (!y1)=true then (some ((aA.mk 0 0 []),4)) else (if (decide (p3.kind=2))=true then ((some (if (decide (p3.up<0))=true then true else (decide ((p2.length:Int)≤p3.up))))>>=fun y2=>(some (if y2=true then true else (decide (p3.at_<0))))>>=fun y3=>(if (true&&(y3==false))=true then idx p2 p3.up else some default)>>=fun y4=>(some (if y3=true then true else (decide ((y4.length:Int)≤p3.at_))))>>=fun y5=>if y5=true then (some ((aA.mk 0 0 []),4)) else ((idx p2 p3.up)>>=fun y6=>(idx y6 p3.at_)>>=fun y7=>some (y7,0))) else (aE8 p2 p3 p0 p1 0 ([]:List aA)))
  partial_fixpoint
end
def aI3 (p0:aJ) (x3:Int) (bC:Int):Option (Int×aJ) :=
  some (x3,(aJ.mk p0.b bC (QA .i64 ((QA .i64 (p0.h * 6364136223846793005))+1442695040888963407))))
def J7 (p0:aJ):Option (Int×aJ) :=
  if (decide (p0.i<(p0.b.length:Int)))=true then ((idx p0.b p0.i)>>=fun y1=>aI3 p0 (QA .i64 ((BitVec.ofInt (QC .i64) (QA .i64 ((QA .i64 ((BitVec.ofInt (QC .i64) (QA .i64 ((BitVec.ofInt (QC .i64) (QB (QA .i64 ((QA .i64 (p0.h * 6364136223846793005))+1442695040888963407)) (2 ^ 33)) ^^^ BitVec.ofInt (QC .i64) (QB (QA .i64 ((QA .i64 (p0.h * 6364136223846793005))+1442695040888963407)) (2 ^ 45))).toNat:Int)) &&& BitVec.ofInt (QC .i64) 255).toNat:Int))+(QA .i64 y1))) &&& BitVec.ofInt (QC .i64) 255).toNat:Int)) (QA .i64 (p0.i+1))) else (aI3 p0 (QA .i64 ((BitVec.ofInt (QC .i64) (QA .i64 ((BitVec.ofInt (QC .i64) (QB (QA .i64 ((QA .i64 (p0.h * 6364136223846793005))+1442695040888963407)) (2 ^ 33)) ^^^ BitVec.ofInt (QC .i64) (QB (QA .i64 ((QA .i64 (p0.h * 6364136223846793005))+1442695040888963407)) (2 ^ 45))).toNat:Int)) &&& BitVec.ofInt (QC .i64) 255).toNat:Int)) p0.i)
def fJ (p0:aJ) (p1:Int):Option (Int×aJ) :=
  if (decide (p1≤0))=true then (some (0,p0)) else (if (decide (p1≤256))=true then ((J7 p0)>>=fun y1=>(zB y1.1 p1)>>=fun y2=>some (y2,y1.2)) else ((J7 p0)>>=fun y3=>(J7 y3.2)>>=fun y4=>(J7 y4.2)>>=fun y5=>(J7 y5.2)>>=fun y6=>(zB (QA .i64 ((QA .i64 ((QA .i64 ((QA .i64 (y3.1 * 16777216))+(QA .i64 (y4.1 * 65536))))+(QA .i64 (y5.1 * 256))))+y6.1)) p1)>>=fun y7=>some (y7,y6.2)))
def xV (p0:Int):Option aA :=
  some (aA.mk 1 p0 [])
def fI (p0:aJ) (p1:Int):Option (Bool×aJ) :=
  (fJ p0 p1)>>=fun y1=>some ((decide (y1.1=0)),y1.2)
def rP (p0:Bool):Option aA :=
  if p0=true then (some (aA.mk 3 1 [])) else (some (aA.mk 3 0 []))
def vM (p0:aJ) (p1:List (List UInt8)):Option ((List UInt8)×aJ) :=
  (fJ p0 (p1.length:Int))>>=fun y1=>(idx p1 y1.1)>>=fun y2=>some (y2,y1.2)
def X4 (p0:aJ) (p1:List Int):Option (Int×aJ) :=
  (fJ p0 (p1.length:Int))>>=fun y1=>(idx p1 y1.1)>>=fun y2=>some (y2,y1.2)
def xB (p0:aJ):Option (Int×aJ) :=
  (fJ p0 3)>>=fun y1=>if (decide (y1.1=0))=true then ((X4 y1.2 ([0,1,(-1),63,64,(-64),(-65),127,128,16383,16384,9223372036854775807,(-9223372036854775808),4611686018427387904]:List Int))>>=fun y2=>some (y2.1,y2.2)) else (if (decide (y1.1=1))=true then ((fJ y1.2 1000000)>>=fun y3=>some ((QA .i64 (y3.1 - 500000)),y3.2)) else ((fJ y1.2 20)>>=fun y4=>some (y4.1,y4.2)))
def aGv (p0:List UInt8):Option aA :=
  some (aA.mk 2 0 p0)
def Q7 (p0:aJ) (p1:Int):Option (aA×aJ) :=
  (fI p0 6)>>=fun y1=>if y1.1=true then (some ((aA.mk 0 0 []),y1.2)) else (if (decide (p1=2))=true then ((vM y1.2 ([[],[97],[98],[97,98]]:List (List UInt8)))>>=fun y2=>(aGv y2.1)>>=fun y3=>some (y3,y2.2)) else (if (decide (p1=3))=true then ((fI y1.2 2)>>=fun y4=>(rP y4.1)>>=fun y5=>some (y5,y4.2)) else ((xB y1.2)>>=fun y6=>(xV y6.1)>>=fun y7=>some (y7,y6.2))))
def V5 (p0:aJ) (p1:Int):Option (aA×aJ) :=
  (if (true&&((decide (p1=1))==true))=true then fI p0 12 else some ((default:Bool),p0))>>=fun y1=>(some (if (decide (p1=1))=true then (!y1.1) else false))>>=fun y2=>if y2=true then ((fJ y1.2 5)>>=fun y3=>(xV (QA .i64 (y3.1 - 1)))>>=fun y4=>some (y4,y3.2)) else ((Q7 y1.2 p1)>>=fun y5=>some (y5.1,y5.2))
mutual
def U9 (x6:Int) (y1:Int×aJ) (x9:Int) (p1:aR) (gN:List (List aA)) (fB:List jR) (x10:List aA) (kx11:Int×(List Int)×Int×Int):Option (GDb×aJ) :=
  (idx p1.tables x6)>>=fun y9=>if (decide (kx11.1<(y9.cols.length:Int)))=true then ((idx p1.tables x6)>>=fun y10=>(idx y10.cols kx11.1)>>=fun y11=>(V5 (aJ.mk kx11.2.1 kx11.2.2.1 kx11.2.2.2) y11.type)>>=fun y12=>(appG 32 x10 ([y12.1]:List aA))>>=fun y13=>U9 x6 y1 x9 p1 gN fB y13 ((QA .i64 (kx11.1+1)),y12.2.b,y12.2.i,y12.2.h)) else ((appG 24 gN ([x10]:List (List aA)))>>=fun y14=>aB1 x6 y1 p1 fB (QA .i64 (x9+1)) y14 (kx11.2.1,kx11.2.2.1,kx11.2.2.2))
  partial_fixpoint
def aB1 (x6:Int) (y1:Int×aJ) (p1:aR) (fB:List jR) (x9:Int) (gN:List (List aA)) (mI:(List Int)×Int×Int):Option (GDb×aJ) :=
  if (decide (x9<y1.1))=true then (U9 x6 y1 x9 p1 gN fB ([]:List aA) (0,mI.1,mI.2.1,mI.2.2)) else ((appG 24 fB ([(jR.mk gN)]:List jR))>>=fun y8=>aEb p1 (QA .i64 (x6+1)) mI.1 mI.2.1 mI.2.2 y8)
  partial_fixpoint
def aEb (p1:aR) (x6:Int) (bG:List Int) (bC:Int) (bJ:Int) (fB:List jR):Option (GDb×aJ) :=
  if (decide (x6<(p1.tables.length:Int)))=true then ((fJ (aJ.mk bG bC bJ) 5)>>=fun y1=>aB1 x6 y1 p1 fB 0 ([]:List (List aA)) (y1.2.b,y1.2.i,y1.2.h)) else (some ((GDb.mk fB),(aJ.mk bG bC bJ)))
  partial_fixpoint
end
def aLa (p0:aJ) (p1:aR):Option (GDb×aJ) :=
  aEb p1 0 p0.b p0.i p0.h ([]:List jR)
mutual
def Y7 (p1:List (List Int)) (x5:List (List aA)) (x6:Int) (x7:List aA) (x8:Int) (uQ:List Int) (uA:Int) (uM:Int):Option ((List (List aA))×aJ) :=
  (idx p1 x6)>>=fun y4=>if (decide (x8<(y4.length:Int)))=true then ((idx p1 x6)>>=fun y5=>(idx y5 x8)>>=fun y6=>(V5 (aJ.mk uQ uA uM) y6)>>=fun y7=>(appG 32 x7 ([y7.1]:List aA))>>=fun y8=>Y7 p1 x5 x6 y8 (QA .i64 (x8+1)) y7.2.b y7.2.i y7.2.h) else ((appG 24 x5 ([x7]:List (List aA)))>>=fun y9=>aD4 p1 y9 (QA .i64 (x6+1)) uQ uA uM)
  partial_fixpoint
def aD4 (p1:List (List Int)) (x5:List (List aA)) (x6:Int) (bG:List Int) (bC:Int) (bJ:Int):Option ((List (List aA))×aJ) :=
  if (decide (x6<(p1.length:Int)))=true then (Y7 p1 x5 x6 ([]:List aA) 0 bG bC bJ) else (some (x5,(aJ.mk bG bC bJ)))
  partial_fixpoint
end
def aIb (p0:aJ) (p1:List (List Int)):Option ((List (List aA))×aJ) :=
  aD4 p1 ([]:List (List aA)) 0 p0.b p0.i p0.h
def aFc (y3:(List (List Int))×aJ) (y2:aR×aJ) (J5:Int) (O8:Int) (P8:Bool) (E8:Int) (F7:Int) (J9:List UInt8) (Q4:Int) (K5:Int) (X7:List Int) (aAs:Int) (aB6:Int) (Q3:List aB) (G6:List aQ):Option (aR×GDb×(List (List aA))×aB) :=
  (aLa (aJ.mk X7 aAs aB6) y2.1)>>=fun y23=>(aIb y23.2 y3.1)>>=fun y24=>some (y2.1,y23.1,y24.1,(aB.mk J5 O8 P8 (aA.mk E8 F7 J9) Q4 K5 Q3 G6))
def aHw (y1:Bool×aJ) (nR:List bF) (nU:List aB) (iR:List (List UInt8)) (iU:List aB) (dW:List (List aB)) (eY:List Int) (A8:Int) (oJ:List Int) (oI:Int) (oM:Int):Option (aQ×aJ) :=
  some ((aQ.mk eY dW nU nR iU iR y1.1 A8),(aJ.mk oJ oI oM))
def aG6 (y1:Bool×aJ) (nU:List aB) (iR:List (List UInt8)) (iU:List aB) (dW:List (List aB)) (eY:List Int) (aAq:List Int) (aAt:Int) (aB7:Int) (nR:List bF):Option (aQ×aJ) :=
  (fI (aJ.mk aAq aAt aB7) 4)>>=fun y33=>if y33.1=true then ((xB y33.2)>>=fun y34=>aHw y1 nR nU iR iU dW eY y34.1 y34.2.b y34.2.i y34.2.h) else (aHw y1 nR nU iR iU dW eY (-1) y33.2.b y33.2.i y33.2.h)
def aHa (p0:aJ):Option ((List UInt8)×aJ) :=
  (fI p0 6)>>=fun y1=>if y1.1=true then ((vM y1.2 ([[97,32,98],[102,114,111,109],[83,101,108,101,99,116],[49,120],[113,34,113],[0],[34],[105,116,39,115],[120,46,121],[45]]:List (List UInt8)))>>=fun y2=>some (y2.1,y2.2)) else ((vM y1.2 ([[97],[98],[99],[116],[117],[118],[105,100],[110,97,109,101],[65],[95,120,49]]:List (List UInt8)))>>=fun y3=>some (y3.1,y3.2))
def aFm (p0:aJ):Option (aA×aJ) :=
  (fJ p0 6)>>=fun y1=>if (decide (y1.1=0))=true then (some ((aA.mk 0 0 []),y1.2)) else (if (decide (y1.1=1))=true then ((vM y1.2 ([[],[97],[98],[105,116,39,115],[97,98],[255]]:List (List UInt8)))>>=fun y2=>(aGv y2.1)>>=fun y3=>some (y3,y2.2)) else (if (decide (y1.1=2))=true then ((fI y1.2 2)>>=fun y4=>(rP y4.1)>>=fun y5=>some (y5,y4.2)) else (if (decide (y1.1=3))=true then ((xB y1.2)>>=fun y6=>(xV y6.1)>>=fun y7=>some (y7,y6.2)) else ((fJ y1.2 7)>>=fun y8=>(xV (QA .i64 (y8.1 - 2)))>>=fun y9=>some (y9,y8.2)))))
def aJt (y1:aA×aJ) (gY:Int):Option (aA×aJ) :=
  some ((aA.mk y1.1.kind gY y1.1.text),y1.2)
def aFv (p0:aJ):Option (aA×aJ) :=
  (aFm p0)>>=fun y1=>(some (if (decide (y1.1.kind=1))=true then (decide (y1.1.num<0)) else false))>>=fun y2=>if y2=true then (aJt y1 9223372036854775807) else (aJt y1 y1.1.num)
mutual
def aE0 (p1:Int) (y1:Bool×aJ) (iR:List (List UInt8)) (iU:List aB) (dW:List (List aB)) (eY:List Int) (mV:(List Int)×Int×Int×(List aB)):Option (aQ×aJ) :=
  (fI (aJ.mk mV.1 mV.2.1 mV.2.2.1) 3)>>=fun y26=>if y26.1=true then ((uC y26.2 p1)>>=fun y27=>(fI y27.2 2)>>=fun y28=>(appG 128 ([]:List bF) ([(bF.mk y27.1 y28.1)]:List bF))>>=fun y29=>aG6 y1 mV.2.2.2 iR iU dW eY y28.2.b y28.2.i y28.2.h y29) else (aG6 y1 mV.2.2.2 iR iU dW eY y26.2.b y26.2.i y26.2.h ([]:List bF))
  partial_fixpoint
def X8 (p1:Int) (y12:Int×aJ) (y1:Bool×aJ) (dW:List (List aB)) (eY:List Int) (x9:Int) (jN:(List Int)×Int×Int×(((List (List UInt8))×(List aB)))):Option (aQ×aJ) :=
  if (decide (x9<(QA .i64 (1+y12.1))))=true then ((uC (aJ.mk jN.1 jN.2.1 jN.2.2.1) p1)>>=fun y17=>(appG 120 jN.2.2.2.2 ([y17.1]:List aB))>>=fun y18=>(aHa y17.2)>>=fun y19=>(appG 16 jN.2.2.2.1 ([y19.1]:List (List UInt8)))>>=fun y20=>X8 p1 y12 y1 dW eY (QA .i64 (x9+1)) (y19.2.b,y19.2.i,y19.2.h,y20,y18)) else ((fI (aJ.mk jN.1 jN.2.1 jN.2.2.1) 2)>>=fun y21=>if y21.1=true then ((vV y21.2 (QA .i64 (p1+1)) 1)>>=fun y22=>aE0 p1 y1 jN.2.2.2.1 jN.2.2.2.2 dW eY (y22.2.b,y22.2.i,y22.2.h,y22.1)) else (aE0 p1 y1 jN.2.2.2.1 jN.2.2.2.2 dW eY (y21.2.b,y21.2.i,y21.2.h,([]:List aB))))
  partial_fixpoint
def aG7 (p1:Int) (y2:Int×aJ) (x7:Int) (y1:Bool×aJ) (y4:List Int) (dW:List (List aB)) (mU:(List Int)×Int×Int×(List aB)):Option (aQ×aJ) :=
  (appG 24 dW ([mU.2.2.2]:List (List aB)))>>=fun y16=>Z8 p1 y2 y1 (QA .i64 (x7+1)) mU.1 mU.2.1 (mU.2.2.1,y16,y4)
  partial_fixpoint
def Z8 (p1:Int) (y2:Int×aJ) (y1:Bool×aJ) (x7:Int) (bG:List Int) (bC:Int) (mK:Int×(((List (List aB))×(List Int)))):Option (aQ×aJ) :=
  if (decide (x7<(QA .i64 (1+y2.1))))=true then ((fJ (aJ.mk bG bC mK.1) 3)>>=fun y3=>(appG 8 mK.2.2 ([y3.1]:List Int))>>=fun y4=>(if (true&&((decide (0<x7))==true))=true then fI y3.2 2 else some ((default:Bool),y3.2))>>=fun y5=>(some (if (decide (0<x7))=true then y5.1 else false))>>=fun y6=>if y6=true then ((uC y5.2 p1)>>=fun y7=>(appG 120 ([]:List aB) ([y7.1]:List aB))>>=fun y8=>aG7 p1 y2 x7 y1 y4 mK.2.1 (y7.2.b,y7.2.i,y7.2.h,y8)) else (aG7 p1 y2 x7 y1 y4 mK.2.1 (y5.2.b,y5.2.i,y5.2.h,([]:List aB)))) else ((fJ (aJ.mk bG bC mK.1) 2)>>=fun y12=>X8 p1 y12 y1 mK.2.1 mK.2.2 0 (y12.2.b,y12.2.i,y12.2.h,([]:List (List UInt8)),([]:List aB)))
  partial_fixpoint
def aCl (p0:aJ) (p1:Int):Option (aQ×aJ) :=
  (fI p0 3)>>=fun y1=>(fJ y1.2 2)>>=fun y2=>Z8 p1 y2 y1 0 y2.2.b y2.2.i (y2.2.h,([]:List (List aB)),([]:List Int))
  partial_fixpoint
def aDs (p1:Int) (p2:Int) (x8:Int) (bG:List Int) (bC:Int) (bJ:Int) (iX:List aB):Option ((List aB)×aJ) :=
  if (decide (x8<p2))=true then ((uC (aJ.mk bG bC bJ) (QA .i64 (p1 - 1)))>>=fun y1=>(appG 120 iX ([y1.1]:List aB))>>=fun y2=>aDs p1 p2 (QA .i64 (x8+1)) y1.2.b y1.2.i y1.2.h y2) else (some (iX,(aJ.mk bG bC bJ)))
  partial_fixpoint
def vV (p0:aJ) (p1:Int) (p2:Int):Option ((List aB)×aJ) :=
  aDs p1 p2 0 p0.b p0.i p0.h ([]:List aB)
  partial_fixpoint
def aE4 (p1:Int) (y7:Int×aJ):Option (aB×aJ) :=
  (fJ y7.2 14)>>=fun y20=>(vV y20.2 p1 2)>>=fun y21=>some ((aB.mk 4 (QA .i64 (1+y20.1)) false (aA.mk 0 0 []) 0 0 y21.1 ([]:List aQ)),y21.2)
  partial_fixpoint
def uC (p0:aJ) (p1:Int):Option (aB×aJ) :=
  (if (true&&((decide (p1≤0))==false))=true then fI p0 4 else some ((default:Bool),p0))>>=fun y1=>(some (if (decide (p1≤0))=true then true else y1.1))>>=fun y2=>if y2=true then ((fI y1.2 2)>>=fun y3=>if y3.1=true then ((fJ y3.2 3)>>=fun y4=>(fJ y4.2 4)>>=fun y5=>some ((aB.mk 2 0 false (aA.mk 0 0 []) y4.1 y5.1 ([]:List aB) ([]:List aQ)),y5.2)) else ((aFv y3.2)>>=fun y6=>some ((aB.mk 1 0 false y6.1 0 0 ([]:List aB) ([]:List aQ)),y6.2))) else ((fJ y1.2 8)>>=fun y7=>if (decide (y7.1=0))=true then ((fJ y7.2 2)>>=fun y8=>(vV y8.2 p1 1)>>=fun y9=>some ((aB.mk 3 (QA .i64 (15+y8.1)) false (aA.mk 0 0 []) 0 0 y9.1 ([]:List aQ)),y9.2)) else (if (decide (y7.1=1))=true then ((fI y7.2 2)>>=fun y10=>(vV y10.2 p1 1)>>=fun y11=>some ((aB.mk 5 0 y10.1 (aA.mk 0 0 []) 0 0 y11.1 ([]:List aQ)),y11.2)) else (if (decide (y7.1=2))=true then ((fI y7.2 2)>>=fun y12=>(vV y12.2 p1 3)>>=fun y13=>some ((aB.mk 6 0 y12.1 (aA.mk 0 0 []) 0 0 y13.1 ([]:List aQ)),y13.2)) else (if (decide (y7.1=3))=true then ((fI y7.2 2)>>=fun y14=>(vV y14.2 p1 3)>>=fun y15=>some ((aB.mk 7 0 y14.1 (aA.mk 0 0 []) 0 0 y15.1 ([]:List aQ)),y15.2)) else (if (decide (y7.1=4))=true then (if (decide (1<p1))=true then ((fI y7.2 2)>>=fun y16=>(vV y16.2 p1 1)>>=fun y17=>(aCl y17.2 (QA .i64 (p1 - 2)))>>=fun y18=>some ((aB.mk 8 0 y16.1 (aA.mk 0 0 []) 0 0 y17.1 ([y18.1]:List aQ)),y18.2)) else (aE4 p1 y7)) else (if (decide (y7.1=5))=true then (if (decide (1<p1))=true then ((aCl y7.2 (QA .i64 (p1 - 2)))>>=fun y19=>some ((aB.mk 9 0 false (aA.mk 0 0 []) 0 0 ([]:List aB) ([y19.1]:List aQ)),y19.2)) else (aE4 p1 y7)) else (aE4 p1 y7)))))))
  partial_fixpoint
end
def aF3 (y3:(List (List Int))×aJ) (y2:aR×aJ) (U1:Int) (aBc:Int) (aA3:Bool) (aA7:Int) (R8:Int) (aAf:List UInt8) (R7:Int) (aB2:Int) (aAp:List Int) (V8:Int) (aBe:Int) (U6:List aB) (Y9:List aQ):Option (aR×GDb×(List (List aA))×aB) :=
  (fI (aJ.mk aAp V8 aBe) 8)>>=fun y10=>if y10.1=true then ((uC y10.2 2)>>=fun y11=>aFc y3 y2 y11.1.kind y11.1.op y11.1.not_ y11.1.value.kind y11.1.value.num y11.1.value.text y11.1.up y11.1.at_ y11.2.b y11.2.i y11.2.h y11.1.kids y11.1.sub) else (aFc y3 y2 U1 aBc aA3 aA7 R8 aAf R7 aB2 y10.2.b y10.2.i y10.2.h U6 Y9)
def M7 (p1:List UInt8) (p0:gG) (x5:Int):Option Int :=
  if (decide (x5<(p0.cols.length:Int)))=true then ((idx p0.cols x5)>>=fun y1=>if (decide (y1.name=p1))=true then (some x5) else (M7 p1 p0 (QA .i64 (x5+1)))) else (some (-1))
  partial_fixpoint
def aB8 (p0:gG) (p1:List UInt8):Option Int :=
  M7 p1 p0 0
mutual
def aBk (y1:Int×aJ) (x6:Int) (y3:Int×aJ) (x9:Int) (cK:List gG) (y2:List UInt8) (mX:(List Int)×Int×Int×(List iP)):Option (aR×aJ) :=
  aDo y1 x6 y3 cK y2 (QA .i64 (x9+1)) (mX.2.2.2,mX.1,mX.2.1,mX.2.2.1)
  partial_fixpoint
def aFj (y1:Int×aJ) (x6:Int) (y3:Int×aJ) (x9:Int) (cK:List gG) (y2:List UInt8) (qQ:List iP) (ky8:(Int×aJ)×(List UInt8)×(List Int)×Int×Int):Option (aR×aJ) :=
  (aB8 (gG.mk y2 qQ) ky8.2.1)>>=fun y15=>if (decide (y15<0))=true then ((appG 24 qQ ([(iP.mk ky8.2.1 ky8.1.1)]:List iP))>>=fun y16=>aBk y1 x6 y3 x9 cK y2 (ky8.2.2.1,ky8.2.2.2.1,ky8.2.2.2.2,y16)) else (aBk y1 x6 y3 x9 cK y2 (ky8.2.2.1,ky8.2.2.2.1,ky8.2.2.2.2,qQ))
  partial_fixpoint
def aDo (y1:Int×aJ) (x6:Int) (y3:Int×aJ) (cK:List gG) (y2:List UInt8) (x9:Int) (kS:(List iP)×(List Int)×Int×Int):Option (aR×aJ) :=
  if (decide (x9<(QA .i64 (1+y3.1))))=true then ((vM (aJ.mk kS.2.1 kS.2.2.1 kS.2.2.2) ([[97],[98],[99],[105,100],[110,97,109,101]]:List (List UInt8)))>>=fun y7=>(X4 y7.2 ([1,1,2,3]:List Int))>>=fun y8=>(fI y8.2 20)>>=fun y9=>if y9.1=true then ((aHa y9.2)>>=fun y10=>aFj y1 x6 y3 x9 cK y2 kS.1 (y8,y10.1,y10.2.b,y10.2.i,y10.2.h)) else (aFj y1 x6 y3 x9 cK y2 kS.1 (y8,y7.1,y9.2.b,y9.2.i,y9.2.h))) else ((appG 40 cK ([(gG.mk y2 kS.1)]:List gG))>>=fun y14=>X6 y1 (QA .i64 (x6+1)) y14 kS.2.1 kS.2.2.1 kS.2.2.2)
  partial_fixpoint
def X6 (y1:Int×aJ) (x6:Int) (cK:List gG) (bG:List Int) (bC:Int) (bJ:Int):Option (aR×aJ) :=
  if (decide (x6<(QA .i64 (1+y1.1))))=true then ((idx ([[116],[117],[118]]:List (List UInt8)) x6)>>=fun y2=>(fJ (aJ.mk bG bC bJ) 3)>>=fun y3=>aDo y1 x6 y3 cK y2 0 (([]:List iP),y3.2.b,y3.2.i,y3.2.h)) else (some ((aR.mk cK),(aJ.mk bG bC bJ)))
  partial_fixpoint
end
def aIo (p0:aJ):Option (aR×aJ) :=
  (fJ p0 3)>>=fun y1=>X6 y1 0 ([]:List gG) y1.2.b y1.2.i y1.2.h
def xK (p1:aB) (cK:Int) (gY:Int) (oU:Bool) (F6:Int) (O6:Int) (F4:List UInt8) (eP:Int) (oV:Int) (bG:List Int) (bC:Int) (bJ:Int) (O1:List aQ):Option (aB×aJ) :=
  some ((aB.mk cK gY oU (aA.mk F6 O6 F4) eP oV p1.kids O1),(aJ.mk bG bC bJ))
def xJ (cK:Int) (gY:Int) (oU:List UInt8) (bG:List Int) (bC:Int) (bJ:Int):Option (aA×aJ) :=
  some ((aA.mk cK gY oU),(aJ.mk bG bC bJ))
def aAx (y1:aA×aJ) (pR:List UInt8) (vU:List Int) (vD:Int) (vH:Int):Option (aA×aJ) :=
  (fI (aJ.mk vU vD vH) 2)>>=fun y10=>(some (if y10.1=true then (decide ((pR.length:Int)<400)) else false))>>=fun y11=>if y11=true then ((Z5 pR pR)>>=fun y12=>(Z5 y12 [48,49,50,51,52,53,54,55,56,57])>>=fun y13=>aAx y1 y13 y10.2.b y10.2.i y10.2.h) else (xJ y1.1.kind y1.1.num pR y10.2.b y10.2.i y10.2.h)
  partial_fixpoint
def aIx (p0:aJ):Option (aA×aJ) :=
  (aFm p0)>>=fun y1=>(fJ y1.2 14)>>=fun y2=>if (decide (y2.1=0))=true then ((fJ y2.2 6)>>=fun y3=>xJ (QA .i64 (y3.1 - 1)) y1.1.num y1.1.text y3.2.b y3.2.i y3.2.h) else (if (decide (y2.1=1))=true then ((xB y2.2)>>=fun y4=>xJ y1.1.kind y4.1 y1.1.text y4.2.b y4.2.i y4.2.h) else (if (decide (y2.1=2))=true then ((vM y2.2 ([[120],[],[108,111,110,103]]:List (List UInt8)))>>=fun y5=>aAx y1 y5.1 y5.2.b y5.2.i y5.2.h) else (xJ y1.1.kind y1.1.num y1.1.text y2.2.b y2.2.i y2.2.h)))
def aDk (p0:aJ) (p1:aB):Option (aB×aJ) :=
  (if (true&&((decide (0<(p1.kids.length:Int)))==true))=true then fI p0 2 else some ((default:Bool),p0))>>=fun y1=>(some (if (decide (0<(p1.kids.length:Int)))=true then y1.1 else false))>>=fun y2=>if y2=true then ((fJ y1.2 (p1.kids.length:Int))>>=fun y3=>(idx p1.kids y3.1)>>=fun y4=>(aDk y3.2 y4)>>=fun y5=>some ((aB.mk p1.kind p1.op p1.not_ p1.value p1.up p1.at_ (p1.kids.set (y3.1).toNat y5.1) p1.sub),y5.2)) else ((fJ y1.2 7)>>=fun y6=>if (decide (y6.1=0))=true then ((xB y6.2)>>=fun y7=>xK p1 y7.1 p1.op p1.not_ p1.value.kind p1.value.num p1.value.text p1.up p1.at_ y7.2.b y7.2.i y7.2.h p1.sub) else (if (decide (y6.1=1))=true then ((xB y6.2)>>=fun y8=>xK p1 p1.kind y8.1 p1.not_ p1.value.kind p1.value.num p1.value.text p1.up p1.at_ y8.2.b y8.2.i y8.2.h p1.sub) else (if (decide (y6.1=2))=true then ((xB y6.2)>>=fun y9=>xK p1 p1.kind p1.op p1.not_ p1.value.kind p1.value.num p1.value.text y9.1 p1.at_ y9.2.b y9.2.i y9.2.h p1.sub) else (if (decide (y6.1=3))=true then ((xB y6.2)>>=fun y10=>xK p1 p1.kind p1.op p1.not_ p1.value.kind p1.value.num p1.value.text p1.up y10.1 y10.2.b y10.2.i y10.2.h p1.sub) else (if (decide (y6.1=4))=true then ((aIx y6.2)>>=fun y11=>xK p1 p1.kind p1.op p1.not_ y11.1.kind y11.1.num y11.1.text p1.up p1.at_ y11.2.b y11.2.i y11.2.h p1.sub) else (if (decide (y6.1=5))=true then (xK p1 p1.kind p1.op (!p1.not_) p1.value.kind p1.value.num p1.value.text p1.up p1.at_ y6.2.b y6.2.i y6.2.h p1.sub) else ((appG 160 p1.sub ([(aQ.mk ([]:List Int) ([]:List (List aB)) ([]:List aB) ([]:List bF) ([]:List aB) ([]:List (List UInt8)) false 0)]:List aQ))>>=fun y12=>xK p1 p1.kind p1.op p1.not_ p1.value.kind p1.value.num p1.value.text p1.up p1.at_ y6.2.b y6.2.i y6.2.h y12)))))))
  partial_fixpoint
def Y2 (p0:List Int) (x3:Int) (x4:Int):Option aJ :=
  (some (if (decide (x4<(p0.length:Int)))=true then (decide (x4<4000)) else false))>>=fun y1=>if y1=true then ((idx p0 x4)>>=fun y2=>Y2 p0 (QA .i64 ((BitVec.ofInt (QC .i64) (QA .i64 ((QA .i64 ((QA .i64 (x3 * 131))+(QA .i64 y2)))+7)) &&& BitVec.ofInt (QC .i64) 1073741823).toNat:Int)) (QA .i64 (x4+1))) else (some (aJ.mk p0 0 x3))
  partial_fixpoint
def aK4 (p0:List Int):Option aJ :=
  Y2 p0 (QA .i64 (28322+(p0.length:Int))) 0
def aI5 (p0:List Int) (p1:Int):Option Int :=
  if (decide (p1<(QA .i64 (2+(QA .i64 (Int.tdiv (p0.length:Int) 20))))))=true then (some p1) else (some (QA .i64 (2+(QA .i64 (Int.tdiv (p0.length:Int) 20)))))
def aAw (y1:Int×aJ) (x3:List (List Int)) (x5:Int) (bG:List Int) (bC:Int) (bJ:Int):Option ((List (List Int))×aJ) :=
  if (decide (x5<y1.1))=true then ((fJ (aJ.mk bG bC bJ) 3)>>=fun y2=>(fJ y2.2 3)>>=fun y3=>(fJ y3.2 2)>>=fun y4=>(jA ([(QA .i64 (1+y2.1)),(QA .i64 (1+y3.1))]:List Int) 0 (QA .i64 (1+y4.1)))>>=fun y5=>(appG 24 x3 ([y5]:List (List Int)))>>=fun y6=>aAw y1 y6 (QA .i64 (x5+1)) y4.2.b y4.2.i y4.2.h) else (some (x3,(aJ.mk bG bC bJ)))
  partial_fixpoint
def aIu (p0:aJ):Option ((List (List Int))×aJ) :=
  (fJ p0 4)>>=fun y1=>aAw y1 ([]:List (List Int)) 0 y1.2.b y1.2.i y1.2.h
def aA9 (p0:List Int) (p1:List (List Int)):Option (List (List Int)) :=
  (appG 24 ([p0]:List (List Int)) p1)>>=fun y1=>some y1
def aJv (y1:Bool×aJ) (nT:List bF) (nP:List aB) (iC:List (List UInt8)) (gZ:List aB) (gU:List (List aB)) (gX:List Int) (zR:Int) (M4:List Int) (O4:Int) (K3:Int):Option (aQ×aJ) :=
  some ((aQ.mk gX gU nP nT gZ iC y1.1 zR),(aJ.mk M4 O4 K3))
def aGb (y1:Bool×aJ) (nP:List aB) (iC:List (List UInt8)) (gZ:List aB) (gU:List (List aB)) (gX:List Int) (oJ:List Int) (oI:Int) (oM:Int) (nT:List bF):Option (aQ×aJ) :=
  (fI (aJ.mk oJ oI oM) 4)>>=fun y38=>if y38.1=true then ((fJ y38.2 4)>>=fun y39=>aJv y1 nT nP iC gZ gU gX y39.1 y39.2.b y39.2.i y39.2.h) else (aJv y1 nT nP iC gZ gU gX (-1) y38.2.b y38.2.i y38.2.h)
def iB (p0:Int) (p1:Int) (p2:Int):Option Bool :=
  (some (if (decide (p1≤p0))=true then (decide (p0≤p2)) else false))>>=fun y1=>some y1
def aAj (p0:gG) (x3:List Int) (x4:Int):Option (List Int) :=
  if (decide (x4<(p0.cols.length:Int)))=true then ((idx p0.cols x4)>>=fun y1=>(appG 8 x3 ([y1.type]:List Int))>>=fun y2=>aAj p0 y2 (QA .i64 (x4+1))) else (some x3)
  partial_fixpoint
def aJ4 (p0:gG):Option (List Int) :=
  aAj p0 ([]:List Int) 0
def aA8 (p1:List Int) (p0:aR) (x6:List Int) (x7:Int):Option ((List Int)×Bool) :=
  if (decide (x7<(p1.length:Int)))=true then ((idx p1 x7)>>=fun y1=>(iB y1 0 (QA .i64 ((p0.tables.length:Int) - 1)))>>=fun y2=>if (!y2)=true then (some (([]:List Int),false)) else ((idx p1 x7)>>=fun y3=>(idx p0.tables y3)>>=fun y4=>(aJ4 y4)>>=fun y5=>(appG 8 x6 y5)>>=fun y6=>aA8 p1 p0 y6 (QA .i64 (x7+1)))) else (some (x6,true))
  partial_fixpoint
def zU (p0:aR) (p1:List Int):Option ((List Int)×Bool) :=
  aA8 p1 p0 ([]:List Int) 0
mutual
def aAz (p1:List (List Int)) (p2:Int) (x9:Int) (x10:Int) (uZ:Int) (vF:Int) (vX:Int) (vC:Int) (mE:(List UInt8)×Int×Int×(List Int)×Int×Int):Option (aB×aJ) :=
  aBu p1 p2 x9 uZ (QA .i64 (x10+1)) vF vX vC (mE.1,mE.2.1,mE.2.2.1,mE.2.2.2.1,mE.2.2.2.2.1,mE.2.2.2.2.2)
  partial_fixpoint
def aBu (p1:List (List Int)) (p2:Int) (x9:Int) (qB:Int) (x10:Int) (tH:Int) (sH:Int) (sG:Int) (iG:(List UInt8)×Int×Int×(List Int)×Int×Int):Option (aB×aJ) :=
  (idx p1 x9)>>=fun y12=>if (decide (x10<(y12.length:Int)))=true then ((idx p1 x9)>>=fun y13=>(idx y13 x10)>>=fun y14=>if (decide (y14=p2))=true then ((fI (aJ.mk iG.2.2.2.1 iG.2.2.2.2.1 iG.2.2.2.2.2) (QA .i64 (qB+1)))>>=fun y15=>if y15.1=true then (aAz p1 p2 x9 x10 (QA .i64 (qB+1)) 2 0 0 ([],x9,x10,y15.2.b,y15.2.i,y15.2.h)) else (aAz p1 p2 x9 x10 (QA .i64 (qB+1)) tH sH sG (iG.1,iG.2.1,iG.2.2.1,y15.2.b,y15.2.i,y15.2.h))) else (aAz p1 p2 x9 x10 qB tH sH sG (iG.1,iG.2.1,iG.2.2.1,iG.2.2.2.1,iG.2.2.2.2.1,iG.2.2.2.2.2))) else (aBh p1 p2 qB (QA .i64 (x9+1)) tH sH sG (iG.1,iG.2.1,iG.2.2.1,iG.2.2.2.1,iG.2.2.2.2.1,iG.2.2.2.2.2))
  partial_fixpoint
def aBh (p1:List (List Int)) (p2:Int) (x7:Int) (x9:Int) (rQ:Int) (sV:Int) (sQ:Int) (iM:(List UInt8)×Int×Int×(List Int)×Int×Int):Option (aB×aJ) :=
  if (decide (x9<(p1.length:Int)))=true then (aBu p1 p2 x9 x7 0 rQ sV sQ (iM.1,iM.2.1,iM.2.2.1,iM.2.2.2.1,iM.2.2.2.2.1,iM.2.2.2.2.2)) else (some ((aB.mk rQ 0 false (aA.mk sV sQ iM.1) iM.2.1 iM.2.2.1 ([]:List aB) ([]:List aQ)),(aJ.mk iM.2.2.2.1 iM.2.2.2.2.1 iM.2.2.2.2.2)))
  partial_fixpoint
end
def aKu (y1:aA×aJ) (aBb:Int) (bG:List Int) (bC:Int) (bJ:Int):Option (aA×aJ) :=
  some ((aA.mk y1.1.kind aBb y1.1.text),(aJ.mk bG bC bJ))
def aDp (p0:aJ) (p1:Int):Option (aA×aJ) :=
  (Q7 p0 p1)>>=fun y1=>if (decide (y1.1.kind=1))=true then ((X4 y1.2 ([0,1,2,3,5,1,2,9223372036854775807]:List Int))>>=fun y2=>aKu y1 y2.1 y2.2.b y2.2.i y2.2.h) else (aKu y1 y1.1.num y1.2.b y1.2.i y1.2.h)
def aEv (p0:aJ) (p1:List (List Int)) (p2:Int):Option (aB×aJ) :=
  (aDp p0 p2)>>=fun y1=>aBh p1 p2 0 0 1 y1.1.kind y1.1.num (y1.1.text,0,0,y1.2.b,y1.2.i,y1.2.h)
mutual
def aC0 (p4:Int) (y15:List (List Int)) (p1:aR) (y1:Bool×aJ) (iC:List (List UInt8)) (gZ:List aB) (kH:(List (List aB))×(List Int)×(List Int)×Int×Int×(List aB)):Option (aQ×aJ) :=
  (fI (aJ.mk kH.2.2.1 kH.2.2.2.1 kH.2.2.2.2.1) 3)>>=fun y30=>if y30.1=true then ((fJ y30.2 3)>>=fun y31=>(uG y31.2 p1 y15 (QA .i64 (1+y31.1)) p4)>>=fun y32=>(fI y32.2 2)>>=fun y33=>(appG 128 ([]:List bF) ([(bF.mk y32.1 y33.1)]:List bF))>>=fun y34=>aGb y1 kH.2.2.2.2.2 iC gZ kH.1 kH.2.1 y33.2.b y33.2.i y33.2.h y34) else (aGb y1 kH.2.2.2.2.2 iC gZ kH.1 kH.2.1 y30.2.b y30.2.i y30.2.h ([]:List bF))
  partial_fixpoint
def aBz (p3:List Int) (p4:Int) (y15:List (List Int)) (p1:aR) (y1:Bool×aJ) (gU:List (List aB)) (gX:List Int) (kx20:Int×(List Int)×Int×Int×(((List (List UInt8))×(List aB)))):Option (aQ×aJ) :=
  if (decide (kx20.1<(p3.length:Int)))=true then ((idx p3 kx20.1)>>=fun y20=>(uG (aJ.mk kx20.2.1 kx20.2.2.1 kx20.2.2.2.1) p1 y15 y20 p4)>>=fun y21=>(appG 120 kx20.2.2.2.2.2 ([y21.1]:List aB))>>=fun y22=>(vM y21.2 ([[97],[98],[99],[120],[121,32,122],[99,49]]:List (List UInt8)))>>=fun y23=>(appG 16 kx20.2.2.2.2.1 ([y23.1]:List (List UInt8)))>>=fun y24=>aBz p3 p4 y15 p1 y1 gU gX ((QA .i64 (kx20.1+1)),y23.2.b,y23.2.i,y23.2.h,y24,y22)) else ((fI (aJ.mk kx20.2.1 kx20.2.2.1 kx20.2.2.2.1) 2)>>=fun y25=>if y25.1=true then ((uG y25.2 p1 y15 3 p4)>>=fun y26=>aC0 p4 y15 p1 y1 kx20.2.2.2.2.1 kx20.2.2.2.2.2 (gU,gX,y26.2.b,y26.2.i,y26.2.h,([y26.1]:List aB))) else (aC0 p4 y15 p1 y1 kx20.2.2.2.2.1 kx20.2.2.2.2.2 (gU,gX,y25.2.b,y25.2.i,y25.2.h,([]:List aB))))
  partial_fixpoint
def aFe (p2:List (List Int)) (p3:List Int) (p4:Int) (y2:Int×aJ) (x13:Int) (p1:aR) (y1:Bool×aJ) (ky4:(List Int)×(((List (List aB))×(List Int)×Int×Int×(List aB)))):Option (aQ×aJ) :=
  (appG 24 ky4.2.1 ([ky4.2.2.2.2.2]:List (List aB)))>>=fun y19=>U3 p2 p3 p4 y2 p1 y1 ((QA .i64 (x13+1)),ky4.2.2.1,ky4.2.2.2.1,ky4.2.2.2.2.1,y19,ky4.1)
  partial_fixpoint
def U3 (p2:List (List Int)) (p3:List Int) (p4:Int) (y2:Int×aJ) (p1:aR) (y1:Bool×aJ) (kx13:Int×(List Int)×Int×Int×(((List (List aB))×(List Int)))):Option (aQ×aJ) :=
  if (decide (kx13.1<(QA .i64 (1+y2.1))))=true then ((fJ (aJ.mk kx13.2.1 kx13.2.2.1 kx13.2.2.2.1) (p1.tables.length:Int))>>=fun y3=>(appG 8 kx13.2.2.2.2.2 ([y3.1]:List Int))>>=fun y4=>(zU p1 y4)>>=fun y5=>(if (true&&((decide (0<kx13.1))==true))=true then fI y3.2 2 else some ((default:Bool),y3.2))>>=fun y6=>(some (if (decide (0<kx13.1))=true then y6.1 else false))>>=fun y7=>if y7=true then ((aA9 y5.1 p2)>>=fun y8=>(uG y6.2 p1 y8 3 p4)>>=fun y9=>(appG 120 ([]:List aB) ([y9.1]:List aB))>>=fun y10=>aFe p2 p3 p4 y2 kx13.1 p1 y1 (y4,kx13.2.2.2.2.1,y9.2.b,y9.2.i,y9.2.h,y10)) else (aFe p2 p3 p4 y2 kx13.1 p1 y1 (y4,kx13.2.2.2.2.1,y6.2.b,y6.2.i,y6.2.h,([]:List aB)))) else ((zU p1 kx13.2.2.2.2.2)>>=fun y14=>(aA9 y14.1 p2)>>=fun y15=>aBz p3 p4 y15 p1 y1 kx13.2.2.2.2.1 kx13.2.2.2.2.2 (0,kx13.2.1,kx13.2.2.1,kx13.2.2.2.1,([]:List (List UInt8)),([]:List aB)))
  partial_fixpoint
def aDj (p0:aJ) (p1:aR) (p2:List (List Int)) (p3:List Int) (p4:Int):Option (aQ×aJ) :=
  (fI p0 4)>>=fun y1=>(fJ y1.2 2)>>=fun y2=>U3 p2 p3 p4 y2 p1 y1 (0,y2.2.b,y2.2.i,y2.2.h,([]:List (List aB)),([]:List Int))
  partial_fixpoint
def K6 (p2:List (List Int)) (p3:Int) (p4:Int) (p5:Int) (p1:aR) (x14:Int) (jP:(List Int)×Int×Int×(List aB)):Option ((List aB)×aJ) :=
  if (decide (x14<p5))=true then ((uG (aJ.mk jP.1 jP.2.1 jP.2.2.1) p1 p2 p3 (QA .i64 (p4 - 1)))>>=fun y1=>(appG 120 jP.2.2.2 ([y1.1]:List aB))>>=fun y2=>K6 p2 p3 p4 p5 p1 (QA .i64 (x14+1)) (y1.2.b,y1.2.i,y1.2.h,y2)) else (some (jP.2.2.2,(aJ.mk jP.1 jP.2.1 jP.2.2.1)))
  partial_fixpoint
def pM (p0:aJ) (p1:aR) (p2:List (List Int)) (p3:Int) (p4:Int) (p5:Int):Option ((List aB)×aJ) :=
  K6 p2 p3 p4 p5 p1 0 (p0.b,p0.i,p0.h,([]:List aB))
  partial_fixpoint
def aBy (p2:List (List Int)) (p3:Int) (y1:Int×aJ) (p1:aR) (y3:Int×aJ):Option (aB×aJ) :=
  (fJ y3.2 6)>>=fun y14=>(pM y14.2 p1 p2 (QA .i64 (1+y1.1)) p3 2)>>=fun y15=>some ((aB.mk 4 (QA .i64 (3+y14.1)) false (aA.mk 0 0 []) 0 0 y15.1 ([]:List aQ)),y15.2)
  partial_fixpoint
def aF7 (p2:List (List Int)) (p3:Int) (y1:Int×aJ) (y2:Bool×aJ) (y3:Int×aJ) (p1:aR) (x18:Bool):Option (aB×aJ) :=
  if x18=true then ((fJ y3.2 2)>>=fun y4=>(pM y4.2 p1 p2 3 p3 2)>>=fun y5=>some ((aB.mk 4 (QA .i64 (1+y4.1)) false (aA.mk 0 0 []) 0 0 y5.1 ([]:List aQ)),y5.2)) else (if (decide (y3.1=2))=true then ((pM y3.2 p1 p2 3 p3 1)>>=fun y6=>some ((aB.mk 3 15 false (aA.mk 0 0 []) 0 0 y6.1 ([]:List aQ)),y6.2)) else (if (decide (y3.1=3))=true then ((pM y3.2 p1 p2 (QA .i64 (1+y1.1)) p3 1)>>=fun y7=>some ((aB.mk 5 0 y2.1 (aA.mk 0 0 []) 0 0 y7.1 ([]:List aQ)),y7.2)) else (if (decide (y3.1=4))=true then ((pM y3.2 p1 p2 (QA .i64 (1+y1.1)) p3 3)>>=fun y8=>some ((aB.mk 6 0 y2.1 (aA.mk 0 0 []) 0 0 y8.1 ([]:List aQ)),y8.2)) else (if (decide (y3.1=5))=true then ((fJ y3.2 3)>>=fun y9=>(pM y9.2 p1 p2 (QA .i64 (1+y1.1)) p3 (QA .i64 (2+y9.1)))>>=fun y10=>some ((aB.mk 7 0 y2.1 (aA.mk 0 0 []) 0 0 y10.1 ([]:List aQ)),y10.2)) else (if (decide (y3.1=6))=true then (if (decide (1<p3))=true then ((pM y3.2 p1 p2 (QA .i64 (1+y1.1)) p3 1)>>=fun y11=>(aDj y11.2 p1 p2 ([(QA .i64 (1+y1.1))]:List Int) (QA .i64 (p3 - 2)))>>=fun y12=>some ((aB.mk 8 0 y2.1 (aA.mk 0 0 []) 0 0 y11.1 ([y12.1]:List aQ)),y12.2)) else (aBy p2 p3 y1 p1 y3)) else (if (decide (y3.1=7))=true then (if (decide (1<p3))=true then ((aDj y3.2 p1 p2 ([(QA .i64 (1+y1.1))]:List Int) (QA .i64 (p3 - 2)))>>=fun y13=>some ((aB.mk 9 0 false (aA.mk 0 0 []) 0 0 ([]:List aB) ([y13.1]:List aQ)),y13.2)) else (aBy p2 p3 y1 p1 y3)) else (aBy p2 p3 y1 p1 y3)))))))
  partial_fixpoint
def aQ0 (p0:aJ) (p1:aR) (p2:List (List Int)) (p3:Int):Option (aB×aJ) :=
  (fJ p0 3)>>=fun y1=>(fI y1.2 3)>>=fun y2=>(fJ y2.2 10)>>=fun y3=>if (decide (y3.1=0))=true then (aF7 p2 p3 y1 y2 y3 p1 (decide (y3.1=0))) else (aF7 p2 p3 y1 y2 y3 p1 (decide (y3.1=1)))
  partial_fixpoint
def uG (p0:aJ) (p1:aR) (p2:List (List Int)) (p3:Int) (p4:Int):Option (aB×aJ) :=
  (if (true&&((decide (p4≤0))==false))=true then fI p0 4 else some ((default:Bool),p0))>>=fun y1=>(some (if (decide (p4≤0))=true then true else y1.1))>>=fun y2=>if y2=true then ((fI y1.2 3)>>=fun y3=>if y3.1=true then ((aDp y3.2 p3)>>=fun y4=>some ((aB.mk 1 0 false y4.1 0 0 ([]:List aB) ([]:List aQ)),y4.2)) else ((aEv y3.2 p2 p3)>>=fun y5=>some (y5.1,y5.2))) else (if (decide (p3=1))=true then ((fI y1.2 5)>>=fun y6=>if y6.1=true then ((pM y6.2 p1 p2 p3 p4 1)>>=fun y7=>some ((aB.mk 3 16 false (aA.mk 0 0 []) 0 0 y7.1 ([]:List aQ)),y7.2)) else ((fJ y6.2 5)>>=fun y8=>(pM y8.2 p1 p2 p3 p4 2)>>=fun y9=>some ((aB.mk 4 (QA .i64 (10+y8.1)) false (aA.mk 0 0 []) 0 0 y9.1 ([]:List aQ)),y9.2))) else (if (decide (p3=2))=true then ((pM y1.2 p1 p2 p3 p4 2)>>=fun y10=>some ((aB.mk 4 9 false (aA.mk 0 0 []) 0 0 y10.1 ([]:List aQ)),y10.2)) else ((aQ0 y1.2 p1 p2 p4)>>=fun y11=>some (y11.1,y11.2))))
  partial_fixpoint
end
def aL3 (p0:List Int):Option (aR×GDb×(List (List aA))×aB) :=
  (aK4 p0)>>=fun y1=>(aIo y1)>>=fun y2=>(aIu y2.2)>>=fun y3=>(fJ y3.2 3)>>=fun y4=>(aI5 p0 4)>>=fun y5=>(fJ y4.2 y5)>>=fun y6=>(uG y6.2 y2.1 y3.1 (QA .i64 (1+y4.1)) y6.1)>>=fun y7=>(fI y7.2 6)>>=fun y8=>if y8.1=true then ((aDk y8.2 y7.1)>>=fun y9=>aF3 y3 y2 y9.1.kind y9.1.op y9.1.not_ y9.1.value.kind y9.1.value.num y9.1.value.text y9.1.up y9.1.at_ y9.2.b y9.2.i y9.2.h y9.1.kids y9.1.sub) else (aF3 y3 y2 y7.1.kind y7.1.op y7.1.not_ y7.1.value.kind y7.1.value.num y7.1.value.text y7.1.up y7.1.at_ y8.2.b y8.2.i y8.2.h y7.1.kids y7.1.sub)
def aM2 (p0:Int) (p1:Int):Option (Int×Bool) :=
  (some (if (decide (0<p1))=true then (decide ((QA .i64 (9223372036854775807 - p1))<p0)) else false))>>=fun y1=>(if (true&&(y1==false))=true then some (if (decide (p1<0))=true then (decide (p0<(QA .i64 ((-9223372036854775808) - p1)))) else false) else some default)>>=fun y2=>(some (if y1=true then true else y2))>>=fun y3=>if y3=true then (some (0,false)) else (some ((QA .i64 (p0+p1)),true))
def aBl (p0:Int) (p1:Int):Option Bool :=
  if (decide (p0=3))=true then (some (decide (p1=0))) else (if (decide (p0=4))=true then (some (!decide (p1=0))) else (if (decide (p0=5))=true then (some (decide (p1<0))) else (if (decide (p0=6))=true then (some (decide (p1≤0))) else (if (decide (p0=7))=true then (some (decide (0<p1))) else (some (decide (0≤p1)))))))
def Q5 (p0:Int) (p1:Bool):Option (aA×Int) :=
  if (!p1)=true then (some ((aA.mk 0 0 []),2)) else ((xV p0)>>=fun y1=>some (y1,0))
def aEl (p0:Int) (p1:Int):Option (Int×Bool) :=
  (some (if (decide (p1<0))=true then (decide ((QA .i64 (9223372036854775807+p1))<p0)) else false))>>=fun y1=>(if (true&&(y1==false))=true then some (if (decide (0<p1))=true then (decide (p0<(QA .i64 ((-9223372036854775808)+p1)))) else false) else some default)>>=fun y2=>(some (if y1=true then true else y2))>>=fun y3=>if y3=true then (some (0,false)) else (some ((QA .i64 (p0 - p1)),true))
def aIf (p0:Int) (p1:Int) (p2:Int):Option (aA×Int) :=
  if (decide (p2=0))=true then (some ((aA.mk 0 0 []),3)) else (if (decide (p2=(-1)))=true then (if (decide (p0=14))=true then ((xV 0)>>=fun y1=>some (y1,0)) else ((aEl 0 p1)>>=fun y2=>(Q5 y2.1 y2.2)>>=fun y3=>some (y3.1,y3.2))) else (if (decide (p0=14))=true then ((zB p1 p2)>>=fun y4=>(xV y4)>>=fun y5=>some (y5,0)) else ((zC .i64 p1 p2)>>=fun y6=>(xV y6)>>=fun y7=>some (y7,0))))
def xD (p0:aA) (p1:aA):Option Int :=
  if (decide (p0.kind<p1.kind))=true then (some (-1)) else (if (decide (p1.kind<p0.kind))=true then (some 1) else (if (decide (p0.num<p1.num))=true then (some (-1)) else (if (decide (p1.num<p0.num))=true then (some 1) else (if (Op.bytesLess p0.text p1.text)=true then (some (-1)) else (if (!(Op.bytesLess p0.text p1.text||decide (p0.text=p1.text)))=true then (some 1) else (some 0))))))
def aF8 (p0:Int) (p1:aA) (p2:aA) (aAh:Bool):Option (aA×Int) :=
  if aAh=true then ((aIf p0 p1.num p2.num)>>=fun y19=>some (y19.1,y19.2)) else ((xD p1 p2)>>=fun y20=>(aBl p0 y20)>>=fun y21=>(rP y21)>>=fun y22=>some (y22,0))
def wN (p0:aA):Option Bool :=
  some (decide (p0.kind=0))
def xC (p0:aA) (p1:Int):Option Bool :=
  (if (true&&((decide (p0.kind=p1))==false))=true then wN p0 else some default)>>=fun y1=>(some (if (decide (p0.kind=p1))=true then true else y1))>>=fun y2=>some y2
def aHe (p0:Int) (p1:aA) (p2:aA):Option (aA×Int) :=
  (xC p1 3)>>=fun y1=>(if (true&&((!y1)==false))=true then xC p2 3 else some default)>>=fun y2=>(some (if (!y1)=true then true else (!y2)))>>=fun y3=>if y3=true then (some ((aA.mk 0 0 []),1)) else ((rP (decide (p0=1)))>>=fun y4=>(some (if ((decide (p1.kind=y4.kind))&&((decide (p1.num=y4.num))&&((decide (p1.text=y4.text))&&true)))=true then true else ((decide (p2.kind=y4.kind))&&((decide (p2.num=y4.num))&&((decide (p2.text=y4.text))&&true)))))>>=fun y5=>if y5=true then (some (y4,0)) else ((wN p1)>>=fun y6=>(if (true&&(y6==false))=true then wN p2 else some default)>>=fun y7=>(some (if y6=true then true else y7))>>=fun y8=>if y8=true then (some ((aA.mk 0 0 []),0)) else ((rP (decide (p0=2)))>>=fun y9=>some (y9,0))))
def aG9 (p0:Int) (p1:aA) (p2:aA):Option Bool :=
  if (decide (p0=9))=true then ((xC p1 2)>>=fun y1=>(if (true&&(y1==true))=true then xC p2 2 else some default)>>=fun y2=>(some (if y1=true then y2 else false))>>=fun y3=>some y3) else (if (decide (10≤p0))=true then ((xC p1 1)>>=fun y4=>(if (true&&(y4==true))=true then xC p2 1 else some default)>>=fun y5=>(some (if y4=true then y5 else false))>>=fun y6=>some y6) else ((if (true&&((decide (p1.kind=p2.kind))==false))=true then wN p1 else some default)>>=fun y7=>(some (if (decide (p1.kind=p2.kind))=true then true else y7))>>=fun y8=>(if (true&&(y8==false))=true then wN p2 else some default)>>=fun y9=>(some (if y8=true then true else y9))>>=fun y10=>some y10))
def aI2 (p0:Int) (p1:Int):Option (Int×Bool) :=
  (some (if (decide (p0=0))=true then true else (decide (p1=0))))>>=fun y1=>if y1=true then (some (0,true)) else ((some (if (decide (p0=(-1)))=true then (decide (p1=(-9223372036854775808))) else false))>>=fun y2=>(if (true&&(y2==false))=true then some (if (decide (p1=(-1)))=true then (decide (p0=(-9223372036854775808))) else false) else some default)>>=fun y3=>(some (if y2=true then true else y3))>>=fun y4=>if y4=true then (some (0,false)) else ((zC .i64 (QA .i64 (p0 * p1)) p1)>>=fun y5=>if (!decide (y5=p0))=true then (some (0,false)) else (some ((QA .i64 (p0 * p1)),true))))
def nW (p0:aA):Option Bool :=
  if (decide (p0.kind=0))=true then ((some (if (decide (p0.num=0))=true then (decide (p0.text=[])) else false))>>=fun y1=>some y1) else (if (decide (p0.kind=1))=true then (some (decide (p0.text=[]))) else (if (decide (p0.kind=2))=true then ((some (if (decide (p0.num=0))=true then (decide ((p0.text.length:Int)≤200)) else false))>>=fun y2=>some y2) else (if (decide (p0.kind=3))=true then ((iB p0.num 0 1)>>=fun y3=>(some (if y3=true then (decide (p0.text=[])) else false))>>=fun y4=>some y4) else (some false))))
def sI (p0:Int) (p1:aA) (p2:aA):Option (aA×Int) :=
  (iB p0 1 14)>>=fun y1=>(if (true&&((!y1)==false))=true then nW p1 else some default)>>=fun y2=>(some (if (!y1)=true then true else (!y2)))>>=fun y3=>(if (true&&(y3==false))=true then nW p2 else some default)>>=fun y4=>(some (if y3=true then true else (!y4)))>>=fun y5=>if y5=true then (some ((aA.mk 0 0 []),1)) else (if (decide (p0≤2))=true then ((aHe p0 p1 p2)>>=fun y6=>some (y6.1,y6.2)) else ((aG9 p0 p1 p2)>>=fun y7=>if (!y7)=true then (some ((aA.mk 0 0 []),1)) else ((wN p1)>>=fun y8=>(if (true&&(y8==false))=true then wN p2 else some default)>>=fun y9=>(some (if y8=true then true else y9))>>=fun y10=>if y10=true then (some ((aA.mk 0 0 []),0)) else (if (decide (p0=9))=true then (if (decide (200<(QA .i64 ((p1.text.length:Int)+(p2.text.length:Int)))))=true then (some ((aA.mk 0 0 []),2)) else ((Z5 p1.text p2.text)>>=fun y11=>(aGv y11)>>=fun y12=>some (y12,0))) else (if (decide (p0=10))=true then ((aM2 p1.num p2.num)>>=fun y13=>(Q5 y13.1 y13.2)>>=fun y14=>some (y14.1,y14.2)) else (if (decide (p0=11))=true then ((aEl p1.num p2.num)>>=fun y15=>(Q5 y15.1 y15.2)>>=fun y16=>some (y16.1,y16.2)) else (if (decide (p0=12))=true then ((aI2 p1.num p2.num)>>=fun y17=>(Q5 y17.1 y17.2)>>=fun y18=>some (y18.1,y18.2)) else (if (decide (p0=13))=true then (aF8 p0 p1 p2 (decide (p0=13))) else (aF8 p0 p1 p2 (decide (p0=14)))))))))))
def aIr (p0:aA) (p1:aA) (p2:aA):Option (aA×Int) :=
  (sI 8 p0 p1)>>=fun y1=>if (!decide (y1.2=0))=true then (some ((aA.mk 0 0 []),y1.2)) else ((sI 6 p0 p2)>>=fun y2=>if (!decide (y2.2=0))=true then (some ((aA.mk 0 0 []),y2.2)) else ((sI 2 y1.1 y2.1)>>=fun y3=>some (y3.1,y3.2)))
def aGa (p0:Int) (p1:aA):Option (aA×Int) :=
  (nW p1)>>=fun y1=>if (!y1)=true then (some ((aA.mk 0 0 []),1)) else (if (decide (p0=15))=true then ((xC p1 3)>>=fun y2=>if (!y2)=true then (some ((aA.mk 0 0 []),1)) else ((wN p1)>>=fun y3=>if y3=true then (some (p1,0)) else ((rP (decide (p1.num=0)))>>=fun y4=>some (y4,0)))) else (if (decide (p0=16))=true then ((xC p1 1)>>=fun y5=>if (!y5)=true then (some ((aA.mk 0 0 []),1)) else ((wN p1)>>=fun y6=>if y6=true then (some (p1,0)) else ((aEl 0 p1.num)>>=fun y7=>(Q5 y7.1 y7.2)>>=fun y8=>some (y8.1,y8.2)))) else (some ((aA.mk 0 0 []),1))))
def aCq (p0:aB) (p1:aA) (p2:Int):Option (aA×Int) :=
  if (!decide (p2=0))=true then (some ((aA.mk 0 0 []),p2)) else (if p0.not_=true then ((aGa 15 p1)>>=fun y1=>some (y1.1,y1.2)) else (some (p1,0)))
def R6 (p1:List aA) (p0:aA) (x7:Int) (jL:Int) (jJ:Int) (jI:List UInt8):Option (aA×Int) :=
  if (decide (x7<(p1.length:Int)))=true then ((idx p1 x7)>>=fun y2=>(sI 3 p0 y2)>>=fun y3=>if (!decide (y3.2=0))=true then (some ((aA.mk 0 0 []),y3.2)) else ((sI 1 (aA.mk jL jJ jI) y3.1)>>=fun y4=>R6 p1 p0 (QA .i64 (x7+1)) y4.1.kind y4.1.num y4.1.text)) else (some ((aA.mk jL jJ jI),0))
  partial_fixpoint
def aFg (p0:aA) (p1:List aA):Option (aA×Int) :=
  (rP false)>>=fun y1=>R6 p1 p0 0 y1.kind y1.num y1.text
def J8 (x10:List aA) (x14:List (List aA)) (p3:aB) (x21:List aA) (x22:Int):Option (aA×Int) :=
  if (decide (x22<(x14.length:Int)))=true then ((idx x14 x22)>>=fun y30=>if (decide ((y30.length:Int)=0))=true then (some ((aA.mk 0 0 []),4)) else ((idx x14 x22)>>=fun y31=>(idx y31 0)>>=fun y32=>(appG 32 x21 ([y32]:List aA))>>=fun y33=>J8 x10 x14 p3 y33 (QA .i64 (x22+1)))) else ((idx x10 0)>>=fun y34=>(aFg y34 x21)>>=fun y35=>(aCq p3 y35.1 y35.2)>>=fun y36=>some (y36.1,y36.2))
  partial_fixpoint
def wQ (p2:List (List aA)) (x10:List aA) (p3:aB) (x14:List (List aA)):Option (aA×Int) :=
  if (decide (p3.kind=1))=true then (some (p3.value,0)) else (if (decide (p3.kind=2))=true then ((iB p3.up 0 (QA .i64 ((p2.length:Int) - 1)))>>=fun y7=>(if (true&&((!y7)==false))=true then idx p2 p3.up else some default)>>=fun y8=>(if (true&&((!y7)==false))=true then iB p3.at_ 0 (QA .i64 ((y8.length:Int) - 1)) else some default)>>=fun y9=>(some (if (!y7)=true then true else (!y9)))>>=fun y10=>if y10=true then (some ((aA.mk 0 0 []),4)) else ((idx p2 p3.up)>>=fun y11=>(idx y11 p3.at_)>>=fun y12=>some (y12,0))) else (if (decide (p3.kind=3))=true then ((idx x10 0)>>=fun y13=>(aGa p3.op y13)>>=fun y14=>some (y14.1,y14.2)) else (if (decide (p3.kind=4))=true then ((idx x10 0)>>=fun y15=>(idx x10 1)>>=fun y16=>(sI p3.op y15 y16)>>=fun y17=>some (y17.1,y17.2)) else (if (decide (p3.kind=5))=true then ((idx x10 0)>>=fun y18=>(rP (!((decide (y18.kind=0))==p3.not_)))>>=fun y19=>some (y19,0)) else (if (decide (p3.kind=6))=true then ((idx x10 0)>>=fun y20=>(idx x10 1)>>=fun y21=>(idx x10 2)>>=fun y22=>(aIr y20 y21 y22)>>=fun y23=>(aCq p3 y23.1 y23.2)>>=fun y24=>some (y24.1,y24.2)) else (if (decide (p3.kind=7))=true then ((idx x10 0)>>=fun y25=>(jA x10 1 (x10.length:Int))>>=fun y26=>(aFg y25 y26)>>=fun y27=>(aCq p3 y27.1 y27.2)>>=fun y28=>some (y28.1,y28.2)) else (if (decide (p3.kind=9))=true then ((rP (decide (0<(x14.length:Int))))>>=fun y29=>some (y29,0)) else (J8 x10 x14 p3 ([]:List aA) 0))))))))
def aBo (p0:List aA):Option (List aA) :=
  (appG 32 ([]:List aA) p0)>>=fun y1=>some y1
def aIm (p0:aA):Option Bool :=
  (some (if (decide (p0.kind=3))=true then (decide (p0.num=1)) else false))>>=fun y1=>some y1
def aE1 (p0:List aA) (p1:List (List aA)):Option (List (List aA)) :=
  (appG 24 ([p0]:List (List aA)) p1)>>=fun y1=>some y1
def U2 (p0:GDb) (p1:aQ) (x5:Int):Option Bool :=
  if (decide (x5<(p1.tables.length:Int)))=true then ((idx p1.tables x5)>>=fun y2=>(iB y2 0 (QA .i64 ((p0.tables.length:Int) - 1)))>>=fun y3=>if (!y3)=true then (some false) else (U2 p0 p1 (QA .i64 (x5+1)))) else (some true)
  partial_fixpoint
def aL2 (p0:GDb) (p1:aQ):Option Bool :=
  (some (if (decide ((p1.tables.length:Int)=0))=true then true else (!decide ((p1.on_.length:Int)=(p1.tables.length:Int)))))>>=fun y1=>if y1=true then (some false) else (U2 p0 p1 0)
mutual
def aCu (p0:List aA) (p1:List aA) (p2:List bF) (x7:Int) (x8:Int):Option Bool :=
  if (!decide (x8=0))=true then (some (decide (x8<0))) else (aCh p0 p1 p2 (QA .i64 (x7+1)))
  partial_fixpoint
def aCh (p0:List aA) (p1:List aA) (p2:List bF) (x7:Int):Option Bool :=
  if (decide (x7<(p2.length:Int)))=true then ((idx p0 x7)>>=fun y1=>(idx p1 x7)>>=fun y2=>(xD y1 y2)>>=fun y3=>(idx p2 x7)>>=fun y4=>if y4.desc=true then (aCu p0 p1 p2 x7 (QA .i64 (0 - y3))) else (aCu p0 p1 p2 x7 y3)) else (some false)
  partial_fixpoint
end
def aLc (p0:List aA) (p1:List aA) (p2:List bF):Option Bool :=
  aCh p0 p1 p2 0
def aAv (p0:List aA) (p1:List aA) (x5:Int):Option Bool :=
  if (decide (x5<(p0.length:Int)))=true then ((idx p0 x5)>>=fun y1=>(idx p1 x5)>>=fun y2=>if (!((decide (y1.kind=y2.kind))&&((decide (y1.num=y2.num))&&((decide (y1.text=y2.text))&&true))))=true then (some false) else (aAv p0 p1 (QA .i64 (x5+1)))) else (some true)
  partial_fixpoint
def aKn (p0:List aA) (p1:List aA):Option Bool :=
  if (!decide ((p0.length:Int)=(p1.length:Int)))=true then (some false) else (aAv p0 p1 0)
mutual
def E5 (p0:List (List aA)) (x4:Int) (vQ:List (List aA)):Option (List (List aA)) :=
  aDr p0 vQ (QA .i64 (x4+1))
  partial_fixpoint
def aBt (p0:List (List aA)) (x3:List (List aA)) (x4:Int) (x5:Bool) (x6:Int):Option (List (List aA)) :=
  if (decide (x6<(x3.length:Int)))=true then ((if (true&&(x5==false))=true then idx x3 x6 else some default)>>=fun y1=>(if (true&&(x5==false))=true then idx p0 x4 else some default)>>=fun y2=>(if (true&&(x5==false))=true then aKn y1 y2 else some default)>>=fun y3=>(some (if x5=true then true else y3))>>=fun y4=>aBt p0 x3 x4 y4 (QA .i64 (x6+1))) else (if (!x5)=true then ((idx p0 x4)>>=fun y5=>(aBo y5)>>=fun y6=>(appG 24 x3 ([y6]:List (List aA)))>>=fun y7=>E5 p0 x4 y7) else (E5 p0 x4 x3))
  partial_fixpoint
def aDr (p0:List (List aA)) (x3:List (List aA)) (x4:Int):Option (List (List aA)) :=
  if (decide (x4<(p0.length:Int)))=true then (aBt p0 x3 x4 false 0) else (some x3)
  partial_fixpoint
end
def aGo (p0:List (List aA)):Option (List (List aA)) :=
  aDr p0 ([]:List (List aA)) 0
def aJr (X3:List (List aA)):Option ((List (List aA))×Int) :=
  some (X3,0)
def aAy (p3:aQ) (wJ:List (List aA)):Option ((List (List aA))×Int) :=
  (some (if (decide (0≤p3.limit))=true then (decide (p3.limit<(wJ.length:Int))) else false))>>=fun y8=>if y8=true then ((jA wJ 0 p3.limit)>>=fun y9=>aJr y9) else (aJr wJ)
def aKv (p0:aB) (x20:Bool):Option Bool :=
  if x20=true then ((some (if (decide ((p0.kids.length:Int)=1))=true then (decide ((p0.sub.length:Int)=0)) else false))>>=fun y1=>some y1) else (if (decide (p0.kind=4))=true then ((some (if (decide ((p0.kids.length:Int)=2))=true then (decide ((p0.sub.length:Int)=0)) else false))>>=fun y2=>some y2) else (if (decide (p0.kind=6))=true then ((some (if (decide ((p0.kids.length:Int)=3))=true then (decide ((p0.sub.length:Int)=0)) else false))>>=fun y3=>some y3) else (if (decide (p0.kind=7))=true then ((iB (p0.kids.length:Int) 2 9)>>=fun y4=>(some (if y4=true then (decide ((p0.sub.length:Int)=0)) else false))>>=fun y5=>some y5) else (if (decide (p0.kind=8))=true then ((some (if (decide ((p0.kids.length:Int)=1))=true then (decide ((p0.sub.length:Int)=1)) else false))>>=fun y6=>some y6) else (if (decide (p0.kind=9))=true then ((some (if (decide ((p0.kids.length:Int)=0))=true then (decide ((p0.sub.length:Int)=1)) else false))>>=fun y7=>some y7) else (some false))))))
def aHj (p0:aB) (x13:Bool):Option Bool :=
  if x13=true then (some (decide ((QA .i64 ((p0.kids.length:Int)+(p0.sub.length:Int)))=0))) else (if (decide (p0.kind=3))=true then (aKv p0 (decide (p0.kind=3))) else (aKv p0 (decide (p0.kind=5))))
def aJi (p0:aB):Option Bool :=
  if (decide (p0.kind=1))=true then (aHj p0 (decide (p0.kind=1))) else (aHj p0 (decide (p0.kind=2)))
mutual
def aBj (p2:List (List aA)) (p3:List (List aA)) (p4:List aB) (x12:List (List aA)) (x13:Int) (p0:aR) (kp1:GDb×(List aA)×Int):Option ((List (List aA))×Int) :=
  if (decide (kp1.2.2<(p4.length:Int)))=true then ((idx p3 x13)>>=fun y1=>(aE1 y1 p2)>>=fun y2=>(idx p4 kp1.2.2)>>=fun y3=>(gD p0 kp1.1 y2 y3)>>=fun y4=>if (!decide (y4.2=0))=true then (some (([]:List (List aA)),y4.2)) else ((appG 32 kp1.2.1 ([y4.1]:List aA))>>=fun y5=>aBj p2 p3 p4 x12 x13 p0 (kp1.1,y5,(QA .i64 (kp1.2.2+1))))) else ((appG 24 x12 ([kp1.2.1]:List (List aA)))>>=fun y6=>Q9 p2 p3 p4 p0 kp1.1 y6 (QA .i64 (x13+1)))
  partial_fixpoint
def Q9 (p2:List (List aA)) (p3:List (List aA)) (p4:List aB) (p0:aR) (p1:GDb) (x12:List (List aA)) (x13:Int):Option ((List (List aA))×Int) :=
  if (decide (x13<(p3.length:Int)))=true then (aBj p2 p3 p4 x12 x13 p0 (p1,([]:List aA),0)) else (some (x12,0))
  partial_fixpoint
def aKc (p0:aR) (p1:GDb) (p2:List (List aA)) (p3:List (List aA)) (p4:List aB):Option ((List (List aA))×Int) :=
  Q9 p2 p3 p4 p0 p1 ([]:List (List aA)) 0
  partial_fixpoint
def aG3 (p2:List (List aA)) (p0:aR) (p1:GDb) (p3:aQ) (x11:List (List aA)):Option ((List (List aA))×Int) :=
  (aKc p0 p1 p2 x11 p3.items)>>=fun y5=>if (!decide (y5.2=0))=true then (some (([]:List (List aA)),y5.2)) else (if p3.distinct=true then ((aGo y5.1)>>=fun y6=>aAy p3 y6) else (aAy p3 y5.1))
  partial_fixpoint
def Q6 (p2:List (List aA)) (p3:List (List aA)) (p4:List bF) (x12:List (List aA)) (x13:List (List aA)) (x14:Int) (kx15q:(List aA)×aR×GDb×Int):Option ((List (List aA))×Int) :=
  (if (true&&((decide (0<kx15q.2.2.2))==true))=true then idx x13 (QA .i64 (kx15q.2.2.2 - 1)) else some default)>>=fun y6=>(if (true&&((decide (0<kx15q.2.2.2))==true))=true then aLc kx15q.1 y6 p4 else some default)>>=fun y7=>(some (if (decide (0<kx15q.2.2.2))=true then y7 else false))>>=fun y8=>if y8=true then (Q6 p2 p3 p4 x12 x13 x14 (kx15q.1,kx15q.2.1,kx15q.2.2.1,(QA .i64 (kx15q.2.2.2 - 1)))) else ((jA x12 0 kx15q.2.2.2)>>=fun y9=>(appG 24 ([]:List (List aA)) y9)>>=fun y10=>(idx p3 x14)>>=fun y11=>(appG 24 y10 ([y11]:List (List aA)))>>=fun y12=>(jA x12 kx15q.2.2.2 (x12.length:Int))>>=fun y13=>(appG 24 y12 y13)>>=fun y14=>(jA x13 0 kx15q.2.2.2)>>=fun y15=>(appG 24 ([]:List (List aA)) y15)>>=fun y16=>(appG 24 y16 ([kx15q.1]:List (List aA)))>>=fun y17=>(jA x13 kx15q.2.2.2 (x13.length:Int))>>=fun y18=>(appG 24 y17 y18)>>=fun y19=>zM p2 p3 p4 kx15q.2.1 kx15q.2.2.1 y14 (y19,(QA .i64 (x14+1))))
  partial_fixpoint
def aGx (p2:List (List aA)) (p3:List (List aA)) (p4:List bF) (x12:List (List aA)) (x13:List (List aA)) (x14:Int) (kp0q:aR×GDb×(List aA)×Int):Option ((List (List aA))×Int) :=
  if (decide (kp0q.2.2.2<(p4.length:Int)))=true then ((idx p3 x14)>>=fun y1=>(aE1 y1 p2)>>=fun y2=>(idx p4 kp0q.2.2.2)>>=fun y3=>(gD kp0q.1 kp0q.2.1 y2 y3.expr)>>=fun y4=>if (!decide (y4.2=0))=true then (some (([]:List (List aA)),y4.2)) else ((appG 32 kp0q.2.2.1 ([y4.1]:List aA))>>=fun y5=>aGx p2 p3 p4 x12 x13 x14 (kp0q.1,kp0q.2.1,y5,(QA .i64 (kp0q.2.2.2+1))))) else (Q6 p2 p3 p4 x12 x13 x14 (kp0q.2.2.1,kp0q.1,kp0q.2.1,(x12.length:Int)))
  partial_fixpoint
def zM (p2:List (List aA)) (p3:List (List aA)) (p4:List bF) (p0:aR) (p1:GDb) (x12:List (List aA)) (kx13:(List (List aA))×Int):Option ((List (List aA))×Int) :=
  if (decide (kx13.2<(p3.length:Int)))=true then (aGx p2 p3 p4 x12 kx13.1 kx13.2 (p0,p1,([]:List aA),0)) else (some (x12,0))
  partial_fixpoint
def aJb (p0:aR) (p1:GDb) (p2:List (List aA)) (p3:List (List aA)) (p4:List bF):Option ((List (List aA))×Int) :=
  zM p2 p3 p4 p0 p1 ([]:List (List aA)) (([]:List (List aA)),0)
  partial_fixpoint
def aEf (p2:List (List aA)) (x3:List (List aA)) (p4:List aB) (x12:Int) (x14:Int) (p0:aR) (kp1:GDb×(List (List aA))):Option ((List (List aA))×Int) :=
  aC9 p2 x3 p4 x12 p0 kp1.1 (kp1.2,(QA .i64 (x14+1)))
  partial_fixpoint
def aC9 (p2:List (List aA)) (x3:List (List aA)) (p4:List aB) (x12:Int) (p0:aR) (p1:GDb) (kx13:(List (List aA))×Int):Option ((List (List aA))×Int) :=
  if (decide (kx13.2<(x3.length:Int)))=true then ((idx x3 kx13.2)>>=fun y1=>(aE1 y1 p2)>>=fun y2=>(idx p4 x12)>>=fun y3=>(gD p0 p1 y2 y3)>>=fun y4=>if (!decide (y4.2=0))=true then (some (([]:List (List aA)),y4.2)) else ((aIm y4.1)>>=fun y5=>if y5=true then ((idx x3 kx13.2)>>=fun y6=>(appG 24 kx13.1 ([y6]:List (List aA)))>>=fun y7=>aEf p2 x3 p4 x12 kx13.2 p0 (p1,y7)) else (aEf p2 x3 p4 x12 kx13.2 p0 (p1,kx13.1)))) else (V4 p2 p4 p0 p1 kx13.1 (QA .i64 (x12+1)))
  partial_fixpoint
def V4 (p2:List (List aA)) (p4:List aB) (p0:aR) (p1:GDb) (x3:List (List aA)) (x12:Int):Option ((List (List aA))×Int) :=
  if (decide (x12<(p4.length:Int)))=true then (aC9 p2 x3 p4 x12 p0 p1 (([]:List (List aA)),0)) else (some (x3,0))
  partial_fixpoint
def aDi (p0:aR) (p1:GDb) (p2:List (List aA)) (p3:List (List aA)) (p4:List aB):Option ((List (List aA))×Int) :=
  V4 p2 p4 p0 p1 p3 0
  partial_fixpoint
def aDq (p2:List (List aA)) (x10:List (List aA)) (x11:Int) (y2:jR) (x14:Int) (p0:aR) (kp1:GDb×aQ×(((List (List aA))×Int))):Option ((List (List aA))×Int) :=
  if (decide (kp1.2.2.2<(y2.rows.length:Int)))=true then ((idx x10 x14)>>=fun y6=>(aBo y6)>>=fun y7=>(idx y2.rows kp1.2.2.2)>>=fun y8=>(appG 32 y7 y8)>>=fun y9=>(appG 24 kp1.2.2.1 ([y9]:List (List aA)))>>=fun y10=>aDq p2 x10 x11 y2 x14 p0 (kp1.1,kp1.2.1,y10,(QA .i64 (kp1.2.2.2+1)))) else (aA2 p2 x10 x11 y2 p0 kp1.1 (kp1.2.1,kp1.2.2.1,(QA .i64 (x14+1))))
  partial_fixpoint
def aA2 (p2:List (List aA)) (x10:List (List aA)) (x11:Int) (y2:jR) (p0:aR) (p1:GDb) (kp3q:aQ×(((List (List aA))×Int))):Option ((List (List aA))×Int) :=
  if (decide (kp3q.2.2<(x10.length:Int)))=true then (aDq p2 x10 x11 y2 kp3q.2.2 p0 (p1,kp3q.1,kp3q.2.1,0)) else ((idx kp3q.1.on_ x11)>>=fun y4=>(aDi p0 p1 p2 kp3q.2.1 y4)>>=fun y5=>if (!decide (y5.2=0))=true then (some (([]:List (List aA)),y5.2)) else (Y4 p2 p0 p1 kp3q.1 y5.1 (QA .i64 (x11+1))))
  partial_fixpoint
def Y4 (p2:List (List aA)) (p0:aR) (p1:GDb) (p3:aQ) (x10:List (List aA)) (x11:Int):Option ((List (List aA))×Int) :=
  if (decide (x11<(p3.tables.length:Int)))=true then ((idx p3.tables x11)>>=fun y1=>(idx p1.tables y1)>>=fun y2=>aA2 p2 x10 x11 y2 p0 p1 (p3,([]:List (List aA)),0)) else (some (x10,0))
  partial_fixpoint
def aP4 (p0:aR) (p1:GDb) (p2:List (List aA)) (p3:aQ):Option ((List (List aA))×Int) :=
  Y4 p2 p0 p1 p3 ([([]:List aA)]:List (List aA)) 0
  partial_fixpoint
def wW (p0:aR) (p1:GDb) (p2:List (List aA)) (p3:aQ):Option ((List (List aA))×Int) :=
  (aL2 p1 p3)>>=fun y1=>if (!y1)=true then (some (([]:List (List aA)),4)) else ((aP4 p0 p1 p2 p3)>>=fun y2=>if (!decide (y2.2=0))=true then (some (([]:List (List aA)),y2.2)) else ((aDi p0 p1 p2 y2.1 p3.where_)>>=fun y3=>if (!decide (y3.2=0))=true then (some (([]:List (List aA)),y3.2)) else (if (decide (0<(p3.order.length:Int)))=true then ((aJb p0 p1 p2 y3.1 p3.order)>>=fun y4=>if (!decide (y4.2=0))=true then (some (([]:List (List aA)),y4.2)) else (aG3 p2 p0 p1 p3 y4.1)) else (aG3 p2 p0 p1 p3 y3.1))))
  partial_fixpoint
def aD7 (p2:List (List aA)) (p0:aR) (p1:GDb) (p3:aB) (x10:List aA) (x11:Int):Option (aA×Int) :=
  if (decide (x11<(p3.kids.length:Int)))=true then ((idx p3.kids x11)>>=fun y2=>(gD p0 p1 p2 y2)>>=fun y3=>if (!decide (y3.2=0))=true then (some ((aA.mk 0 0 []),y3.2)) else ((appG 32 x10 ([y3.1]:List aA))>>=fun y4=>aD7 p2 p0 p1 p3 y4 (QA .i64 (x11+1)))) else (if (decide (0<(p3.sub.length:Int)))=true then ((idx p3.sub 0)>>=fun y5=>(wW p0 p1 p2 y5)>>=fun y6=>if (!decide (y6.2=0))=true then (some ((aA.mk 0 0 []),y6.2)) else (wQ p2 x10 p3 y6.1)) else (wQ p2 x10 p3 ([]:List (List aA))))
  partial_fixpoint
def gD (p0:aR) (p1:GDb) (p2:List (List aA)) (p3:aB):Option (aA×Int) :=
  (aJi p3)>>=fun y1=>if (!y1)=true then (some ((aA.mk 0 0 []),4)) else (aD7 p2 p0 p1 p3 ([]:List aA) 0)
  partial_fixpoint
end
def aQ6 (p0:List Int):Option Bool :=
  some (decide (1048576<(p0.length:Int)))
mutual
def D5 (p0:aQ) (jD:List (List aB)) (y4:List (List UInt8)) (y3:List aB) (y2:List aB) (y1:List Int) (kx5:Int×(List bF)):Option aQ :=
  if (decide (kx5.1<(p0.order.length:Int)))=true then ((idx p0.order kx5.1)>>=fun y8=>(xX y8.expr)>>=fun y9=>(idx p0.order kx5.1)>>=fun y10=>(appG 128 kx5.2 ([(bF.mk y9 y10.desc)]:List bF))>>=fun y11=>D5 p0 jD y4 y3 y2 y1 ((QA .i64 (kx5.1+1)),y11)) else (some (aQ.mk y1 jD y2 kx5.2 y3 y4 p0.distinct p0.limit))
  partial_fixpoint
def aEe (p0:aQ) (y4:List (List UInt8)) (y3:List aB) (y2:List aB) (y1:List Int) (x4:Int) (jD:List (List aB)):Option aQ :=
  if (decide (x4<(p0.on_.length:Int)))=true then ((idx p0.on_ x4)>>=fun y5=>(N9 y5)>>=fun y6=>(appG 24 jD ([y6]:List (List aB)))>>=fun y7=>aEe p0 y4 y3 y2 y1 (QA .i64 (x4+1)) y7) else (D5 p0 jD y4 y3 y2 y1 (0,([]:List bF)))
  partial_fixpoint
def aGq (p0:aQ):Option aQ :=
  (appG 8 ([]:List Int) p0.tables)>>=fun y1=>(N9 p0.where_)>>=fun y2=>(N9 p0.items)>>=fun y3=>(appG 16 ([]:List (List UInt8)) p0.names)>>=fun y4=>aEe p0 y4 y3 y2 y1 0 ([]:List (List aB))
  partial_fixpoint
def aFw (p0:aB) (y1:List aB) (x4:Int) (rD:List aQ):Option aB :=
  if (decide (x4<(p0.sub.length:Int)))=true then ((idx p0.sub x4)>>=fun y2=>(aGq y2)>>=fun y3=>(appG 160 rD ([y3]:List aQ))>>=fun y4=>aFw p0 y1 (QA .i64 (x4+1)) y4) else (some (aB.mk p0.kind p0.op p0.not_ p0.value p0.up p0.at_ y1 rD))
  partial_fixpoint
def aEt (p0:List aB) (x4:Int) (iX:List aB):Option (List aB) :=
  if (decide (x4<(p0.length:Int)))=true then ((idx p0 x4)>>=fun y1=>(xX y1)>>=fun y2=>(appG 120 iX ([y2]:List aB))>>=fun y3=>aEt p0 (QA .i64 (x4+1)) y3) else (some iX)
  partial_fixpoint
def N9 (p0:List aB):Option (List aB) :=
  aEt p0 0 ([]:List aB)
  partial_fixpoint
def xX (p0:aB):Option aB :=
  (N9 p0.kids)>>=fun y1=>aFw p0 y1 0 ([]:List aQ)
  partial_fixpoint
end
mutual
def aA4 (p1:Int) (p2:Int) (p0:aQ) (dY:List (List aB)) (eH:List aB) (fU:List bF) (x11:Int) (lC:List aB):Option aQ :=
  if (decide (x11<(lC.length:Int)))=true then ((idx lC x11)>>=fun y9=>(lG y9 p1 p2)>>=fun y10=>aA4 p1 p2 p0 dY eH fU (QA .i64 (x11+1)) (lC.set (x11).toNat y10)) else (some (aQ.mk p0.tables dY eH fU lC p0.names p0.distinct p0.limit))
  partial_fixpoint
def aC8 (p1:Int) (p2:Int) (p0:aQ) (dY:List (List aB)) (eH:List aB) (x10:Int) (fU:List bF):Option aQ :=
  if (decide (x10<(fU.length:Int)))=true then ((idx fU x10)>>=fun y7=>(lG y7.expr p1 p2)>>=fun y8=>aC8 p1 p2 p0 dY eH (QA .i64 (x10+1)) (fU.set (x10).toNat (bF.mk y8 y7.desc))) else (aA4 p1 p2 p0 dY eH fU 0 p0.items)
  partial_fixpoint
def aBv (p1:Int) (p2:Int) (p0:aQ) (dY:List (List aB)) (x9:Int) (eH:List aB):Option aQ :=
  if (decide (x9<(eH.length:Int)))=true then ((idx eH x9)>>=fun y5=>(lG y5 p1 p2)>>=fun y6=>aBv p1 p2 p0 dY (QA .i64 (x9+1)) (eH.set (x9).toNat y6)) else (aC8 p1 p2 p0 dY eH 0 p0.order)
  partial_fixpoint
def aH0 (p1:Int) (p2:Int) (x7:Int) (p0:aQ) (x8:Int) (kV:List (List aB)):Option aQ :=
  (idx kV x7)>>=fun y2=>if (decide (x8<(y2.length:Int)))=true then ((idx y2 x8)>>=fun y3=>(lG y3 p1 p2)>>=fun y4=>aH0 p1 p2 x7 p0 (QA .i64 (x8+1)) (kV.set (x7).toNat (y2.set (x8).toNat y4))) else (R4 p1 p2 p0 (QA .i64 (x7+1)) (kV.set (x7).toNat y2))
  partial_fixpoint
def R4 (p1:Int) (p2:Int) (p0:aQ) (x7:Int) (dY:List (List aB)):Option aQ :=
  if (decide (x7<(dY.length:Int)))=true then (aH0 p1 p2 x7 p0 0 dY) else (aBv p1 p2 p0 dY 0 p0.where_)
  partial_fixpoint
def aF9 (p0:aQ) (p1:Int) (p2:Int):Option aQ :=
  R4 p1 p2 p0 0 p0.on_
  partial_fixpoint
def aE6 (p1:Int) (p2:Int) (p0:aB) (eP:Int) (fV:List aB) (x8:Int) (kX:List aQ):Option aB :=
  if (decide (x8<(kX.length:Int)))=true then ((idx kX x8)>>=fun y4=>(aF9 y4 p1 (QA .i64 (p2+1)))>>=fun y5=>aE6 p1 p2 p0 eP fV (QA .i64 (x8+1)) (kX.set (x8).toNat y5)) else (some (aB.mk p0.kind p0.op p0.not_ p0.value eP p0.at_ fV kX))
  partial_fixpoint
def aH4 (p1:Int) (p2:Int) (p0:aB) (eP:Int) (x7:Int) (fV:List aB):Option aB :=
  if (decide (x7<(fV.length:Int)))=true then ((idx fV x7)>>=fun y2=>(lG y2 p1 p2)>>=fun y3=>aH4 p1 p2 p0 eP (QA .i64 (x7+1)) (fV.set (x7).toNat y3)) else (aE6 p1 p2 p0 eP fV 0 p0.sub)
  partial_fixpoint
def aEr (p1:Int) (p2:Int) (p0:aB) (eP:Int):Option aB :=
  aH4 p1 p2 p0 eP 0 p0.kids
  partial_fixpoint
def lG (p0:aB) (p1:Int) (p2:Int):Option aB :=
  (some (if (decide (p0.kind=2))=true then (decide (p2≤p0.up)) else false))>>=fun y1=>if y1=true then (aEr p1 p2 p0 (QA .i64 (p0.up+p1))) else (aEr p1 p2 p0 p0.up)
  partial_fixpoint
end
def H5 (p0:aQ) (qN:List aB) (x5:Int):Option (List aB) :=
  if (decide (x5<(p0.order.length:Int)))=true then ((idx p0.order x5)>>=fun y5=>(appG 120 qN ([y5.expr]:List aB))>>=fun y6=>H5 p0 y6 (QA .i64 (x5+1))) else ((appG 120 qN p0.items)>>=fun y7=>some y7)
  partial_fixpoint
def aDw (p0:aQ) (x3:List aB) (x4:Int):Option (List aB) :=
  if (decide (x4<(p0.on_.length:Int)))=true then ((idx p0.on_ x4)>>=fun y1=>(appG 120 x3 y1)>>=fun y2=>aDw p0 y2 (QA .i64 (x4+1))) else ((appG 120 x3 p0.where_)>>=fun y3=>H5 p0 y3 0)
  partial_fixpoint
def aKb (p0:aQ):Option (List aB) :=
  aDw p0 ([]:List aB) 0
mutual
def S9 (x4:Int) (y5:List aB) (p0:aB) (x6:Int):Option Bool :=
  if (decide (x6<(y5.length:Int)))=true then ((idx y5 x6)>>=fun y6=>(aC1 y6)>>=fun y7=>if (!y7)=true then (some false) else (S9 x4 y5 p0 (QA .i64 (x6+1)))) else (aBi p0 (QA .i64 (x4+1)))
  partial_fixpoint
def aBi (p0:aB) (x4:Int):Option Bool :=
  if (decide (x4<(p0.sub.length:Int)))=true then ((idx p0.sub x4)>>=fun y4=>(aKb y4)>>=fun y5=>S9 x4 y5 p0 0) else (some true)
  partial_fixpoint
def aD6 (p0:aB) (x3:Int):Option Bool :=
  if (decide (x3<(p0.kids.length:Int)))=true then ((idx p0.kids x3)>>=fun y2=>(aC1 y2)>>=fun y3=>if (!y3)=true then (some false) else (aD6 p0 (QA .i64 (x3+1)))) else (aBi p0 0)
  partial_fixpoint
def aC1 (p0:aB):Option Bool :=
  (iB p0.up 0 1000)>>=fun y1=>if (!y1)=true then (some false) else (aD6 p0 0)
  partial_fixpoint
end
def aK8 (p0:aB) (p1:Int):Option aB :=
  (xX p0)>>=fun y1=>(iB p1 0 1000)>>=fun y2=>(if (true&&((!y2)==false))=true then aC1 p0 else some default)>>=fun y3=>(some (if (!y2)=true then true else (!y3)))>>=fun y4=>if y4=true then (some y1) else ((lG y1 p1 0)>>=fun y5=>some y5)
def Y6 (p0:aA):Option Bool :=
  (nW p0)>>=fun y1=>(if (true&&(y1==true))=true then some (if (!decide (p0.kind=1))=true then true else (decide (0≤p0.num))) else some default)>>=fun y2=>(some (if y1=true then y2 else false))>>=fun y3=>(some (if y3=true then (decide ((p0.text.length:Int)≤40)) else false))>>=fun y4=>some y4
def wV (p0:List UInt8):Option Bool :=
  (iB (p0.length:Int) 1 20)>>=fun y1=>some y1
def N8 (p0:List UInt8):Option Bool :=
  (if (true&&((decide (p0=[]))==false))=true then wV p0 else some default)>>=fun y1=>(some (if (decide (p0=[]))=true then true else y1))>>=fun y2=>some y2
def aCf (p0:eT):Option Bool :=
  (if (true&&((!decide (p0.kind=2))==true))=true then some (if (!decide (p0.qual=[]))=true then true else (!decide (p0.name=[]))) else some default)>>=fun y1=>(some (if (!decide (p0.kind=2))=true then y1 else false))>>=fun y2=>(if (true&&(y2==false))=true then some (if (!decide (p0.kind=1))=true then (!((decide (p0.value.kind=0))&&((decide (p0.value.num=0))&&((decide (p0.value.text=[]))&&true)))) else false) else some default)>>=fun y3=>(some (if y2=true then true else y3))>>=fun y4=>if y4=true then (some false) else ((some (if (!decide (p0.kind=3))=true then (!decide (p0.kind=4)) else false))>>=fun y5=>(some (if y5=true then (!decide (p0.op=0)) else false))>>=fun y6=>(if ((true&&(y6==false))&&(p0.not_==true))=true then iB p0.kind 5 8 else some default)>>=fun y7=>(if (true&&(y6==false))=true then some (if p0.not_=true then (!y7) else false) else some default)>>=fun y8=>(some (if y6=true then true else y8))>>=fun y9=>if y9=true then (some false) else (if (decide (p0.kind=1))=true then ((Y6 p0.value)>>=fun y10=>(some (if y10=true then (decide ((QA .i64 ((p0.kids.length:Int)+(p0.sub.length:Int)))=0)) else false))>>=fun y11=>some y11) else (if (decide (p0.kind=2))=true then ((wV p0.name)>>=fun y12=>(if (true&&(y12==true))=true then N8 p0.qual else some default)>>=fun y13=>(some (if y12=true then y13 else false))>>=fun y14=>(some (if y14=true then (decide ((QA .i64 ((p0.kids.length:Int)+(p0.sub.length:Int)))=0)) else false))>>=fun y15=>some y15) else (if (decide (p0.kind=3))=true then ((some (if (decide (p0.op=15))=true then true else (decide (p0.op=16))))>>=fun y16=>(some (if y16=true then (decide ((p0.kids.length:Int)=1)) else false))>>=fun y17=>(some (if y17=true then (decide ((p0.sub.length:Int)=0)) else false))>>=fun y18=>some y18) else (if (decide (p0.kind=4))=true then ((iB p0.op 1 14)>>=fun y19=>(some (if y19=true then (decide ((p0.kids.length:Int)=2)) else false))>>=fun y20=>(some (if y20=true then (decide ((p0.sub.length:Int)=0)) else false))>>=fun y21=>some y21) else (if (decide (p0.kind=5))=true then ((some (if (decide ((p0.kids.length:Int)=1))=true then (decide ((p0.sub.length:Int)=0)) else false))>>=fun y22=>some y22) else (if (decide (p0.kind=6))=true then ((some (if (decide ((p0.kids.length:Int)=3))=true then (decide ((p0.sub.length:Int)=0)) else false))>>=fun y23=>some y23) else (if (decide (p0.kind=7))=true then ((iB (p0.kids.length:Int) 2 9)>>=fun y24=>(some (if y24=true then (decide ((p0.sub.length:Int)=0)) else false))>>=fun y25=>some y25) else (if (decide (p0.kind=8))=true then ((some (if (decide ((p0.kids.length:Int)=1))=true then (decide ((p0.sub.length:Int)=1)) else false))>>=fun y26=>some y26) else (if (decide (p0.kind=9))=true then ((some (if (decide ((p0.kids.length:Int)=0))=true then (decide ((p0.sub.length:Int)=1)) else false))>>=fun y27=>some y27) else (some false)))))))))))
def aKs (p0:aB) (y3:List eT) (y4:List jV) (oV:List UInt8):Option Bool :=
  (aCf (eT.mk p0.kind p0.op p0.not_ p0.value [] oV y3 y4))>>=fun y5=>some y5
def R5 (p0:aB):Option Bool :=
  (if (true&&((!decide (p0.kind=2))==true))=true then some (if (!decide (p0.up=0))=true then true else (!decide (p0.at_=0))) else some default)>>=fun y1=>(some (if (!decide (p0.kind=2))=true then y1 else false))>>=fun y2=>if y2=true then (some false) else ((mkG 136 (p0.kids.length:Int) ((eT.mk 0 0 false (aA.mk 0 0 []) [] [] ([]:List eT) ([]:List jV)):eT))>>=fun y3=>(mkG 112 (p0.sub.length:Int) ((jV.mk false ([]:List rH) ([]:List qV) ([]:List eT) ([]:List qW) 0):jV))>>=fun y4=>if (decide (p0.kind=2))=true then (aKs p0 y3 y4 [97]) else (aKs p0 y3 y4 []))
def uX (p0:Int) (p1:Bool):Option (Int×Bool) :=
  if (!p1)=true then (some (0,false)) else (some (p0,true))
def aD2 (p0:Int) (p1:Int):Option Bool :=
  (some (if (decide (p0=0))=true then true else (decide (p0=p1))))>>=fun y1=>some y1
def aIw (p1:Int) (p2:Int) (x10:Int):Option (Int×Bool) :=
  (aD2 p1 x10)>>=fun y12=>(if (true&&(y12==true))=true then aD2 p2 x10 else some default)>>=fun y13=>(some (if y12=true then y13 else false))>>=fun y14=>(uX x10 y14)>>=fun y15=>some (y15.1,y15.2)
def P5 (p0:Int):Option Bool :=
  (iB p0 0 3)>>=fun y1=>some y1
def aA6 (p0:Int) (p1:Int):Option (Int×Bool) :=
  (P5 p0)>>=fun y1=>(if (true&&((!y1)==false))=true then P5 p1 else some default)>>=fun y2=>(some (if (!y1)=true then true else (!y2)))>>=fun y3=>if y3=true then (some (0,false)) else (if (decide (p0=0))=true then (some (p1,true)) else ((some (if (decide (p1=0))=true then true else (decide (p0=p1))))>>=fun y4=>if y4=true then (some (p0,true)) else (some (0,false))))
def aBf (p0:Int):Option Bool :=
  (some (if (decide (p0=0))=true then true else (decide (p0=3))))>>=fun y1=>some y1
def aIl (p0:Int) (p1:Int) (p2:Int):Option (Int×Bool) :=
  (iB p0 1 14)>>=fun y1=>(if (true&&((!y1)==false))=true then P5 p1 else some default)>>=fun y2=>(some (if (!y1)=true then true else (!y2)))>>=fun y3=>(if (true&&(y3==false))=true then P5 p2 else some default)>>=fun y4=>(some (if y3=true then true else (!y4)))>>=fun y5=>if y5=true then (some (0,false)) else (if (decide (p0≤2))=true then ((aBf p1)>>=fun y6=>(if (true&&(y6==true))=true then aBf p2 else some default)>>=fun y7=>(some (if y6=true then y7 else false))>>=fun y8=>(uX 3 y8)>>=fun y9=>some (y9.1,y9.2)) else (if (decide (p0≤8))=true then ((aA6 p1 p2)>>=fun y10=>(uX 3 y10.2)>>=fun y11=>some (y11.1,y11.2)) else (if (decide (p0=9))=true then (aIw p1 p2 2) else (aIw p1 p2 1))))
def M0 (p0:aR) (p1:aQ) (x6:Int):Option Bool :=
  if (decide (x6<(p1.names.length:Int)))=true then ((idx p1.names x6)>>=fun y12=>(wV y12)>>=fun y13=>if (!y13)=true then (some false) else (M0 p0 p1 (QA .i64 (x6+1)))) else ((zU p0 p1.tables)>>=fun y14=>some y14.2)
  partial_fixpoint
def zX (p0:aR) (p1:aQ) (x5:Int):Option Bool :=
  if (decide (x5<(p1.on_.length:Int)))=true then ((idx p1.on_ x5)>>=fun y11=>if (decide (1<(y11.length:Int)))=true then (some false) else (zX p0 p1 (QA .i64 (x5+1)))) else (M0 p0 p1 0)
  partial_fixpoint
def aHg (p0:aR) (p1:aQ):Option Bool :=
  (iB (p1.tables.length:Int) 1 3)>>=fun y1=>(some (if (!y1)=true then true else (!decide ((p1.on_.length:Int)=(p1.tables.length:Int)))))>>=fun y2=>(if (true&&(y2==false))=true then idx p1.on_ 0 else some default)>>=fun y3=>(some (if y2=true then true else (decide (0<(y3.length:Int)))))>>=fun y4=>(some (if y4=true then true else (decide (1<(p1.where_.length:Int)))))>>=fun y5=>(some (if y5=true then true else (decide (12<(p1.order.length:Int)))))>>=fun y6=>(if (true&&(y6==false))=true then iB (p1.items.length:Int) 1 12 else some default)>>=fun y7=>(some (if y6=true then true else (!y7)))>>=fun y8=>(some (if y8=true then true else (!decide ((p1.names.length:Int)=(p1.items.length:Int)))))>>=fun y9=>(some (if y9=true then true else (decide (p1.limit<(-1)))))>>=fun y10=>if y10=true then (some false) else (zX p0 p1 0)
def O3 (p0:List Int) (x3:Int) (x4:Int):Option Bool :=
  if (decide (x4<(p0.length:Int)))=true then ((idx p0 x4)>>=fun y1=>(aA6 x3 y1)>>=fun y2=>if (!y2.2)=true then (some false) else (O3 p0 y2.1 (QA .i64 (x4+1)))) else (some true)
  partial_fixpoint
def T9 (p0:List Int):Option Bool :=
  O3 p0 0 0
def zA (p2:aB) (aAa:List Int):Option (Int×Bool) :=
  if (decide (p2.kind=5))=true then (some (3,true)) else ((T9 aAa)>>=fun y23=>(uX 3 y23)>>=fun y24=>some (y24.1,y24.2))
def aI1 (p0:Int) (p1:Int):Option (Int×Bool) :=
  if (decide (p0=15))=true then ((aBf p1)>>=fun y1=>(uX 3 y1)>>=fun y2=>some (y2.1,y2.2)) else (if (decide (p0=16))=true then ((aD2 p1 1)>>=fun y3=>(uX 1 y3)>>=fun y4=>some (y4.1,y4.2)) else (some (0,false)))
mutual
def J6 (y8:List (List Int)) (p0:aR) (p2:aQ) (x17:List Int) (x18:Int):Option ((List Int)×Bool) :=
  if (decide (x18<(p2.items.length:Int)))=true then ((idx p2.items x18)>>=fun y12=>(M3 p0 y8 y12)>>=fun y13=>if (!y13.2)=true then (some (([]:List Int),false)) else ((appG 8 x17 ([y13.1]:List Int))>>=fun y14=>J6 y8 p0 p2 y14 (QA .i64 (x18+1)))) else (some (x17,true))
  partial_fixpoint
def aAl (y8:List (List Int)) (p0:aR) (p2:aQ) (x14:Int):Option ((List Int)×Bool) :=
  if (decide (x14<(p2.order.length:Int)))=true then ((idx p2.order x14)>>=fun y10=>(M3 p0 y8 y10.expr)>>=fun y11=>if (!y11.2)=true then (some (([]:List Int),false)) else (aAl y8 p0 p2 (QA .i64 (x14+1)))) else (J6 y8 p0 p2 ([]:List Int) 0)
  partial_fixpoint
def aDy (p1:List (List Int)) (p2:List aB) (p0:aR) (x7:Int):Option Bool :=
  if (decide (x7<(p2.length:Int)))=true then ((idx p2 x7)>>=fun y1=>(M3 p0 p1 y1)>>=fun y2=>(if (true&&((!y2.2)==false))=true then aBf y2.1 else some default)>>=fun y3=>(some (if (!y2.2)=true then true else (!y3)))>>=fun y4=>if y4=true then (some false) else (aDy p1 p2 p0 (QA .i64 (x7+1)))) else (some true)
  partial_fixpoint
def aH9 (p0:aR) (p1:List (List Int)) (p2:List aB):Option Bool :=
  aDy p1 p2 p0 0
  partial_fixpoint
def aCz (p1:List (List Int)) (p0:aR) (p2:aQ) (x8:Int):Option ((List Int)×Bool) :=
  if (decide (x8<(p2.on_.length:Int)))=true then ((jA p2.tables 0 (QA .i64 (x8+1)))>>=fun y2=>(zU p0 y2)>>=fun y3=>(aA9 y3.1 p1)>>=fun y4=>(idx p2.on_ x8)>>=fun y5=>(aH9 p0 y4 y5)>>=fun y6=>if (!y6)=true then (some (([]:List Int),false)) else (aCz p1 p0 p2 (QA .i64 (x8+1)))) else ((zU p0 p2.tables)>>=fun y7=>(aA9 y7.1 p1)>>=fun y8=>(aH9 p0 y8 p2.where_)>>=fun y9=>if (!y9)=true then (some (([]:List Int),false)) else (aAl y8 p0 p2 0))
  partial_fixpoint
def aL9 (p0:aR) (p1:List (List Int)) (p2:aQ):Option ((List Int)×Bool) :=
  (aHg p0 p2)>>=fun y1=>if (!y1)=true then (some (([]:List Int),false)) else (aCz p1 p0 p2 0)
  partial_fixpoint
def tJ (p1:List (List Int)) (p0:aR) (p2:aB) (x8:List Int) (x9:Int):Option (Int×Bool) :=
  if (decide (x9<(p2.kids.length:Int)))=true then ((idx p2.kids x9)>>=fun y2=>(M3 p0 p1 y2)>>=fun y3=>if (!y3.2)=true then (some (0,false)) else ((appG 8 x8 ([y3.1]:List Int))>>=fun y4=>tJ p1 p0 p2 y4 (QA .i64 (x9+1)))) else (if (decide (p2.kind=1))=true then (some (p2.value.kind,true)) else (if (decide (p2.kind=2))=true then ((iB p2.up 0 (QA .i64 ((p1.length:Int) - 1)))>>=fun y5=>(if (true&&((!y5)==false))=true then idx p1 p2.up else some default)>>=fun y6=>(if (true&&((!y5)==false))=true then iB p2.at_ 0 (QA .i64 ((y6.length:Int) - 1)) else some default)>>=fun y7=>(some (if (!y5)=true then true else (!y7)))>>=fun y8=>if y8=true then (some (0,false)) else ((idx p1 p2.up)>>=fun y9=>(idx y9 p2.at_)>>=fun y10=>some (y10,true))) else (if (decide (p2.kind=3))=true then ((idx x8 0)>>=fun y11=>(aI1 p2.op y11)>>=fun y12=>some (y12.1,y12.2)) else (if (decide (p2.kind=4))=true then ((idx x8 0)>>=fun y13=>(idx x8 1)>>=fun y14=>(aIl p2.op y13 y14)>>=fun y15=>some (y15.1,y15.2)) else (if (decide (0<(p2.sub.length:Int)))=true then ((idx p2.sub 0)>>=fun y16=>(aL9 p0 p1 y16)>>=fun y17=>(if (true&&((!y17.2)==false))=true then some (if (decide (p2.kind=8))=true then (!decide ((y17.1.length:Int)=1)) else false) else some default)>>=fun y18=>(some (if (!y17.2)=true then true else y18))>>=fun y19=>if y19=true then (some (0,false)) else (if (decide (p2.kind=8))=true then ((idx y17.1 0)>>=fun y20=>(appG 8 x8 ([y20]:List Int))>>=fun y21=>zA p2 y21) else (zA p2 x8))) else (zA p2 x8))))))
  partial_fixpoint
def M3 (p0:aR) (p1:List (List Int)) (p2:aB):Option (Int×Bool) :=
  (R5 p2)>>=fun y1=>if (!y1)=true then (some (0,false)) else (tJ p1 p0 p2 ([]:List Int) 0)
  partial_fixpoint
end
mutual
def Y0 (y2:aR×GDb×(List (List aA))×aB) (y3:aA×Int) (x11:List (List Int)) (x12:Int) (x13:List Int) (x14:Int):Option Bool :=
  (idx y2.2.2.1 x12)>>=fun y17=>if (decide (x14<(y17.length:Int)))=true then ((idx y2.2.2.1 x12)>>=fun y18=>(idx y18 x14)>>=fun y19=>(appG 8 x13 ([y19.kind]:List Int))>>=fun y20=>Y0 y2 y3 x11 x12 y20 (QA .i64 (x14+1))) else ((appG 24 x11 ([x13]:List (List Int)))>>=fun y21=>xP y2 y3 y21 (QA .i64 (x12+1)))
  partial_fixpoint
def xP (y2:aR×GDb×(List (List aA))×aB) (y3:aA×Int) (x11:List (List Int)) (x12:Int):Option Bool :=
  if (decide (x12<(y2.2.2.1.length:Int)))=true then (Y0 y2 y3 x11 x12 ([]:List Int) 0) else ((M3 y2.1 x11 y2.2.2.2)>>=fun y5=>if (!y5.2)=true then (some true) else ((appG 24 ([]:List (List aA)) y2.2.2.1)>>=fun y6=>(xG 7)>>=fun y7=>(appG 24 y6 ([([y7]:List aA)]:List (List aA)))>>=fun y8=>(rO y2.1 y2.2.1 y8 y2.2.2.2)>>=fun y9=>(xG 8)>>=fun y10=>(appG 24 ([([]:List aA),([y10]:List aA)]:List (List aA)) y2.2.2.1)>>=fun y11=>(aK8 y2.2.2.2 2)>>=fun y12=>(rO y2.1 y2.2.1 y11 y12)>>=fun y13=>(some (if (decide (y9.2=y3.2))=true then (decide (y13.2=y3.2)) else false))>>=fun y14=>(some (if y14=true then ((decide (y9.1.kind=y3.1.kind))&&((decide (y9.1.num=y3.1.num))&&((decide (y9.1.text=y3.1.text))&&true))) else false))>>=fun y15=>(some (if y15=true then ((decide (y13.1.kind=y3.1.kind))&&((decide (y13.1.num=y3.1.num))&&((decide (y13.1.text=y3.1.text))&&true))) else false))>>=fun y16=>some y16))
  partial_fixpoint
end
def aIp (p0:List Int):Option Bool :=
  (aQ6 p0)>>=fun y1=>if y1=true then (some true) else ((aL3 p0)>>=fun y2=>(rO y2.1 y2.2.1 y2.2.2.1 y2.2.2.2)>>=fun y3=>(gD y2.1 y2.2.1 y2.2.2.1 y2.2.2.2)>>=fun y4=>if (!decide (y3.2=y4.2))=true then (some false) else (xP y2 y3 ([]:List (List Int)) 0))
end Go.Ab
