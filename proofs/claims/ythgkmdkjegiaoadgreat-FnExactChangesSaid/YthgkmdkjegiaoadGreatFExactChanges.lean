/- The functions of the program,as Lean functions (printed by a program). -/
import Derived.Test.YthgkmdkjegiaoadGreatAbF0
namespace Go.Ab
open Go
structure bL where
  name:(List UInt8)
  type:Int
instance:Inhabited bL:=⟨(bL.mk [] 0)⟩
structure bD where
  name:(List UInt8)
  cols:(List bL)
instance:Inhabited bD:=⟨(bD.mk [] [])⟩
structure aJ where
  tables:(List bD)
instance:Inhabited aJ:=⟨(aJ.mk [])⟩
structure dF where
  kind:Int
  num:Int
  text:(List UInt8)
instance:Inhabited dF:=⟨(dF.mk 0 0 [])⟩
mutual
structure aA where
  kind:Int
  op:Int
  not_:Bool
  value:dF
  up:Int
  at_:Int
  kids:(List aA)
  sub:(List aB)
structure aY where
  expr:aA
  desc:Bool
structure aB where
  tables:(List Int)
  on_:(List (List aA))
  where_:(List aA)
  order:(List aY)
  items:(List aA)
  names:(List (List UInt8))
  distinct:Bool
  limit:Int
end
instance:Inhabited aA:=⟨(aA.mk 0 0 false (dF.mk 0 0 []) 0 0 [] [])⟩
instance:Inhabited aY:=⟨(aY.mk (aA.mk 0 0 false (dF.mk 0 0 []) 0 0 [] []) false)⟩
instance:Inhabited aB:=⟨(aB.mk [] [] [] [] [] [] false 0)⟩
structure bM where
  kind:Int
  plan:aB
  table:Int
  rows:(List (List aA))
  cols:(List Int)
  sets:(List aA)
  where_:(List aA)
instance:Inhabited bM:=⟨(bM.mk 0 (aB.mk [] [] [] [] [] [] false 0) 0 [] [] [] [])⟩
mutual
structure cO where
  kind:Int
  op:Int
  not_:Bool
  value:dF
  qual:(List UInt8)
  name:(List UInt8)
  kids:(List cO)
  sub:(List eY)
structure jG where
  star:Bool
  qual:(List UInt8)
  expr:cO
  as_:(List UInt8)
structure eY where
  distinct:Bool
  items:(List jG)
  from_:(List jM)
  where_:(List cO)
  order:(List jC)
  limit:Int
structure jC where
  expr:cO
  desc:Bool
structure jM where
  table:(List UInt8)
  as_:(List UInt8)
  on_:(List cO)
end
instance:Inhabited cO:=⟨(cO.mk 0 0 false (dF.mk 0 0 []) [] [] [] [])⟩
instance:Inhabited jG:=⟨(jG.mk false [] (cO.mk 0 0 false (dF.mk 0 0 []) [] [] [] []) [])⟩
instance:Inhabited eY:=⟨(eY.mk false [] [] [] [] 0)⟩
instance:Inhabited jC:=⟨(jC.mk (cO.mk 0 0 false (dF.mk 0 0 []) [] [] [] []) false)⟩
instance:Inhabited jM:=⟨(jM.mk [] [] [])⟩
structure fV where
  op:Bool
  not_:Bool
  value:Bool
  name:Bool
  least:Int
  most:Int
  subs:Int
instance:Inhabited fV:=⟨(fV.mk false false false false 0 0 0)⟩
def okGCol (x:bL):Prop:=okS x.name∧okI x.type
def okGTable (x:bD):Prop:=okS x.name∧(okL okGCol) x.cols
def okGCatalog (x:aJ):Prop:=(okL okGTable) x.tables
def okGValue (x:dF):Prop:=okI x.kind∧okI x.num∧okS x.text
mutual
def okGPExpr:aA→Prop
  | ⟨a0,a1,a2,a3,a4,a5,a6,a7⟩=>okI a0∧okI a1∧okB a2∧okGValue a3∧okI a4∧okI a5∧(a6.length≤9223372036854775807∧okLGPExpr a6)∧(a7.length≤9223372036854775807∧okLGPlan a7)
def okGPSort:aY→Prop
  | ⟨a0,a1⟩=>okGPExpr a0∧okB a1
def okGPlan:aB→Prop
  | ⟨a0,a1,a2,a3,a4,a5,a6,a7⟩=>(okL okI) a0∧(a1.length≤9223372036854775807∧okLLGPExpr a1)∧(a2.length≤9223372036854775807∧okLGPExpr a2)∧(a3.length≤9223372036854775807∧okLGPSort a3)∧(a4.length≤9223372036854775807∧okLGPExpr a4)∧(okL okS) a5∧okB a6∧okI a7
def okLGPExpr:List aA→Prop
  | []=>True
  | x::l=>okGPExpr x∧okLGPExpr l
def okLGPSort:List aY→Prop
  | []=>True
  | x::l=>okGPSort x∧okLGPSort l
def okLGPlan:List aB→Prop
  | []=>True
  | x::l=>okGPlan x∧okLGPlan l
def okLLGPExpr:List (List aA)→Prop
  | []=>True
  | x::l=>(x.length≤9223372036854775807∧okLGPExpr x)∧okLLGPExpr l
end
def okGSPlan (x:bM):Prop:=okI x.kind∧okGPlan x.plan∧okI x.table∧(okL (okL okGPExpr)) x.rows∧(okL okI) x.cols∧(okL okGPExpr) x.sets∧(okL okGPExpr) x.where_
mutual
def okGExpr:cO→Prop
  | ⟨a0,a1,a2,a3,a4,a5,a6,a7⟩=>okI a0∧okI a1∧okB a2∧okGValue a3∧okS a4∧okS a5∧(a6.length≤9223372036854775807∧okLGExpr a6)∧(a7.length≤9223372036854775807∧okLGQuery a7)
def okGItem:jG→Prop
  | ⟨a0,a1,a2,a3⟩=>okB a0∧okS a1∧okGExpr a2∧okS a3
def okGQuery:eY→Prop
  | ⟨a0,a1,a2,a3,a4,a5⟩=>okB a0∧(a1.length≤9223372036854775807∧okLGItem a1)∧(a2.length≤9223372036854775807∧okLGSource a2)∧(a3.length≤9223372036854775807∧okLGExpr a3)∧(a4.length≤9223372036854775807∧okLGSortKey a4)∧okI a5
def okGSortKey:jC→Prop
  | ⟨a0,a1⟩=>okGExpr a0∧okB a1
def okGSource:jM→Prop
  | ⟨a0,a1,a2⟩=>okS a0∧okS a1∧(a2.length≤9223372036854775807∧okLGExpr a2)
def okLGExpr:List cO→Prop
  | []=>True
  | x::l=>okGExpr x∧okLGExpr l
def okLGItem:List jG→Prop
  | []=>True
  | x::l=>okGItem x∧okLGItem l
def okLGQuery:List eY→Prop
  | []=>True
  | x::l=>okGQuery x∧okLGQuery l
def okLGSortKey:List jC→Prop
  | []=>True
  | x::l=>okGSortKey x∧okLGSortKey l
def okLGSource:List jM→Prop
  | []=>True
  | x::l=>okGSource x∧okLGSource l
end
def okGForm (x:fV):Prop:=okB x.op∧okB x.not_∧okB x.value∧okB x.name∧okI x.least∧okI x.most∧okI x.subs
def V9 (p0:Int):Option Bool :=
  (some (if (decide (0≤p0))=true then (decide (p0≤3)) else false))>>=fun y1=>some y1
def xZ (p0:Int) (p1:Int):Option (Int×Bool) :=
  (V9 p0)>>=fun y1=>(if (true&&((!y1)==false))=true then V9 p1 else some default)>>=fun y2=>(some (if (!y1)=true then true else (!y2)))>>=fun y3=>if y3=true then (some (0,false)) else (if (decide (p0=0))=true then (some (p1,true)) else ((some (if (decide (p1=0))=true then true else (decide (p0=p1))))>>=fun y4=>if y4=true then (some (p0,true)) else (some (0,false))))
def aA9 (p0:dF):Option Bool :=
  if (decide (p0.kind=0))=true then ((some (if (decide (p0.num=0))=true then (decide (p0.text=[])) else false))>>=fun y1=>some y1) else (if (decide (p0.kind=1))=true then (some (decide (p0.text=[]))) else (if (decide (p0.kind=2))=true then ((some (if (decide (p0.num=0))=true then (decide ((p0.text.length:Int)≤200)) else false))>>=fun y2=>some y2) else (if (decide (p0.kind=3))=true then ((some (if (decide (p0.num=0))=true then true else (decide (p0.num=1))))>>=fun y3=>(some (if y3=true then (decide (p0.text=[])) else false))>>=fun y4=>some y4) else (some false))))
def D5 (p0:dF):Option Bool :=
  (aA9 p0)>>=fun y1=>(if (true&&(y1==true))=true then some (if (!decide (p0.kind=1))=true then true else (decide (0≤p0.num))) else some default)>>=fun y2=>(some (if y1=true then y2 else false))>>=fun y3=>(some (if y3=true then (decide ((p0.text.length:Int)≤40)) else false))>>=fun y4=>some y4
def jY (p0:(List UInt8)):Option Bool :=
  (some (if (decide (1≤(p0.length:Int)))=true then (decide ((p0.length:Int)≤20)) else false))>>=fun y1=>some y1
def wQ (p0:cO):Option (fV×Bool) :=
  if (decide (p0.kind=1))=true then ((D5 p0.value)>>=fun y1=>some ((fV.mk false false true false 0 0 0),y1)) else (if (decide (p0.kind=2))=true then ((jY p0.name)>>=fun y2=>(if ((true&&(y2==true))&&((decide (p0.qual=[]))==false))=true then jY p0.qual else some default)>>=fun y3=>(if (true&&(y2==true))=true then some (if (decide (p0.qual=[]))=true then true else y3) else some default)>>=fun y4=>(some (if y2=true then y4 else false))>>=fun y5=>some ((fV.mk false false false true 0 0 0),y5)) else (if (decide (p0.kind=3))=true then ((some (if (decide (p0.op=15))=true then true else (decide (p0.op=16))))>>=fun y6=>some ((fV.mk true false false false 1 1 0),y6)) else (if (decide (p0.kind=4))=true then ((some (if (decide (1≤p0.op))=true then (decide (p0.op≤14)) else false))>>=fun y7=>some ((fV.mk true false false false 2 2 0),y7)) else (if (decide (p0.kind=5))=true then (some ((fV.mk false true false false 1 1 0),true)) else (if (decide (p0.kind=6))=true then (some ((fV.mk false true false false 3 3 0),true)) else (if (decide (p0.kind=7))=true then (some ((fV.mk false true false false 2 9 0),true)) else (if (decide (p0.kind=8))=true then (some ((fV.mk false true false false 1 1 1),true)) else (if (decide (p0.kind=9))=true then (some ((fV.mk false false false false 0 0 1),true)) else (some ((fV.mk false false false false 0 0 0),false))))))))))
def yN (p0:aA):Option Bool :=
  (wQ (cO.mk p0.kind p0.op false p0.value [] [120] ([]:List cO) ([]:List eY)))>>=fun y1=>(if (true&&(y1.2==true))=true then some (if y1.1.op=true then true else (decide (p0.op=0))) else some default)>>=fun y2=>(some (if y1.2=true then y2 else false))>>=fun y3=>(if (true&&(y3==true))=true then some (if y1.1.not_=true then true else (!p0.not_)) else some default)>>=fun y4=>(some (if y3=true then y4 else false))>>=fun y5=>(if (true&&(y5==true))=true then some (if y1.1.value=true then true else ((decide (p0.value.kind=0))&&((decide (p0.value.num=0))&&((decide (p0.value.text=[]))&&true)))) else some default)>>=fun y6=>(some (if y5=true then y6 else false))>>=fun y7=>(if ((true&&(y7==true))&&(y1.1.name==false))=true then some (if (decide (p0.up=0))=true then (decide (p0.at_=0)) else false) else some default)>>=fun y8=>(if (true&&(y7==true))=true then some (if y1.1.name=true then true else y8) else some default)>>=fun y9=>(some (if y7=true then y9 else false))>>=fun y10=>(some (if y10=true then (decide (y1.1.least≤(p0.kids.length:Int))) else false))>>=fun y11=>(some (if y11=true then (decide ((p0.kids.length:Int)≤y1.1.most)) else false))>>=fun y12=>(some (if y12=true then (decide ((p0.sub.length:Int)=y1.1.subs)) else false))>>=fun y13=>some y13
def aB0 (p0:(List aA)):Option Bool :=
  some (decide (1<(p0.length:Int)))
def rV (p0:(List (List aA))) (x8:Int):Option Int :=
  if (decide (x8<(p0.length:Int)))=true then ((idx p0 x8)>>=fun y1=>(aB0 y1)>>=fun y2=>if y2=true then (some x8) else (rV p0 (IntKind.wrap .i64 (x8+1)))) else (some (-1))
  partial_fixpoint
def aFk (p0:(List (List aA))):Option Int :=
  rV p0 0
def R7 (p0:(List (List aA))):Option Bool :=
  (aFk p0)>>=fun y1=>some (decide (0≤y1))
def X9 (p0:(List UInt8)):Option Bool :=
  (jY p0)>>=fun y1=>some (!y1)
def rH (p0:(List (List UInt8))) (x8:Int):Option Int :=
  if (decide (x8<(p0.length:Int)))=true then ((idx p0 x8)>>=fun y1=>(X9 y1)>>=fun y2=>if y2=true then (some x8) else (rH p0 (IntKind.wrap .i64 (x8+1)))) else (some (-1))
  partial_fixpoint
def aBu (p0:(List (List UInt8))):Option Int :=
  rH p0 0
def aAn (p0:(List (List UInt8))):Option Bool :=
  (aBu p0)>>=fun y1=>some (decide (0≤y1))
def M7 (p0:aB):Option Bool :=
  (some (if (decide ((p0.tables.length:Int)<1))=true then true else (decide (3<(p0.tables.length:Int)))))>>=fun y1=>(some (if y1=true then true else (!decide ((p0.on_.length:Int)=(p0.tables.length:Int)))))>>=fun y2=>(if (true&&(y2==false))=true then idx p0.on_ 0 else some default)>>=fun y3=>(some (if y2=true then true else (decide (0<(y3.length:Int)))))>>=fun y4=>(some (if y4=true then true else (decide (1<(p0.where_.length:Int)))))>>=fun y5=>(some (if y5=true then true else (decide (12<(p0.order.length:Int)))))>>=fun y6=>if y6=true then (some false) else ((some (if (decide (1≤(p0.items.length:Int)))=true then (decide ((p0.items.length:Int)≤12)) else false))>>=fun y7=>(some (if y7=true then (decide ((p0.names.length:Int)=(p0.items.length:Int))) else false))>>=fun y8=>(some (if y8=true then (decide ((-1)≤p0.limit)) else false))>>=fun y9=>(if (true&&(y9==true))=true then R7 p0.on_ else some default)>>=fun y10=>(some (if y9=true then (!y10) else false))>>=fun y11=>(if (true&&(y11==true))=true then aAn p0.names else some default)>>=fun y12=>(some (if y11=true then (!y12) else false))>>=fun y13=>some y13)
def xW (p0:Int):Option Bool :=
  (some (if (decide (p0=0))=true then true else (decide (p0=3))))>>=fun y1=>some y1
def I1 (p0:(List Int)) (p1:(List (List Int))):Option (List (List Int)) :=
  (appG 24 ([p0]:List (List Int)) p1)>>=fun y1=>some y1
def rX (p0:bD) (x3:(List Int)) (x10:Int):Option (List Int) :=
  if (decide (x10<(p0.cols.length:Int)))=true then ((idx p0.cols x10)>>=fun y1=>(appG 8 x3 ([y1.type]:List Int))>>=fun y2=>rX p0 y2 (IntKind.wrap .i64 (x10+1))) else (some x3)
  partial_fixpoint
def J4 (p0:bD):Option (List Int) :=
  rX p0 ([]:List Int) 0
def tJ (p1:(List Int)) (p0:aJ) (x6:(List Int)) (x12:Int):Option ((List Int)×Bool) :=
  if (decide (x12<(p1.length:Int)))=true then ((idx p1 x12)>>=fun y1=>(some (if (decide (y1<0))=true then true else (decide ((p0.tables.length:Int)≤y1))))>>=fun y2=>if y2=true then (some (([]:List Int),false)) else ((idx p0.tables y1)>>=fun y3=>(J4 y3)>>=fun y4=>(appG 8 x6 y4)>>=fun y5=>tJ p1 p0 y5 (IntKind.wrap .i64 (x12+1)))) else (some (x6,true))
  partial_fixpoint
def G6 (p0:aJ) (p1:(List Int)):Option ((List Int)×Bool) :=
  tJ p1 p0 ([]:List Int) 0
def xJ (p0:Int) (p1:Int) (p2:Int):Option Bool :=
  (some (if (decide (p1=p0))=true then true else (decide (p1=0))))>>=fun y1=>(if (true&&(y1==true))=true then some (if (decide (p2=p0))=true then true else (decide (p2=0))) else some default)>>=fun y2=>(some (if y1=true then y2 else false))>>=fun y3=>some y3
def vF (x8:Int) (x9:Bool):Option (Int×Bool) :=
  if (!x9)=true then (some (0,false)) else (some (x8,true))
def aAf (p0:Int) (p1:Int) (p2:Int):Option (Int×Bool) :=
  (some (if (decide (p0<1))=true then true else (decide (14<p0))))>>=fun y1=>if y1=true then (vF 0 false) else (if (decide (p0≤2))=true then ((xW p1)>>=fun y2=>(if (true&&(y2==true))=true then xW p2 else some default)>>=fun y3=>(some (if y2=true then y3 else false))>>=fun y4=>vF 3 y4) else (if (decide (p0≤8))=true then ((xZ p1 p2)>>=fun y5=>vF 3 y5.2) else (if (decide (p0=9))=true then ((xJ 2 p1 p2)>>=fun y6=>vF 2 y6) else ((xJ 1 p1 p2)>>=fun y7=>vF 1 y7))))
def T9 (p0:(List Int)):Option (List Int) :=
  if (decide ((p0.length:Int)=0))=true then (some ([]:List Int)) else ((appG 8 ([]:List Int) p0)>>=fun y1=>some y1)
def rD (p0:(List Int)) (x4:Int) (x11:Int):Option (Int×Bool) :=
  if (decide (x11<(p0.length:Int)))=true then ((idx p0 x11)>>=fun y1=>(xZ x4 y1)>>=fun y2=>if (!y2.2)=true then (some (0,false)) else (rD p0 y2.1 (IntKind.wrap .i64 (x11+1)))) else (some (x4,true))
  partial_fixpoint
def U8 (p0:(List Int)):Option (Int×Bool) :=
  rD p0 0 0
def vO (p1:(List Int)) (p2:(List Int)) (x40:Bool):Option (Int×Bool) :=
  if x40=true then (some (3,true)) else ((T9 p1)>>=fun y6=>(appG 8 y6 p2)>>=fun y7=>(U8 y7)>>=fun y8=>if (!y8.2)=true then (some (0,false)) else (some (3,true)))
def Y7 (p0:Int) (p1:Int):Option (Int×Bool) :=
  (if (true&&((decide (p0=15))==true))=true then xW p1 else some default)>>=fun y1=>(some (if (decide (p0=15))=true then y1 else false))>>=fun y2=>if y2=true then (some (3,true)) else ((if (true&&((decide (p0=16))==true))=true then xJ 1 p1 p1 else some default)>>=fun y3=>(some (if (decide (p0=16))=true then y3 else false))>>=fun y4=>if y4=true then (some (1,true)) else (some (0,false)))
def lY (p0:aA) (p1:(List Int)) (p2:(List Int)):Option (Int×Bool) :=
  if (decide (p0.kind=1))=true then (some (p0.value.kind,true)) else (if (decide (p0.kind=3))=true then ((idx p1 0)>>=fun y1=>(Y7 p0.op y1)>>=fun y2=>some (y2.1,y2.2)) else (if (decide (p0.kind=4))=true then ((idx p1 0)>>=fun y3=>(idx p1 1)>>=fun y4=>(aAf p0.op y3 y4)>>=fun y5=>some (y5.1,y5.2)) else (if (decide (p0.kind=5))=true then (vO p1 p2 (decide (p0.kind=5))) else (vO p1 p2 (decide (p0.kind=9))))))
mutual
def qB (y9:(List (List Int))) (p2:aB) (p0:aJ) (x19:(List Int)) (x95:Int):Option ((List Int)×Bool) :=
  if (decide (x95<(p2.items.length:Int)))=true then ((idx p2.items x95)>>=fun y13=>(qN p0 y9 y13)>>=fun y14=>if (!y14.2)=true then (some (([]:List Int),false)) else ((appG 8 x19 ([y14.1]:List Int))>>=fun y15=>qB y9 p2 p0 y15 (IntKind.wrap .i64 (x95+1)))) else (some (x19,true))
  partial_fixpoint
def sH (y9:(List (List Int))) (p2:aB) (p0:aJ) (x76:Int):Option ((List Int)×Bool) :=
  if (decide (x76<(p2.order.length:Int)))=true then ((idx p2.order x76)>>=fun y11=>(qN p0 y9 y11.expr)>>=fun y12=>if (!y12.2)=true then (some (([]:List Int),false)) else (sH y9 p2 p0 (IntKind.wrap .i64 (x76+1)))) else (qB y9 p2 p0 ([]:List Int) 0)
  partial_fixpoint
def aF0 (p0:aA) (p1:aJ) (c1_0:(List (List Int))):Option Bool :=
  (qN p1 c1_0 p0)>>=fun y1=>(if (true&&((!y1.2)==false))=true then xW y1.1 else some default)>>=fun y2=>(some (if (!y1.2)=true then true else (!y2)))>>=fun y3=>some y3
  partial_fixpoint
def wS (p0:(List aA)) (c0:aJ) (c1_0:(List (List Int))) (x8:Int):Option Int :=
  if (decide (x8<(p0.length:Int)))=true then ((idx p0 x8)>>=fun y1=>(aF0 y1 c0 c1_0)>>=fun y2=>if y2=true then (some x8) else (wS p0 c0 c1_0 (IntKind.wrap .i64 (x8+1)))) else (some (-1))
  partial_fixpoint
def aG6 (p0:(List aA)) (c0:aJ) (c1_0:(List (List Int))):Option Int :=
  wS p0 c0 c1_0 0
  partial_fixpoint
def aBy (p0:(List aA)) (c0:aJ) (c1_0:(List (List Int))):Option Bool :=
  (aG6 p0 c0 c1_0)>>=fun y1=>some (decide (0≤y1))
  partial_fixpoint
def vX (p0:aJ) (p1:(List (List Int))) (p2:(List aA)):Option Bool :=
  (aBy p2 p0 p1)>>=fun y1=>some (!y1)
  partial_fixpoint
def xO (p1:(List (List Int))) (y1:(List Int)×Bool) (p2:aB) (p0:aJ) (x41:Int):Option ((List Int)×Bool) :=
  if (decide (x41<(p2.on_.length:Int)))=true then ((idx p2.on_ x41)>>=fun y4=>(kU p2.tables 0 (IntKind.wrap .i64 (x41+1)))>>=fun y5=>(G6 p0 y5)>>=fun y6=>(I1 y6.1 p1)>>=fun y7=>(vX p0 y7 y4)>>=fun y8=>if (!y8)=true then (some (([]:List Int),false)) else (xO p1 y1 p2 p0 (IntKind.wrap .i64 (x41+1)))) else ((I1 y1.1 p1)>>=fun y9=>(vX p0 y9 p2.where_)>>=fun y10=>if (!y10)=true then (some (([]:List Int),false)) else (sH y9 p2 p0 0))
  partial_fixpoint
def zW (p0:aJ) (p1:(List (List Int))) (p2:aB):Option ((List Int)×Bool) :=
  (G6 p0 p2.tables)>>=fun y1=>(if (true&&((!y1.2)==false))=true then M7 p2 else some default)>>=fun y2=>(some (if (!y1.2)=true then true else (!y2)))>>=fun y3=>if y3=true then (some (([]:List Int),false)) else (xO p1 y1 p2 p0 0)
  partial_fixpoint
def oM (p1:(List (List Int))) (x8:(List Int)) (p2:aA) (p0:aJ) (x9:(List Int)) (x85:Int):Option (Int×Bool) :=
  if (decide (x85<(p2.sub.length:Int)))=true then ((idx p2.sub x85)>>=fun y11=>(zW p0 p1 y11)>>=fun y12=>(if (true&&((!y12.2)==false))=true then some (if (decide (p2.kind=8))=true then (!decide ((y12.1.length:Int)=1)) else false) else some default)>>=fun y13=>(some (if (!y12.2)=true then true else y13))>>=fun y14=>if y14=true then (some (0,false)) else (oM p1 x8 p2 p0 y12.1 (IntKind.wrap .i64 (x85+1)))) else ((lY p2 x8 x9)>>=fun y15=>some (y15.1,y15.2))
  partial_fixpoint
def lD (p1:(List (List Int))) (p2:aA) (p0:aJ) (x8:(List Int)) (x64:Int):Option (Int×Bool) :=
  if (decide (x64<(p2.kids.length:Int)))=true then ((idx p2.kids x64)>>=fun y8=>(qN p0 p1 y8)>>=fun y9=>if (!y9.2)=true then (some (0,false)) else ((appG 8 x8 ([y9.1]:List Int))>>=fun y10=>lD p1 p2 p0 y10 (IntKind.wrap .i64 (x64+1)))) else (oM p1 x8 p2 p0 ([]:List Int) 0)
  partial_fixpoint
def qN (p0:aJ) (p1:(List (List Int))) (p2:aA):Option (Int×Bool) :=
  (yN p2)>>=fun y1=>if (!y1)=true then (some (0,false)) else (if (decide (p2.kind=2))=true then ((some (if (decide (p2.up<0))=true then true else (decide ((p1.length:Int)≤p2.up))))>>=fun y2=>(some (if y2=true then true else (decide (p2.at_<0))))>>=fun y3=>(if (true&&(y3==false))=true then idx p1 p2.up else some default)>>=fun y4=>(some (if y3=true then true else (decide ((y4.length:Int)≤p2.at_))))>>=fun y5=>if y5=true then (some (0,false)) else ((idx p1 p2.up)>>=fun y6=>(idx y6 p2.at_)>>=fun y7=>some (y7,true))) else (lD p1 p2 p0 ([]:List Int) 0))
  partial_fixpoint
end
def F5 (p0:aJ) (p1:(List (List Int))) (p2:aA) (p3:Int):Option Bool :=
  (qN p0 p1 p2)>>=fun y1=>if (!y1.2)=true then (some false) else ((xZ y1.1 p3)>>=fun y2=>some y2.2)
mutual
def vN (p1:(List Int)) (p2:(List (List aA))) (x13:Int) (y1:(List aA)) (p0:aJ) (x24:Int):Option Bool :=
  if (decide (x24<(y1.length:Int)))=true then ((idx y1 x24)>>=fun y3=>(idx p1 x24)>>=fun y4=>(F5 p0 ([]:List (List Int)) y3 y4)>>=fun y5=>if (!y5)=true then (some false) else (vN p1 p2 x13 y1 p0 (IntKind.wrap .i64 (x24+1)))) else (sN p1 p2 p0 (IntKind.wrap .i64 (x13+1)))
  partial_fixpoint
def sN (p1:(List Int)) (p2:(List (List aA))) (p0:aJ) (x13:Int):Option Bool :=
  if (decide (x13<(p2.length:Int)))=true then ((idx p2 x13)>>=fun y1=>if (!decide ((y1.length:Int)=(p1.length:Int)))=true then (some false) else (vN p1 p2 x13 y1 p0 0)) else ((some (if (decide (1≤(p2.length:Int)))=true then (decide ((p2.length:Int)≤5)) else false))>>=fun y2=>some y2)
  partial_fixpoint
end
def aCb (p0:aJ) (p1:(List Int)) (p2:(List (List aA))):Option Bool :=
  sN p1 p2 p0 0
def uT (p0:(List Int)) (p1:Int) (x8:Int):Option Int :=
  if (decide (x8<(p0.length:Int)))=true then ((idx p0 x8)>>=fun y1=>if (decide (p1=y1))=true then (some x8) else (uT p0 p1 (IntKind.wrap .i64 (x8+1)))) else (some (-1))
  partial_fixpoint
def aCs (p0:(List Int)) (p1:Int):Option Int :=
  uT p0 p1 0
def aAa (p0:(List Int)) (p1:Int):Option Bool :=
  (aCs p0 p1)>>=fun y1=>some (decide (0≤y1))
def oJ (p1:(List Int)) (p2:bM) (p0:aJ) (x31:Int):Option Bool :=
  if (decide (x31<(p2.cols.length:Int)))=true then ((idx p2.cols x31)>>=fun y3=>(some (if (decide (y3<0))=true then true else (decide ((p1.length:Int)≤y3))))>>=fun y4=>(if (true&&(y4==false))=true then kU p2.cols 0 x31 else some default)>>=fun y5=>(if (true&&(y4==false))=true then aAa y5 y3 else some default)>>=fun y6=>(some (if y4=true then true else y6))>>=fun y7=>(if (true&&(y7==false))=true then idx p2.sets x31 else some default)>>=fun y8=>(if (true&&(y7==false))=true then idx p1 y3 else some default)>>=fun y9=>(if (true&&(y7==false))=true then F5 p0 ([p1]:List (List Int)) y8 y9 else some default)>>=fun y10=>(some (if y7=true then true else (!y10)))>>=fun y11=>if y11=true then (some false) else (oJ p1 p2 p0 (IntKind.wrap .i64 (x31+1)))) else (some true)
  partial_fixpoint
def aCo (p0:aJ) (p1:(List Int)) (p2:bM):Option Bool :=
  (some (if (decide ((p2.cols.length:Int)<1))=true then true else (decide (12<(p2.cols.length:Int)))))>>=fun y1=>(some (if y1=true then true else (!decide ((p2.sets.length:Int)=(p2.cols.length:Int)))))>>=fun y2=>if y2=true then (some false) else (oJ p1 p2 p0 0)
def aDx (p0:bL) (c0_0:(List UInt8)):Option Bool :=
  some (decide (p0.name=c0_0))
def uU (p0:(List bL)) (c0_0:(List UInt8)) (x8:Int):Option Int :=
  if (decide (x8<(p0.length:Int)))=true then ((idx p0 x8)>>=fun y1=>(aDx y1 c0_0)>>=fun y2=>if y2=true then (some x8) else (uU p0 c0_0 (IntKind.wrap .i64 (x8+1)))) else (some (-1))
  partial_fixpoint
def aE2 (p0:(List bL)) (c0_0:(List UInt8)):Option Int :=
  uU p0 c0_0 0
def U4 (p0:bD) (p1:(List UInt8)):Option Int :=
  (aE2 p0.cols p1)>>=fun y1=>some y1
def uG (p0:bD) (x8:Int):Option Bool :=
  if (decide (x8<(p0.cols.length:Int)))=true then ((idx p0.cols x8)>>=fun y1=>(jY y1.name)>>=fun y2=>(some (if (!y2)=true then true else (decide (y1.type<1))))>>=fun y3=>(some (if y3=true then true else (decide (3<y1.type))))>>=fun y4=>(if (true&&(y4==false))=true then U4 p0 y1.name else some default)>>=fun y5=>(some (if y4=true then true else (!decide (y5=x8))))>>=fun y6=>if y6=true then (some false) else (uG p0 (IntKind.wrap .i64 (x8+1)))) else ((jY p0.name)>>=fun y7=>(some (if y7=true then (decide (1≤(p0.cols.length:Int))) else false))>>=fun y8=>(some (if y8=true then (decide ((p0.cols.length:Int)≤4)) else false))>>=fun y9=>some y9)
  partial_fixpoint
def Y0 (p0:bD):Option Bool :=
  uG p0 0
def aEr (p0:bD) (c0_0:(List UInt8)):Option Bool :=
  some (decide (p0.name=c0_0))
def vK (p0:(List bD)) (c0_0:(List UInt8)) (x8:Int):Option Int :=
  if (decide (x8<(p0.length:Int)))=true then ((idx p0 x8)>>=fun y1=>(aEr y1 c0_0)>>=fun y2=>if y2=true then (some x8) else (vK p0 c0_0 (IntKind.wrap .i64 (x8+1)))) else (some (-1))
  partial_fixpoint
def aC5 (p0:(List bD)) (c0_0:(List UInt8)):Option Int :=
  vK p0 c0_0 0
def X8 (p0:aJ) (p1:(List UInt8)):Option Int :=
  (aC5 p0.tables p1)>>=fun y1=>some y1
def uQ (p0:aJ) (x8:Int):Option Bool :=
  if (decide (x8<(p0.tables.length:Int)))=true then ((idx p0.tables x8)>>=fun y1=>(Y0 y1)>>=fun y2=>(if (true&&((!y2)==false))=true then X8 p0 y1.name else some default)>>=fun y3=>(some (if (!y2)=true then true else (!decide (y3=x8))))>>=fun y4=>if y4=true then (some false) else (uQ p0 (IntKind.wrap .i64 (x8+1)))) else (some (decide ((p0.tables.length:Int)≤4)))
  partial_fixpoint
def zJ (p0:aJ):Option Bool :=
  uQ p0 0
def oO (p0:aB) (dC:(List aA)) (x27:Int):Option (List aA) :=
  if (decide (x27<(p0.order.length:Int)))=true then ((idx p0.order x27)>>=fun y5=>(appG 120 dC ([y5.expr]:List aA))>>=fun y6=>oO p0 y6 (IntKind.wrap .i64 (x27+1))) else ((appG 120 dC p0.items)>>=fun y7=>some y7)
  partial_fixpoint
def wX (p0:aB) (x3:(List aA)) (x12:Int):Option (List aA) :=
  if (decide (x12<(p0.on_.length:Int)))=true then ((idx p0.on_ x12)>>=fun y1=>(appG 120 x3 y1)>>=fun y2=>wX p0 y2 (IntKind.wrap .i64 (x12+1))) else ((appG 120 x3 p0.where_)>>=fun y3=>oO p0 y3 0)
  partial_fixpoint
def yJ (p0:aB):Option (List aA) :=
  wX p0 ([]:List aA) 0
mutual
def nQ (p0:aB):Option Int :=
  (yJ p0)>>=fun y1=>(qF y1)>>=fun y2=>some y2
  partial_fixpoint
def yD (p0:aA) (x3:Int) (x12:Int):Option Int :=
  if (decide (x12<(p0.sub.length:Int)))=true then ((idx p0.sub x12)>>=fun y2=>(nQ y2)>>=fun y3=>yD p0 (if y3 > x3 then y3 else x3) (IntKind.wrap .i64 (x12+1))) else (some (IntKind.wrap .i64 (1+x3)))
  partial_fixpoint
def rA (p0:aA):Option Int :=
  (qF p0.kids)>>=fun y1=>yD p0 y1 0
  partial_fixpoint
def vW (p0:(List aA)) (x3:Int) (x8:Int):Option Int :=
  if (decide (x8<(p0.length:Int)))=true then ((idx p0 x8)>>=fun y1=>(rA y1)>>=fun y2=>vW p0 (if y2 > x3 then y2 else x3) (IntKind.wrap .i64 (x8+1))) else (some x3)
  partial_fixpoint
def qF (p0:(List aA)):Option Int :=
  vW p0 0 0
  partial_fixpoint
end
def zR (p0:Int) (p1:Int):Option Bool :=
  (some (if (decide (p0≤24))=true then (decide (p1≤200)) else false))>>=fun y1=>some y1
def yO (p0:(List Int)) (p1:(List Int)) (x13:Int):Option Bool :=
  if (decide (x13<(p0.length:Int)))=true then ((idx p0 x13)>>=fun y1=>(idx p1 x13)>>=fun y2=>if (!decide (y1=y2))=true then (some false) else (yO p0 p1 (IntKind.wrap .i64 (x13+1)))) else (some true)
  partial_fixpoint
def U7 (p0:(List Int)) (p1:(List Int)):Option Bool :=
  if (!decide ((p0.length:Int)=(p1.length:Int)))=true then (some false) else (yO p0 p1 0)
def J9 (p0:(List (List UInt8))) (p1:(List (List UInt8))) (x13:Int):Option Bool :=
  if (decide (x13<(p0.length:Int)))=true then ((idx p0 x13)>>=fun y1=>(idx p1 x13)>>=fun y2=>if (!decide (y1=y2))=true then (some false) else (J9 p0 p1 (IntKind.wrap .i64 (x13+1)))) else (some true)
  partial_fixpoint
def Y4 (p0:(List (List UInt8))) (p1:(List (List UInt8))):Option Bool :=
  if (!decide ((p0.length:Int)=(p1.length:Int)))=true then (some false) else (J9 p0 p1 0)
mutual
def aEz (p0:aY) (p1:aY):Option Bool :=
  (if (true&&((p0.desc==p1.desc)==true))=true then aC8 p0.expr p1.expr else some default)>>=fun y1=>(some (if (p0.desc==p1.desc)=true then y1 else false))>>=fun y2=>some y2
  partial_fixpoint
def Y5 (p1:(List aY)) (p0:(List aY)) (x17:Int):Option Bool :=
  if (decide (x17<(p0.length:Int)))=true then ((idx p0 x17)>>=fun y1=>(idx p1 x17)>>=fun y2=>(aEz y1 y2)>>=fun y3=>if (!y3)=true then (some false) else (Y5 p1 p0 (IntKind.wrap .i64 (x17+1)))) else (some true)
  partial_fixpoint
def aA5 (p0:(List aY)) (p1:(List aY)):Option Bool :=
  if (!decide ((p0.length:Int)=(p1.length:Int)))=true then (some false) else (Y5 p1 p0 0)
  partial_fixpoint
def aE7 (p1:(List aB)) (p0:(List aB)) (x17:Int):Option Bool :=
  if (decide (x17<(p0.length:Int)))=true then ((idx p0 x17)>>=fun y1=>(idx p1 x17)>>=fun y2=>(O8 y1 y2)>>=fun y3=>if (!y3)=true then (some false) else (aE7 p1 p0 (IntKind.wrap .i64 (x17+1)))) else (some true)
  partial_fixpoint
def aNc (p0:(List aB)) (p1:(List aB)):Option Bool :=
  if (!decide ((p0.length:Int)=(p1.length:Int)))=true then (some false) else (aE7 p1 p0 0)
  partial_fixpoint
def aC8 (p0:aA) (p1:aA):Option Bool :=
  (some (if (decide (p0.kind=p1.kind))=true then (decide (p0.op=p1.op)) else false))>>=fun y1=>(some (if y1=true then (p0.not_==p1.not_) else false))>>=fun y2=>(some (if y2=true then ((decide (p0.value.kind=p1.value.kind))&&((decide (p0.value.num=p1.value.num))&&((decide (p0.value.text=p1.value.text))&&true))) else false))>>=fun y3=>(some (if y3=true then (decide (p0.up=p1.up)) else false))>>=fun y4=>(some (if y4=true then (decide (p0.at_=p1.at_)) else false))>>=fun y5=>(if (true&&(y5==true))=true then tF p0.kids p1.kids else some default)>>=fun y6=>(some (if y5=true then y6 else false))>>=fun y7=>(if (true&&(y7==true))=true then aNc p0.sub p1.sub else some default)>>=fun y8=>(some (if y7=true then y8 else false))>>=fun y9=>some y9
  partial_fixpoint
def aB2 (p1:(List aA)) (p0:(List aA)) (x17:Int):Option Bool :=
  if (decide (x17<(p0.length:Int)))=true then ((idx p0 x17)>>=fun y1=>(idx p1 x17)>>=fun y2=>(aC8 y1 y2)>>=fun y3=>if (!y3)=true then (some false) else (aB2 p1 p0 (IntKind.wrap .i64 (x17+1)))) else (some true)
  partial_fixpoint
def aGh (p0:(List aA)) (p1:(List aA)):Option Bool :=
  if (!decide ((p0.length:Int)=(p1.length:Int)))=true then (some false) else (aB2 p1 p0 0)
  partial_fixpoint
def tF (p0:(List aA)) (p1:(List aA)):Option Bool :=
  (aGh p0 p1)>>=fun y1=>some y1
  partial_fixpoint
def Z4 (p1:(List (List aA))) (p0:(List (List aA))) (x17:Int):Option Bool :=
  if (decide (x17<(p0.length:Int)))=true then ((idx p0 x17)>>=fun y1=>(idx p1 x17)>>=fun y2=>(tF y1 y2)>>=fun y3=>if (!y3)=true then (some false) else (Z4 p1 p0 (IntKind.wrap .i64 (x17+1)))) else (some true)
  partial_fixpoint
def aAx (p0:(List (List aA))) (p1:(List (List aA))):Option Bool :=
  if (!decide ((p0.length:Int)=(p1.length:Int)))=true then (some false) else (Z4 p1 p0 0)
  partial_fixpoint
def O8 (p0:aB) (p1:aB):Option Bool :=
  (U7 p0.tables p1.tables)>>=fun y1=>(if (true&&(y1==true))=true then aAx p0.on_ p1.on_ else some default)>>=fun y2=>(some (if y1=true then y2 else false))>>=fun y3=>(if (true&&(y3==true))=true then tF p0.where_ p1.where_ else some default)>>=fun y4=>(some (if y3=true then y4 else false))>>=fun y5=>(if (true&&(y5==true))=true then aA5 p0.order p1.order else some default)>>=fun y6=>(some (if y5=true then y6 else false))>>=fun y7=>(if (true&&(y7==true))=true then tF p0.items p1.items else some default)>>=fun y8=>(some (if y7=true then y8 else false))>>=fun y9=>(if (true&&(y9==true))=true then Y4 p0.names p1.names else some default)>>=fun y10=>(some (if y9=true then y10 else false))>>=fun y11=>(some (if y11=true then (p0.distinct==p1.distinct) else false))>>=fun y12=>(some (if y12=true then (decide (p0.limit=p1.limit)) else false))>>=fun y13=>some y13
  partial_fixpoint
end
def aAm (p0:aB):Option Bool :=
  (O8 p0 (aB.mk ([]:List Int) ([]:List (List aA)) ([]:List aA) ([]:List aY) ([]:List aA) ([]:List (List UInt8)) false 0))>>=fun y1=>some y1
def wN (p0:bM) (x3:(List aA)) (x10:Int):Option (List aA) :=
  if (decide (x10<(p0.rows.length:Int)))=true then ((idx p0.rows x10)>>=fun y1=>(appG 120 x3 y1)>>=fun y2=>wN p0 y2 (IntKind.wrap .i64 (x10+1))) else ((appG 120 x3 p0.sets)>>=fun y3=>(appG 120 y3 p0.where_)>>=fun y4=>some y4)
  partial_fixpoint
def yH (p0:bM):Option (List aA) :=
  wN p0 ([]:List aA) 0
mutual
def oD (p0:aB):Option Int :=
  (yJ p0)>>=fun y1=>(uH y1)>>=fun y2=>some y2
  partial_fixpoint
def yM (p0:aA) (x3:Int) (x13:Int):Option Int :=
  if (decide (x13<(p0.sub.length:Int)))=true then ((idx p0.sub x13)>>=fun y2=>(oD y2)>>=fun y3=>yM p0 (IntKind.wrap .i64 (x3+y3)) (IntKind.wrap .i64 (x13+1))) else (some x3)
  partial_fixpoint
def pI (p0:aA):Option Int :=
  (uH p0.kids)>>=fun y1=>yM p0 (IntKind.wrap .i64 (1+y1)) 0
  partial_fixpoint
def zB (p0:(List aA)) (x3:Int) (x8:Int):Option Int :=
  if (decide (x8<(p0.length:Int)))=true then ((idx p0 x8)>>=fun y1=>(pI y1)>>=fun y2=>zB p0 (IntKind.wrap .i64 (x3+y2)) (IntKind.wrap .i64 (x8+1))) else (some x3)
  partial_fixpoint
def uH (p0:(List aA)):Option Int :=
  zB p0 0 0
  partial_fixpoint
end
def U0 (p0:aJ) (p1:aB):Option Bool :=
  (zJ p0)>>=fun y1=>(if (true&&((!y1)==false))=true then nQ p1 else some default)>>=fun y2=>(if (true&&((!y1)==false))=true then oD p1 else some default)>>=fun y3=>(if (true&&((!y1)==false))=true then zR y2 y3 else some default)>>=fun y4=>(some (if (!y1)=true then true else (!y4)))>>=fun y5=>if y5=true then (some false) else ((zW p0 ([]:List (List Int)) p1)>>=fun y6=>some y6.2)
def V7 (p0:aJ) (p1:bM):Option Bool :=
  if (decide (p1.kind=1))=true then ((some (if (decide (p1.table=0))=true then (decide ((p1.rows.length:Int)=0)) else false))>>=fun y1=>(some (if y1=true then (decide ((p1.cols.length:Int)=0)) else false))>>=fun y2=>(some (if y2=true then (decide ((p1.sets.length:Int)=0)) else false))>>=fun y3=>(some (if y3=true then (decide ((p1.where_.length:Int)=0)) else false))>>=fun y4=>(if (true&&(y4==true))=true then U0 p0 p1.plan else some default)>>=fun y5=>(some (if y4=true then y5 else false))>>=fun y6=>some y6) else ((zJ p0)>>=fun y7=>(some (if (!y7)=true then true else (decide (p1.table<0))))>>=fun y8=>(some (if y8=true then true else (decide ((p0.tables.length:Int)≤p1.table))))>>=fun y9=>(if (true&&(y9==false))=true then aAm p1.plan else some default)>>=fun y10=>(some (if y9=true then true else (!y10)))>>=fun y11=>(if (true&&(y11==false))=true then yH p1 else some default)>>=fun y12=>(if (true&&(y11==false))=true then qF y12 else some default)>>=fun y13=>(if (true&&(y11==false))=true then yH p1 else some default)>>=fun y14=>(if (true&&(y11==false))=true then uH y14 else some default)>>=fun y15=>(if (true&&(y11==false))=true then zR y13 y15 else some default)>>=fun y16=>(some (if y11=true then true else (!y16)))>>=fun y17=>if y17=true then (some false) else ((idx p0.tables p1.table)>>=fun y18=>(J4 y18)>>=fun y19=>if (decide (p1.kind=2))=true then ((some (if (decide ((p1.cols.length:Int)=0))=true then (decide ((p1.sets.length:Int)=0)) else false))>>=fun y20=>(some (if y20=true then (decide ((p1.where_.length:Int)=0)) else false))>>=fun y21=>(if (true&&(y21==true))=true then aCb p0 y19 p1.rows else some default)>>=fun y22=>(some (if y21=true then y22 else false))>>=fun y23=>some y23) else ((some (if (decide (0<(p1.rows.length:Int)))=true then true else (decide (1<(p1.where_.length:Int)))))>>=fun y24=>(if (true&&(y24==false))=true then vX p0 ([y19]:List (List Int)) p1.where_ else some default)>>=fun y25=>(some (if y24=true then true else (!y25)))>>=fun y26=>if y26=true then (some false) else (if (decide (p1.kind=3))=true then ((aCo p0 y19 p1)>>=fun y27=>some y27) else (if (decide (p1.kind=4))=true then ((some (if (decide ((p1.cols.length:Int)=0))=true then (decide ((p1.sets.length:Int)=0)) else false))>>=fun y28=>some y28) else (some false))))))
def aAq (p0:aJ) (p1:bM):Option Int :=
  (if (true&&((decide (p1.kind=1))==false))=true then V7 p0 p1 else some default)>>=fun y1=>(some (if (decide (p1.kind=1))=true then true else (!y1)))>>=fun y2=>if y2=true then (some (-1)) else (some p1.table)
def uV (p1:(List UInt8)) (p0:bD) (x5:Int):Option Int :=
  if (decide (x5<(p0.cols.length:Int)))=true then ((idx p0.cols x5)>>=fun y1=>if (decide (y1.name=p1))=true then (some x5) else (uV p1 p0 (IntKind.wrap .i64 (x5+1)))) else (some (-1))
  partial_fixpoint
def wK (p0:bD) (p1:(List UInt8)):Option Int :=
  uV p1 p0 0
def dX (p0:Int) (p1:Int) (p2:Int):Option Bool :=
  (some (if (decide (p1≤p0))=true then (decide (p0≤p2)) else false))>>=fun y1=>some y1
def iX (p0:(List UInt8)):Option Bool :=
  (dX (p0.length:Int) 1 20)>>=fun y1=>some y1
def uB (p1:(List UInt8)) (p0:aJ) (x5:Int):Option Int :=
  if (decide (x5<(p0.tables.length:Int)))=true then ((idx p0.tables x5)>>=fun y1=>if (decide (y1.name=p1))=true then (some x5) else (uB p1 p0 (IntKind.wrap .i64 (x5+1)))) else (some (-1))
  partial_fixpoint
def mW (p0:aJ) (p1:(List UInt8)):Option Int :=
  uB p1 p0 0
mutual
def qX (x3:Int) (p0:aJ) (y1:bD) (x5:Int):Option Bool :=
  if (decide (x5<(y1.cols.length:Int)))=true then ((idx y1.cols x5)>>=fun y7=>(iX y7.name)>>=fun y8=>(if (true&&((!y8)==false))=true then idx y1.cols x5 else some default)>>=fun y9=>(if (true&&((!y8)==false))=true then wK y1 y9.name else some default)>>=fun y10=>(some (if (!y8)=true then true else (!decide (y10=x5))))>>=fun y11=>(if (true&&(y11==false))=true then idx y1.cols x5 else some default)>>=fun y12=>(if (true&&(y11==false))=true then dX y12.type 1 3 else some default)>>=fun y13=>(some (if y11=true then true else (!y13)))>>=fun y14=>if y14=true then (some false) else (qX x3 p0 y1 (IntKind.wrap .i64 (x5+1)))) else (vG p0 (IntKind.wrap .i64 (x3+1)))
  partial_fixpoint
def vG (p0:aJ) (x3:Int):Option Bool :=
  if (decide (x3<(p0.tables.length:Int)))=true then ((idx p0.tables x3)>>=fun y1=>(iX y1.name)>>=fun y2=>(if (true&&((!y2)==false))=true then mW p0 y1.name else some default)>>=fun y3=>(some (if (!y2)=true then true else (!decide (y3=x3))))>>=fun y4=>(if (true&&(y4==false))=true then dX (y1.cols.length:Int) 1 4 else some default)>>=fun y5=>(some (if y4=true then true else (!y5)))>>=fun y6=>if y6=true then (some false) else (qX x3 p0 y1 0)) else (some true)
  partial_fixpoint
end
def K9 (p0:aJ):Option Bool :=
  if (decide (4<(p0.tables.length:Int)))=true then (some false) else (vG p0 0)
def sI (p0:Int):Option Bool :=
  (some (if (decide (p0=0))=true then true else (decide (p0=3))))>>=fun y1=>some y1
def uN (p0:dF):Option Bool :=
  if (decide (p0.kind=0))=true then ((some (if (decide (p0.num=0))=true then (decide (p0.text=[])) else false))>>=fun y1=>some y1) else (if (decide (p0.kind=1))=true then (some (decide (p0.text=[]))) else (if (decide (p0.kind=2))=true then ((some (if (decide (p0.num=0))=true then (decide ((p0.text.length:Int)≤200)) else false))>>=fun y2=>some y2) else (if (decide (p0.kind=3))=true then ((dX p0.num 0 1)>>=fun y3=>(some (if y3=true then (decide (p0.text=[])) else false))>>=fun y4=>some y4) else (some false))))
def rU (p0:dF):Option Bool :=
  (uN p0)>>=fun y1=>(if (true&&(y1==true))=true then some (if (!decide (p0.kind=1))=true then true else (decide (0≤p0.num))) else some default)>>=fun y2=>(some (if y1=true then y2 else false))>>=fun y3=>(some (if y3=true then (decide ((p0.text.length:Int)≤40)) else false))>>=fun y4=>some y4
def oI (p0:(List UInt8)):Option Bool :=
  (if (true&&((decide (p0=[]))==false))=true then iX p0 else some default)>>=fun y1=>(some (if (decide (p0=[]))=true then true else y1))>>=fun y2=>some y2
def xQ (p0:cO):Option Bool :=
  (if (true&&((!decide (p0.kind=2))==true))=true then some (if (!decide (p0.qual=[]))=true then true else (!decide (p0.name=[]))) else some default)>>=fun y1=>(some (if (!decide (p0.kind=2))=true then y1 else false))>>=fun y2=>(if (true&&(y2==false))=true then some (if (!decide (p0.kind=1))=true then (!((decide (p0.value.kind=0))&&((decide (p0.value.num=0))&&((decide (p0.value.text=[]))&&true)))) else false) else some default)>>=fun y3=>(some (if y2=true then true else y3))>>=fun y4=>if y4=true then (some false) else ((some (if (!decide (p0.kind=3))=true then (!decide (p0.kind=4)) else false))>>=fun y5=>(some (if y5=true then (!decide (p0.op=0)) else false))>>=fun y6=>(if ((true&&(y6==false))&&(p0.not_==true))=true then dX p0.kind 5 8 else some default)>>=fun y7=>(if (true&&(y6==false))=true then some (if p0.not_=true then (!y7) else false) else some default)>>=fun y8=>(some (if y6=true then true else y8))>>=fun y9=>if y9=true then (some false) else (if (decide (p0.kind=1))=true then ((rU p0.value)>>=fun y10=>(some (if y10=true then (decide ((IntKind.wrap .i64 ((p0.kids.length:Int)+(p0.sub.length:Int)))=0)) else false))>>=fun y11=>some y11) else (if (decide (p0.kind=2))=true then ((iX p0.name)>>=fun y12=>(if (true&&(y12==true))=true then oI p0.qual else some default)>>=fun y13=>(some (if y12=true then y13 else false))>>=fun y14=>(some (if y14=true then (decide ((IntKind.wrap .i64 ((p0.kids.length:Int)+(p0.sub.length:Int)))=0)) else false))>>=fun y15=>some y15) else (if (decide (p0.kind=3))=true then ((some (if (decide (p0.op=15))=true then true else (decide (p0.op=16))))>>=fun y16=>(some (if y16=true then (decide ((p0.kids.length:Int)=1)) else false))>>=fun y17=>(some (if y17=true then (decide ((p0.sub.length:Int)=0)) else false))>>=fun y18=>some y18) else (if (decide (p0.kind=4))=true then ((dX p0.op 1 14)>>=fun y19=>(some (if y19=true then (decide ((p0.kids.length:Int)=2)) else false))>>=fun y20=>(some (if y20=true then (decide ((p0.sub.length:Int)=0)) else false))>>=fun y21=>some y21) else (if (decide (p0.kind=5))=true then ((some (if (decide ((p0.kids.length:Int)=1))=true then (decide ((p0.sub.length:Int)=0)) else false))>>=fun y22=>some y22) else (if (decide (p0.kind=6))=true then ((some (if (decide ((p0.kids.length:Int)=3))=true then (decide ((p0.sub.length:Int)=0)) else false))>>=fun y23=>some y23) else (if (decide (p0.kind=7))=true then ((dX (p0.kids.length:Int) 2 9)>>=fun y24=>(some (if y24=true then (decide ((p0.sub.length:Int)=0)) else false))>>=fun y25=>some y25) else (if (decide (p0.kind=8))=true then ((some (if (decide ((p0.kids.length:Int)=1))=true then (decide ((p0.sub.length:Int)=1)) else false))>>=fun y26=>some y26) else (if (decide (p0.kind=9))=true then ((some (if (decide ((p0.kids.length:Int)=0))=true then (decide ((p0.sub.length:Int)=1)) else false))>>=fun y27=>some y27) else (some false)))))))))))
def Z9 (p0:aA) (y3:(List cO)) (y4:(List eY)) (tH:(List UInt8)):Option Bool :=
  (xQ (cO.mk p0.kind p0.op p0.not_ p0.value [] tH y3 y4))>>=fun y5=>some y5
def G8 (p0:aA):Option Bool :=
  (if (true&&((!decide (p0.kind=2))==true))=true then some (if (!decide (p0.up=0))=true then true else (!decide (p0.at_=0))) else some default)>>=fun y1=>(some (if (!decide (p0.kind=2))=true then y1 else false))>>=fun y2=>if y2=true then (some false) else ((mkG 136 (p0.kids.length:Int) ((cO.mk 0 0 false (dF.mk 0 0 []) [] [] ([]:List cO) ([]:List eY)):cO))>>=fun y3=>(mkG 112 (p0.sub.length:Int) ((eY.mk false ([]:List jG) ([]:List jM) ([]:List cO) ([]:List jC) 0):eY))>>=fun y4=>if (decide (p0.kind=2))=true then (Z9 p0 y3 y4 [97]) else (Z9 p0 y3 y4 []))
def kH (p0:Int) (p1:Bool):Option (Int×Bool) :=
  if (!p1)=true then (some (0,false)) else (some (p0,true))
def yC (p0:Int) (p1:Int):Option Bool :=
  (some (if (decide (p0=0))=true then true else (decide (p0=p1))))>>=fun y1=>some y1
def aB7 (p1:Int) (p2:Int) (x10:Int):Option (Int×Bool) :=
  (yC p1 x10)>>=fun y12=>(if (true&&(y12==true))=true then yC p2 x10 else some default)>>=fun y13=>(some (if y12=true then y13 else false))>>=fun y14=>(kH x10 y14)>>=fun y15=>some (y15.1,y15.2)
def qI (p0:Int):Option Bool :=
  (dX p0 0 3)>>=fun y1=>some y1
def qZ (p0:Int) (p1:Int):Option (Int×Bool) :=
  (qI p0)>>=fun y1=>(if (true&&((!y1)==false))=true then qI p1 else some default)>>=fun y2=>(some (if (!y1)=true then true else (!y2)))>>=fun y3=>if y3=true then (some (0,false)) else (if (decide (p0=0))=true then (some (p1,true)) else ((some (if (decide (p1=0))=true then true else (decide (p0=p1))))>>=fun y4=>if y4=true then (some (p0,true)) else (some (0,false))))
def V3 (p0:Int) (p1:Int) (p2:Int):Option (Int×Bool) :=
  (dX p0 1 14)>>=fun y1=>(if (true&&((!y1)==false))=true then qI p1 else some default)>>=fun y2=>(some (if (!y1)=true then true else (!y2)))>>=fun y3=>(if (true&&(y3==false))=true then qI p2 else some default)>>=fun y4=>(some (if y3=true then true else (!y4)))>>=fun y5=>if y5=true then (some (0,false)) else (if (decide (p0≤2))=true then ((sI p1)>>=fun y6=>(if (true&&(y6==true))=true then sI p2 else some default)>>=fun y7=>(some (if y6=true then y7 else false))>>=fun y8=>(kH 3 y8)>>=fun y9=>some (y9.1,y9.2)) else (if (decide (p0≤8))=true then ((qZ p1 p2)>>=fun y10=>(kH 3 y10.2)>>=fun y11=>some (y11.1,y11.2)) else (if (decide (p0=9))=true then (aB7 p1 p2 2) else (aB7 p1 p2 1))))
def rJ (p0:bD) (x3:(List Int)) (x4:Int):Option (List Int) :=
  if (decide (x4<(p0.cols.length:Int)))=true then ((idx p0.cols x4)>>=fun y1=>(appG 8 x3 ([y1.type]:List Int))>>=fun y2=>rJ p0 y2 (IntKind.wrap .i64 (x4+1))) else (some x3)
  partial_fixpoint
def tL (p0:bD):Option (List Int) :=
  rJ p0 ([]:List Int) 0
def tQ (p1:(List Int)) (p0:aJ) (x6:(List Int)) (x7:Int):Option ((List Int)×Bool) :=
  if (decide (x7<(p1.length:Int)))=true then ((idx p1 x7)>>=fun y1=>(dX y1 0 (IntKind.wrap .i64 ((p0.tables.length:Int) - 1)))>>=fun y2=>if (!y2)=true then (some (([]:List Int),false)) else ((idx p1 x7)>>=fun y3=>(idx p0.tables y3)>>=fun y4=>(tL y4)>>=fun y5=>(appG 8 x6 y5)>>=fun y6=>tQ p1 p0 y6 (IntKind.wrap .i64 (x7+1)))) else (some (x6,true))
  partial_fixpoint
def xC (p0:aJ) (p1:(List Int)):Option ((List Int)×Bool) :=
  tQ p1 p0 ([]:List Int) 0
def pV (p0:aJ) (p1:aB) (x6:Int):Option Bool :=
  if (decide (x6<(p1.names.length:Int)))=true then ((idx p1.names x6)>>=fun y12=>(iX y12)>>=fun y13=>if (!y13)=true then (some false) else (pV p0 p1 (IntKind.wrap .i64 (x6+1)))) else ((xC p0 p1.tables)>>=fun y14=>some y14.2)
  partial_fixpoint
def qA (p0:aJ) (p1:aB) (x5:Int):Option Bool :=
  if (decide (x5<(p1.on_.length:Int)))=true then ((idx p1.on_ x5)>>=fun y11=>if (decide (1<(y11.length:Int)))=true then (some false) else (qA p0 p1 (IntKind.wrap .i64 (x5+1)))) else (pV p0 p1 0)
  partial_fixpoint
def X6 (p0:aJ) (p1:aB):Option Bool :=
  (dX (p1.tables.length:Int) 1 3)>>=fun y1=>(some (if (!y1)=true then true else (!decide ((p1.on_.length:Int)=(p1.tables.length:Int)))))>>=fun y2=>(if (true&&(y2==false))=true then idx p1.on_ 0 else some default)>>=fun y3=>(some (if y2=true then true else (decide (0<(y3.length:Int)))))>>=fun y4=>(some (if y4=true then true else (decide (1<(p1.where_.length:Int)))))>>=fun y5=>(some (if y5=true then true else (decide (12<(p1.order.length:Int)))))>>=fun y6=>(if (true&&(y6==false))=true then dX (p1.items.length:Int) 1 12 else some default)>>=fun y7=>(some (if y6=true then true else (!y7)))>>=fun y8=>(some (if y8=true then true else (!decide ((p1.names.length:Int)=(p1.items.length:Int)))))>>=fun y9=>(some (if y9=true then true else (decide (p1.limit<(-1)))))>>=fun y10=>if y10=true then (some false) else (qA p0 p1 0)
def zI (p0:(List Int)) (p1:(List (List Int))):Option (List (List Int)) :=
  (appG 24 ([p0]:List (List Int)) p1)>>=fun y1=>some y1
def oZ (p0:(List Int)) (x3:Int) (x4:Int):Option Bool :=
  if (decide (x4<(p0.length:Int)))=true then ((idx p0 x4)>>=fun y1=>(qZ x3 y1)>>=fun y2=>if (!y2.2)=true then (some false) else (oZ p0 y2.1 (IntKind.wrap .i64 (x4+1)))) else (some true)
  partial_fixpoint
def rQ (p0:(List Int)):Option Bool :=
  oZ p0 0 0
def nR (p2:aA) (tN:(List Int)):Option (Int×Bool) :=
  if (decide (p2.kind=5))=true then (some (3,true)) else ((rQ tN)>>=fun y23=>(kH 3 y23)>>=fun y24=>some (y24.1,y24.2))
def X7 (p0:Int) (p1:Int):Option (Int×Bool) :=
  if (decide (p0=15))=true then ((sI p1)>>=fun y1=>(kH 3 y1)>>=fun y2=>some (y2.1,y2.2)) else (if (decide (p0=16))=true then ((yC p1 1)>>=fun y3=>(kH 1 y3)>>=fun y4=>some (y4.1,y4.2)) else (some (0,false)))
mutual
def pG (y8:(List (List Int))) (p0:aJ) (p2:aB) (x17:(List Int)) (x18:Int):Option ((List Int)×Bool) :=
  if (decide (x18<(p2.items.length:Int)))=true then ((idx p2.items x18)>>=fun y12=>(qM p0 y8 y12)>>=fun y13=>if (!y13.2)=true then (some (([]:List Int),false)) else ((appG 8 x17 ([y13.1]:List Int))>>=fun y14=>pG y8 p0 p2 y14 (IntKind.wrap .i64 (x18+1)))) else (some (x17,true))
  partial_fixpoint
def uI (y8:(List (List Int))) (p0:aJ) (p2:aB) (x14:Int):Option ((List Int)×Bool) :=
  if (decide (x14<(p2.order.length:Int)))=true then ((idx p2.order x14)>>=fun y10=>(qM p0 y8 y10.expr)>>=fun y11=>if (!y11.2)=true then (some (([]:List Int),false)) else (uI y8 p0 p2 (IntKind.wrap .i64 (x14+1)))) else (pG y8 p0 p2 ([]:List Int) 0)
  partial_fixpoint
def xG (p1:(List (List Int))) (p0:aJ) (p2:aB) (x8:Int):Option ((List Int)×Bool) :=
  if (decide (x8<(p2.on_.length:Int)))=true then ((kU p2.tables 0 (IntKind.wrap .i64 (x8+1)))>>=fun y2=>(xC p0 y2)>>=fun y3=>(zI y3.1 p1)>>=fun y4=>(idx p2.on_ x8)>>=fun y5=>(xR p0 y4 y5)>>=fun y6=>if (!y6)=true then (some (([]:List Int),false)) else (xG p1 p0 p2 (IntKind.wrap .i64 (x8+1)))) else ((xC p0 p2.tables)>>=fun y7=>(zI y7.1 p1)>>=fun y8=>(xR p0 y8 p2.where_)>>=fun y9=>if (!y9)=true then (some (([]:List Int),false)) else (uI y8 p0 p2 0))
  partial_fixpoint
def F7 (p0:aJ) (p1:(List (List Int))) (p2:aB):Option ((List Int)×Bool) :=
  (X6 p0 p2)>>=fun y1=>if (!y1)=true then (some (([]:List Int),false)) else (xG p1 p0 p2 0)
  partial_fixpoint
def jP (p1:(List (List Int))) (p0:aJ) (p2:aA) (x8:(List Int)) (x9:Int):Option (Int×Bool) :=
  if (decide (x9<(p2.kids.length:Int)))=true then ((idx p2.kids x9)>>=fun y2=>(qM p0 p1 y2)>>=fun y3=>if (!y3.2)=true then (some (0,false)) else ((appG 8 x8 ([y3.1]:List Int))>>=fun y4=>jP p1 p0 p2 y4 (IntKind.wrap .i64 (x9+1)))) else (if (decide (p2.kind=1))=true then (some (p2.value.kind,true)) else (if (decide (p2.kind=2))=true then ((dX p2.up 0 (IntKind.wrap .i64 ((p1.length:Int) - 1)))>>=fun y5=>(if (true&&((!y5)==false))=true then idx p1 p2.up else some default)>>=fun y6=>(if (true&&((!y5)==false))=true then dX p2.at_ 0 (IntKind.wrap .i64 ((y6.length:Int) - 1)) else some default)>>=fun y7=>(some (if (!y5)=true then true else (!y7)))>>=fun y8=>if y8=true then (some (0,false)) else ((idx p1 p2.up)>>=fun y9=>(idx y9 p2.at_)>>=fun y10=>some (y10,true))) else (if (decide (p2.kind=3))=true then ((idx x8 0)>>=fun y11=>(X7 p2.op y11)>>=fun y12=>some (y12.1,y12.2)) else (if (decide (p2.kind=4))=true then ((idx x8 0)>>=fun y13=>(idx x8 1)>>=fun y14=>(V3 p2.op y13 y14)>>=fun y15=>some (y15.1,y15.2)) else (if (decide (0<(p2.sub.length:Int)))=true then ((idx p2.sub 0)>>=fun y16=>(F7 p0 p1 y16)>>=fun y17=>(if (true&&((!y17.2)==false))=true then some (if (decide (p2.kind=8))=true then (!decide ((y17.1.length:Int)=1)) else false) else some default)>>=fun y18=>(some (if (!y17.2)=true then true else y18))>>=fun y19=>if y19=true then (some (0,false)) else (if (decide (p2.kind=8))=true then ((idx y17.1 0)>>=fun y20=>(appG 8 x8 ([y20]:List Int))>>=fun y21=>nR p2 y21) else (nR p2 x8))) else (nR p2 x8))))))
  partial_fixpoint
def qM (p0:aJ) (p1:(List (List Int))) (p2:aA):Option (Int×Bool) :=
  (G8 p2)>>=fun y1=>if (!y1)=true then (some (0,false)) else (jP p1 p0 p2 ([]:List Int) 0)
  partial_fixpoint
def xH (p1:(List (List Int))) (p2:(List aA)) (p0:aJ) (x7:Int):Option Bool :=
  if (decide (x7<(p2.length:Int)))=true then ((idx p2 x7)>>=fun y1=>(qM p0 p1 y1)>>=fun y2=>(if (true&&((!y2.2)==false))=true then sI y2.1 else some default)>>=fun y3=>(some (if (!y2.2)=true then true else (!y3)))>>=fun y4=>if y4=true then (some false) else (xH p1 p2 p0 (IntKind.wrap .i64 (x7+1)))) else (some true)
  partial_fixpoint
def xR (p0:aJ) (p1:(List (List Int))) (p2:(List aA)):Option Bool :=
  xH p1 p2 p0 0
  partial_fixpoint
end
def nM (p0:Int) (p1:Int):Option Int :=
  if (decide (p1<p0))=true then (some p0) else (some p1)
def qO (p0:aB) (dC:(List aA)) (x5:Int):Option (List aA) :=
  if (decide (x5<(p0.order.length:Int)))=true then ((idx p0.order x5)>>=fun y5=>(appG 120 dC ([y5.expr]:List aA))>>=fun y6=>qO p0 y6 (IntKind.wrap .i64 (x5+1))) else ((appG 120 dC p0.items)>>=fun y7=>some y7)
  partial_fixpoint
def wC (p0:aB) (x3:(List aA)) (x4:Int):Option (List aA) :=
  if (decide (x4<(p0.on_.length:Int)))=true then ((idx p0.on_ x4)>>=fun y1=>(appG 120 x3 y1)>>=fun y2=>wC p0 y2 (IntKind.wrap .i64 (x4+1))) else ((appG 120 x3 p0.where_)>>=fun y3=>qO p0 y3 0)
  partial_fixpoint
def I8 (p0:aB):Option (List aA) :=
  wC p0 ([]:List aA) 0
mutual
def tZ (y1:(List aA)) (x3:Int) (x5:Int):Option Int :=
  if (decide (x5<(y1.length:Int)))=true then ((idx y1 x5)>>=fun y2=>(nJ y2)>>=fun y3=>(nM x3 y3)>>=fun y4=>tZ y1 y4 (IntKind.wrap .i64 (x5+1))) else (some x3)
  partial_fixpoint
def xL (p0:aB):Option Int :=
  (I8 p0)>>=fun y1=>tZ y1 0 0
  partial_fixpoint
def vR (p0:aA) (dC:Int) (x5:Int):Option Int :=
  if (decide (x5<(p0.sub.length:Int)))=true then ((idx p0.sub x5)>>=fun y5=>(xL y5)>>=fun y6=>(nM dC y6)>>=fun y7=>vR p0 y7 (IntKind.wrap .i64 (x5+1))) else (some (IntKind.wrap .i64 (dC+1)))
  partial_fixpoint
def I5 (p0:aA) (x3:Int) (x4:Int):Option Int :=
  if (decide (x4<(p0.kids.length:Int)))=true then ((idx p0.kids x4)>>=fun y1=>(nJ y1)>>=fun y2=>(nM x3 y2)>>=fun y3=>I5 p0 y3 (IntKind.wrap .i64 (x4+1))) else (vR p0 x3 0)
  partial_fixpoint
def nJ (p0:aA):Option Int :=
  I5 p0 0 0
  partial_fixpoint
end
mutual
def vL (y1:(List aA)) (x3:Int) (x5:Int):Option Int :=
  if (decide (x5<(y1.length:Int)))=true then ((idx y1 x5)>>=fun y2=>(nZ y2)>>=fun y3=>vL y1 (IntKind.wrap .i64 (x3+y3)) (IntKind.wrap .i64 (x5+1))) else (some x3)
  partial_fixpoint
def xA (p0:aB):Option Int :=
  (I8 p0)>>=fun y1=>vL y1 0 0
  partial_fixpoint
def xN (p0:aA) (jI:Int) (x5:Int):Option Int :=
  if (decide (x5<(p0.sub.length:Int)))=true then ((idx p0.sub x5)>>=fun y4=>(xA y4)>>=fun y5=>xN p0 (IntKind.wrap .i64 (jI+y5)) (IntKind.wrap .i64 (x5+1))) else (some jI)
  partial_fixpoint
def I6 (p0:aA) (x3:Int) (x4:Int):Option Int :=
  if (decide (x4<(p0.kids.length:Int)))=true then ((idx p0.kids x4)>>=fun y1=>(nZ y1)>>=fun y2=>I6 p0 (IntKind.wrap .i64 (x3+y2)) (IntKind.wrap .i64 (x4+1))) else (xN p0 x3 0)
  partial_fixpoint
def nZ (p0:aA):Option Int :=
  I6 p0 1 0
  partial_fixpoint
end
def pE (y1:(List aA)) (x4:Int) (x5:Int):Option Bool :=
  if (decide (x5<(y1.length:Int)))=true then ((idx y1 x5)>>=fun y2=>(nZ y2)>>=fun y3=>(idx y1 x5)>>=fun y4=>(nJ y4)>>=fun y5=>if (decide (24<y5))=true then (some false) else (pE y1 (IntKind.wrap .i64 (x4+y3)) (IntKind.wrap .i64 (x5+1)))) else (some (decide (x4≤200)))
  partial_fixpoint
def xU (p0:bM) (x3:(List aA)) (x4:Int):Option (List aA) :=
  if (decide (x4<(p0.rows.length:Int)))=true then ((idx p0.rows x4)>>=fun y1=>(appG 120 x3 y1)>>=fun y2=>xU p0 y2 (IntKind.wrap .i64 (x4+1))) else ((appG 120 x3 p0.sets)>>=fun y3=>(appG 120 y3 p0.where_)>>=fun y4=>some y4)
  partial_fixpoint
def aA1 (p0:bM):Option (List aA) :=
  xU p0 ([]:List aA) 0
def P9 (p0:bM):Option Bool :=
  (aA1 p0)>>=fun y1=>pE y1 0 0
def J2 (p0:aJ) (p1:(List (List Int))) (p2:aA) (p3:Int):Option Bool :=
  (qM p0 p1 p2)>>=fun y1=>(qZ y1.1 p3)>>=fun y2=>(some (if y1.2=true then y2.2 else false))>>=fun y3=>some y3
mutual
def rP (y2:(List Int)) (x6:Int) (p0:aJ) (p1:bM) (x7:Int):Option Bool :=
  if (decide (x7<(y2.length:Int)))=true then ((idx p1.rows x6)>>=fun y6=>(idx y6 x7)>>=fun y7=>(idx y2 x7)>>=fun y8=>(J2 p0 ([]:List (List Int)) y7 y8)>>=fun y9=>if (!y9)=true then (some false) else (rP y2 x6 p0 p1 (IntKind.wrap .i64 (x7+1)))) else (rO y2 p0 p1 (IntKind.wrap .i64 (x6+1)))
  partial_fixpoint
def rO (y2:(List Int)) (p0:aJ) (p1:bM) (x6:Int):Option Bool :=
  if (decide (x6<(p1.rows.length:Int)))=true then ((idx p1.rows x6)>>=fun y3=>if (!decide ((y3.length:Int)=(y2.length:Int)))=true then (some false) else (rP y2 x6 p0 p1 0)) else ((dX (p1.rows.length:Int) 1 5)>>=fun y4=>(some (if y4=true then (decide ((IntKind.wrap .i64 ((IntKind.wrap .i64 ((p1.cols.length:Int)+(p1.sets.length:Int)))+(p1.where_.length:Int)))=0)) else false))>>=fun y5=>some y5)
  partial_fixpoint
end
def V5 (p0:aJ) (p1:bM):Option Bool :=
  (idx p0.tables p1.table)>>=fun y1=>(tL y1)>>=fun y2=>rO y2 p0 p1 0
def vD (p0:(List Int)) (p1:Int) (x5:Int):Option Bool :=
  if (decide (x5<(p0.length:Int)))=true then ((idx p0 x5)>>=fun y1=>if (decide (y1=p1))=true then (some true) else (vD p0 p1 (IntKind.wrap .i64 (x5+1)))) else (some false)
  partial_fixpoint
def O3 (p0:(List Int)) (p1:Int):Option Bool :=
  vD p0 p1 0
def qQ (p2:(List (List Int))) (y2:(List Int)) (p0:aJ) (p1:bM) (x8:Int):Option Bool :=
  if (decide (x8<(p1.cols.length:Int)))=true then ((idx p1.cols x8)>>=fun y3=>(dX y3 0 (IntKind.wrap .i64 ((y2.length:Int) - 1)))>>=fun y4=>(if (true&&((!y4)==false))=true then kU p1.cols 0 x8 else some default)>>=fun y5=>(if (true&&((!y4)==false))=true then idx p1.cols x8 else some default)>>=fun y6=>(if (true&&((!y4)==false))=true then O3 y5 y6 else some default)>>=fun y7=>(some (if (!y4)=true then true else y7))>>=fun y8=>(if (true&&(y8==false))=true then idx p1.sets x8 else some default)>>=fun y9=>(if (true&&(y8==false))=true then idx p1.cols x8 else some default)>>=fun y10=>(if (true&&(y8==false))=true then idx y2 y10 else some default)>>=fun y11=>(if (true&&(y8==false))=true then J2 p0 p2 y9 y11 else some default)>>=fun y12=>(some (if y8=true then true else (!y12)))>>=fun y13=>if y13=true then (some false) else (qQ p2 y2 p0 p1 (IntKind.wrap .i64 (x8+1)))) else (some true)
  partial_fixpoint
def aFr (p0:aJ) (p1:bM) (p2:(List (List Int))):Option Bool :=
  (idx p0.tables p1.table)>>=fun y1=>(tL y1)>>=fun y2=>if (!decide ((p1.cols.length:Int)=(p1.sets.length:Int)))=true then (some false) else (qQ p2 y2 p0 p1 0)
def H9 (p0:(List Int)) (p1:(List Int)) (x5:Int):Option Bool :=
  if (decide (x5<(p0.length:Int)))=true then ((idx p0 x5)>>=fun y1=>(idx p1 x5)>>=fun y2=>if (!decide (y1=y2))=true then (some false) else (H9 p0 p1 (IntKind.wrap .i64 (x5+1)))) else (some true)
  partial_fixpoint
def aAe (p0:(List Int)) (p1:(List Int)):Option Bool :=
  if (!decide ((p0.length:Int)=(p1.length:Int)))=true then (some false) else (H9 p0 p1 0)
def zG (p0:(List (List UInt8))) (p1:(List (List UInt8))) (x5:Int):Option Bool :=
  if (decide (x5<(p0.length:Int)))=true then ((idx p0 x5)>>=fun y1=>(idx p1 x5)>>=fun y2=>if (!decide (y1=y2))=true then (some false) else (zG p0 p1 (IntKind.wrap .i64 (x5+1)))) else (some true)
  partial_fixpoint
def U3 (p0:(List (List UInt8))) (p1:(List (List UInt8))):Option Bool :=
  if (!decide ((p0.length:Int)=(p1.length:Int)))=true then (some false) else (zG p0 p1 0)
mutual
def zK (p0:aB) (p1:aB) (x6:Int):Option Bool :=
  if (decide (x6<(p0.order.length:Int)))=true then ((idx p0.order x6)>>=fun y15=>(idx p1.order x6)>>=fun y16=>(if (true&&((!(y15.desc==y16.desc))==false))=true then idx p0.order x6 else some default)>>=fun y17=>(if (true&&((!(y15.desc==y16.desc))==false))=true then idx p1.order x6 else some default)>>=fun y18=>(if (true&&((!(y15.desc==y16.desc))==false))=true then aFc y17.expr y18.expr else some default)>>=fun y19=>(some (if (!(y15.desc==y16.desc))=true then true else (!y19)))>>=fun y20=>if y20=true then (some false) else (zK p0 p1 (IntKind.wrap .i64 (x6+1)))) else (some true)
  partial_fixpoint
def aAp (p0:aB) (p1:aB) (x5:Int):Option Bool :=
  if (decide (x5<(p0.on_.length:Int)))=true then ((idx p0.on_ x5)>>=fun y12=>(idx p1.on_ x5)>>=fun y13=>(vH y12 y13)>>=fun y14=>if (!y14)=true then (some false) else (aAp p0 p1 (IntKind.wrap .i64 (x5+1)))) else (zK p0 p1 0)
  partial_fixpoint
def aF8 (p0:aA) (p1:aA) (x5:Int):Option Bool :=
  if (decide (x5<(p0.sub.length:Int)))=true then ((idx p0.sub x5)>>=fun y9=>(idx p1.sub x5)>>=fun y10=>(zH y9 y10)>>=fun y11=>if (!y11)=true then (some false) else (aF8 p0 p1 (IntKind.wrap .i64 (x5+1)))) else (some true)
  partial_fixpoint
def aFc (p0:aA) (p1:aA):Option Bool :=
  (some (if (!decide (p0.kind=p1.kind))=true then true else (!decide (p0.op=p1.op))))>>=fun y1=>(some (if y1=true then true else (!(p0.not_==p1.not_))))>>=fun y2=>(some (if y2=true then true else (!((decide (p0.value.kind=p1.value.kind))&&((decide (p0.value.num=p1.value.num))&&((decide (p0.value.text=p1.value.text))&&true))))))>>=fun y3=>(some (if y3=true then true else (!decide (p0.up=p1.up))))>>=fun y4=>(some (if y4=true then true else (!decide (p0.at_=p1.at_))))>>=fun y5=>(some (if y5=true then true else (!decide ((p0.sub.length:Int)=(p1.sub.length:Int)))))>>=fun y6=>(if (true&&(y6==false))=true then vH p0.kids p1.kids else some default)>>=fun y7=>(some (if y6=true then true else (!y7)))>>=fun y8=>if y8=true then (some false) else (aF8 p0 p1 0)
  partial_fixpoint
def aA0 (p0:(List aA)) (p1:(List aA)) (x5:Int):Option Bool :=
  if (decide (x5<(p0.length:Int)))=true then ((idx p0 x5)>>=fun y1=>(idx p1 x5)>>=fun y2=>(aFc y1 y2)>>=fun y3=>if (!y3)=true then (some false) else (aA0 p0 p1 (IntKind.wrap .i64 (x5+1)))) else (some true)
  partial_fixpoint
def vH (p0:(List aA)) (p1:(List aA)):Option Bool :=
  if (!decide ((p0.length:Int)=(p1.length:Int)))=true then (some false) else (aA0 p0 p1 0)
  partial_fixpoint
def zH (p0:aB) (p1:aB):Option Bool :=
  (some (if (!(p0.distinct==p1.distinct))=true then true else (!decide (p0.limit=p1.limit))))>>=fun y1=>(if (true&&(y1==false))=true then aAe p0.tables p1.tables else some default)>>=fun y2=>(some (if y1=true then true else (!y2)))>>=fun y3=>(some (if y3=true then true else (!decide ((p0.on_.length:Int)=(p1.on_.length:Int)))))>>=fun y4=>(if (true&&(y4==false))=true then vH p0.where_ p1.where_ else some default)>>=fun y5=>(some (if y4=true then true else (!y5)))>>=fun y6=>(some (if y6=true then true else (!decide ((p0.order.length:Int)=(p1.order.length:Int)))))>>=fun y7=>(if (true&&(y7==false))=true then vH p0.items p1.items else some default)>>=fun y8=>(some (if y7=true then true else (!y8)))>>=fun y9=>(if (true&&(y9==false))=true then U3 p0.names p1.names else some default)>>=fun y10=>(some (if y9=true then true else (!y10)))>>=fun y11=>if y11=true then (some false) else (aAp p0 p1 0)
  partial_fixpoint
end
def aAy (p0:aJ) (p1:aB):Option Bool :=
  (K9 p0)>>=fun y1=>(if (true&&((!y1)==false))=true then xL p1 else some default)>>=fun y2=>(some (if (!y1)=true then true else (decide (24<y2))))>>=fun y3=>(if (true&&(y3==false))=true then xA p1 else some default)>>=fun y4=>(some (if y3=true then true else (decide (200<y4))))>>=fun y5=>if y5=true then (some false) else ((F7 p0 ([]:List (List Int)) p1)>>=fun y6=>some y6.2)
def aB3 (p0:aJ) (p1:bM):Option Bool :=
  if (decide (p1.kind=1))=true then ((aAy p0 p1.plan)>>=fun y1=>(some (if y1=true then (decide (p1.table=0)) else false))>>=fun y2=>(some (if y2=true then (decide ((IntKind.wrap .i64 ((IntKind.wrap .i64 ((IntKind.wrap .i64 ((p1.rows.length:Int)+(p1.cols.length:Int)))+(p1.sets.length:Int)))+(p1.where_.length:Int)))=0)) else false))>>=fun y3=>some y3) else ((K9 p0)>>=fun y4=>(if (true&&((!y4)==false))=true then dX p1.kind 2 4 else some default)>>=fun y5=>(some (if (!y4)=true then true else (!y5)))>>=fun y6=>(if (true&&(y6==false))=true then dX p1.table 0 (IntKind.wrap .i64 ((p0.tables.length:Int) - 1)) else some default)>>=fun y7=>(some (if y6=true then true else (!y7)))>>=fun y8=>(if (true&&(y8==false))=true then zH p1.plan (aB.mk ([]:List Int) ([]:List (List aA)) ([]:List aA) ([]:List aY) ([]:List aA) ([]:List (List UInt8)) false 0) else some default)>>=fun y9=>(some (if y8=true then true else (!y9)))>>=fun y10=>(if (true&&(y10==false))=true then P9 p1 else some default)>>=fun y11=>(some (if y10=true then true else (!y11)))>>=fun y12=>if y12=true then (some false) else (if (decide (p1.kind=2))=true then ((V5 p0 p1)>>=fun y13=>some y13) else ((idx p0.tables p1.table)>>=fun y14=>(tL y14)>>=fun y15=>(some (if (decide (0<(p1.rows.length:Int)))=true then true else (decide (1<(p1.where_.length:Int)))))>>=fun y16=>(if (true&&(y16==false))=true then xR p0 ([y15]:List (List Int)) p1.where_ else some default)>>=fun y17=>(some (if y16=true then true else (!y17)))>>=fun y18=>if y18=true then (some false) else (if (decide (p1.kind=4))=true then (some (decide ((IntKind.wrap .i64 ((p1.cols.length:Int)+(p1.sets.length:Int)))=0))) else ((if (true&&((decide (0<(p1.cols.length:Int)))==true))=true then aFr p0 p1 ([y15]:List (List Int)) else some default)>>=fun y19=>(some (if (decide (0<(p1.cols.length:Int)))=true then y19 else false))>>=fun y20=>some y20)))))
def aB5 (p0:aJ) (p1:bM):Option Int :=
  (aB3 p0 p1)>>=fun y1=>(some (if (!y1)=true then true else (decide (p1.kind=1))))>>=fun y2=>if y2=true then (some (-1)) else (some p1.table)
def zM (p0:bL) (p1:bL):Option Bool :=
  if (!decide (p0.name=p1.name))=true then (some false) else (if (!decide (p0.type=p1.type))=true then (some false) else (some true))
def yU (p0:(List bL)) (p1:(List bL)) (x5:Int):Option Bool :=
  if (decide (x5<(p0.length:Int)))=true then ((idx p0 x5)>>=fun y1=>(idx p1 x5)>>=fun y2=>(zM y1 y2)>>=fun y3=>if (!y3)=true then (some false) else (yU p0 p1 (IntKind.wrap .i64 (x5+1)))) else (some true)
  partial_fixpoint
def M3 (p0:(List bL)) (p1:(List bL)):Option Bool :=
  if (!decide ((p0.length:Int)=(p1.length:Int)))=true then (some false) else (yU p0 p1 0)
def A9 (p0:bD) (p1:bD):Option Bool :=
  if (!decide (p0.name=p1.name))=true then (some false) else ((M3 p0.cols p1.cols)>>=fun y1=>if (!y1)=true then (some false) else (some true))
def yS (p0:(List bD)) (p1:(List bD)) (x5:Int):Option Bool :=
  if (decide (x5<(p0.length:Int)))=true then ((idx p0 x5)>>=fun y1=>(idx p1 x5)>>=fun y2=>(A9 y1 y2)>>=fun y3=>if (!y3)=true then (some false) else (yS p0 p1 (IntKind.wrap .i64 (x5+1)))) else (some true)
  partial_fixpoint
def zV (p0:(List bD)) (p1:(List bD)):Option Bool :=
  if (!decide ((p0.length:Int)=(p1.length:Int)))=true then (some false) else (yS p0 p1 0)
def Y8 (p0:aJ) (p1:aJ):Option Bool :=
  (zV p0.tables p1.tables)>>=fun y1=>if (!y1)=true then (some false) else (some true)
def zU (p0:(List Int)) (p1:(List Int)) (x5:Int):Option Bool :=
  if (decide (x5<(p0.length:Int)))=true then ((idx p0 x5)>>=fun y1=>(idx p1 x5)>>=fun y2=>if (!decide (y1=y2))=true then (some false) else (zU p0 p1 (IntKind.wrap .i64 (x5+1)))) else (some true)
  partial_fixpoint
def sV (p0:(List Int)) (p1:(List Int)):Option Bool :=
  if (!decide ((p0.length:Int)=(p1.length:Int)))=true then (some false) else (zU p0 p1 0)
def yY (p0:(List (List UInt8))) (p1:(List (List UInt8))) (x5:Int):Option Bool :=
  if (decide (x5<(p0.length:Int)))=true then ((idx p0 x5)>>=fun y1=>(idx p1 x5)>>=fun y2=>if (!decide (y1=y2))=true then (some false) else (yY p0 p1 (IntKind.wrap .i64 (x5+1)))) else (some true)
  partial_fixpoint
def zZ (p0:(List (List UInt8))) (p1:(List (List UInt8))):Option Bool :=
  if (!decide ((p0.length:Int)=(p1.length:Int)))=true then (some false) else (yY p0 p1 0)
def yP (p0:dF) (p1:dF):Option Bool :=
  if (!decide (p0.kind=p1.kind))=true then (some false) else (if (!decide (p0.num=p1.num))=true then (some false) else (if (!decide (p0.text=p1.text))=true then (some false) else (some true)))
mutual
def tC (p0:aY) (p1:aY):Option Bool :=
  (kR p0.expr p1.expr)>>=fun y1=>if (!y1)=true then (some false) else (if (!(p0.desc==p1.desc))=true then (some false) else (some true))
  partial_fixpoint
def aA8 (p0:(List aY)) (p1:(List aY)) (x5:Int):Option Bool :=
  if (decide (x5<(p0.length:Int)))=true then ((idx p0 x5)>>=fun y1=>(idx p1 x5)>>=fun y2=>(tC y1 y2)>>=fun y3=>if (!y3)=true then (some false) else (aA8 p0 p1 (IntKind.wrap .i64 (x5+1)))) else (some true)
  partial_fixpoint
def Q9 (p0:(List aY)) (p1:(List aY)):Option Bool :=
  if (!decide ((p0.length:Int)=(p1.length:Int)))=true then (some false) else (aA8 p0 p1 0)
  partial_fixpoint
def K5 (p0:(List (List aA))) (p1:(List (List aA))) (x5:Int):Option Bool :=
  if (decide (x5<(p0.length:Int)))=true then ((idx p0 x5)>>=fun y1=>(idx p1 x5)>>=fun y2=>(gD y1 y2)>>=fun y3=>if (!y3)=true then (some false) else (K5 p0 p1 (IntKind.wrap .i64 (x5+1)))) else (some true)
  partial_fixpoint
def qU (p0:(List (List aA))) (p1:(List (List aA))):Option Bool :=
  if (!decide ((p0.length:Int)=(p1.length:Int)))=true then (some false) else (K5 p0 p1 0)
  partial_fixpoint
def oU (p0:aB) (p1:aB):Option Bool :=
  (sV p0.tables p1.tables)>>=fun y1=>if (!y1)=true then (some false) else ((qU p0.on_ p1.on_)>>=fun y2=>if (!y2)=true then (some false) else ((gD p0.where_ p1.where_)>>=fun y3=>if (!y3)=true then (some false) else ((Q9 p0.order p1.order)>>=fun y4=>if (!y4)=true then (some false) else ((gD p0.items p1.items)>>=fun y5=>if (!y5)=true then (some false) else ((zZ p0.names p1.names)>>=fun y6=>if (!y6)=true then (some false) else (if (!(p0.distinct==p1.distinct))=true then (some false) else (if (!decide (p0.limit=p1.limit))=true then (some false) else (some true))))))))
  partial_fixpoint
def M9 (p0:(List aB)) (p1:(List aB)) (x5:Int):Option Bool :=
  if (decide (x5<(p0.length:Int)))=true then ((idx p0 x5)>>=fun y1=>(idx p1 x5)>>=fun y2=>(oU y1 y2)>>=fun y3=>if (!y3)=true then (some false) else (M9 p0 p1 (IntKind.wrap .i64 (x5+1)))) else (some true)
  partial_fixpoint
def O9 (p0:(List aB)) (p1:(List aB)):Option Bool :=
  if (!decide ((p0.length:Int)=(p1.length:Int)))=true then (some false) else (M9 p0 p1 0)
  partial_fixpoint
def kR (p0:aA) (p1:aA):Option Bool :=
  if (!decide (p0.kind=p1.kind))=true then (some false) else (if (!decide (p0.op=p1.op))=true then (some false) else (if (!(p0.not_==p1.not_))=true then (some false) else ((yP p0.value p1.value)>>=fun y1=>if (!y1)=true then (some false) else (if (!decide (p0.up=p1.up))=true then (some false) else (if (!decide (p0.at_=p1.at_))=true then (some false) else ((gD p0.kids p1.kids)>>=fun y2=>if (!y2)=true then (some false) else ((O9 p0.sub p1.sub)>>=fun y3=>if (!y3)=true then (some false) else (some true))))))))
  partial_fixpoint
def pQ (p0:(List aA)) (p1:(List aA)) (x5:Int):Option Bool :=
  if (decide (x5<(p0.length:Int)))=true then ((idx p0 x5)>>=fun y1=>(idx p1 x5)>>=fun y2=>(kR y1 y2)>>=fun y3=>if (!y3)=true then (some false) else (pQ p0 p1 (IntKind.wrap .i64 (x5+1)))) else (some true)
  partial_fixpoint
def gD (p0:(List aA)) (p1:(List aA)):Option Bool :=
  if (!decide ((p0.length:Int)=(p1.length:Int)))=true then (some false) else (pQ p0 p1 0)
  partial_fixpoint
end
def aAz (p0:bM) (p1:bM):Option Bool :=
  if (!decide (p0.kind=p1.kind))=true then (some false) else ((oU p0.plan p1.plan)>>=fun y1=>if (!y1)=true then (some false) else (if (!decide (p0.table=p1.table))=true then (some false) else ((qU p0.rows p1.rows)>>=fun y2=>if (!y2)=true then (some false) else ((sV p0.cols p1.cols)>>=fun y3=>if (!y3)=true then (some false) else ((gD p0.sets p1.sets)>>=fun y4=>if (!y4)=true then (some false) else ((gD p0.where_ p1.where_)>>=fun y5=>if (!y5)=true then (some false) else (some true)))))))
def H7 (p0:bL) (p1:Int):Option Int :=
  if (decide ((IntKind.wrap .i64 (p1 - (p0.name.length:Int)))<0))=true then (some (-1)) else (some (IntKind.wrap .i64 (p1 - (p0.name.length:Int))))
def J6 (p0:(List bL)) (x1:Int) (x5:Int):Option Int :=
  if (decide (x5<(p0.length:Int)))=true then ((idx p0 x5)>>=fun y1=>(H7 y1 x1)>>=fun y2=>if (decide (y2<0))=true then (some (-1)) else (J6 p0 y2 (IntKind.wrap .i64 (x5+1)))) else (some x1)
  partial_fixpoint
def zN (p0:(List bL)) (p1:Int):Option Int :=
  if (decide ((IntKind.wrap .i64 (p1 - (p0.length:Int)))<0))=true then (some (-1)) else (J6 p0 (IntKind.wrap .i64 (p1 - (p0.length:Int))) 0)
def K3 (p0:bD) (p1:Int):Option Int :=
  if (decide ((IntKind.wrap .i64 (p1 - (p0.name.length:Int)))<0))=true then (some (-1)) else ((zN p0.cols (IntKind.wrap .i64 (p1 - (p0.name.length:Int))))>>=fun y1=>if (decide (y1<0))=true then (some (-1)) else (some y1))
def G9 (p0:(List bD)) (x1:Int) (x5:Int):Option Int :=
  if (decide (x5<(p0.length:Int)))=true then ((idx p0 x5)>>=fun y1=>(K3 y1 x1)>>=fun y2=>if (decide (y2<0))=true then (some (-1)) else (G9 p0 y2 (IntKind.wrap .i64 (x5+1)))) else (some x1)
  partial_fixpoint
def zC (p0:(List bD)) (p1:Int):Option Int :=
  if (decide ((IntKind.wrap .i64 (p1 - (p0.length:Int)))<0))=true then (some (-1)) else (G9 p0 (IntKind.wrap .i64 (p1 - (p0.length:Int))) 0)
def U2 (p0:aJ) (p1:Int):Option Int :=
  (zC p0.tables p1)>>=fun y1=>if (decide (y1<0))=true then (some (-1)) else (some y1)
def vE (p0:(List Int)) (p1:Int):Option Int :=
  if (decide ((IntKind.wrap .i64 (p1 - (p0.length:Int)))<0))=true then (some (-1)) else (some (IntKind.wrap .i64 (p1 - (p0.length:Int))))
def wH (p0:(List (List UInt8))) (x1:Int) (x5:Int):Option Int :=
  if (decide (x5<(p0.length:Int)))=true then ((idx p0 x5)>>=fun y1=>if (decide ((IntKind.wrap .i64 (x1 - (y1.length:Int)))<0))=true then (some (-1)) else (wH p0 (IntKind.wrap .i64 (x1 - (y1.length:Int))) (IntKind.wrap .i64 (x5+1)))) else (some x1)
  partial_fixpoint
def D9 (p0:(List (List UInt8))) (p1:Int):Option Int :=
  if (decide ((IntKind.wrap .i64 (p1 - (p0.length:Int)))<0))=true then (some (-1)) else (wH p0 (IntKind.wrap .i64 (p1 - (p0.length:Int))) 0)
def yT (p0:dF) (p1:Int):Option Int :=
  if (decide ((IntKind.wrap .i64 (p1 - (p0.text.length:Int)))<0))=true then (some (-1)) else (some (IntKind.wrap .i64 (p1 - (p0.text.length:Int))))
mutual
def uX (p0:aY) (p1:Int):Option Int :=
  (kN p0.expr p1)>>=fun y1=>if (decide (y1<0))=true then (some (-1)) else (some y1)
  partial_fixpoint
def aAt (p0:(List aY)) (x1:Int) (x5:Int):Option Int :=
  if (decide (x5<(p0.length:Int)))=true then ((idx p0 x5)>>=fun y1=>(uX y1 x1)>>=fun y2=>if (decide (y2<0))=true then (some (-1)) else (aAt p0 y2 (IntKind.wrap .i64 (x5+1)))) else (some x1)
  partial_fixpoint
def Q7 (p0:(List aY)) (p1:Int):Option Int :=
  if (decide ((IntKind.wrap .i64 (p1 - (p0.length:Int)))<0))=true then (some (-1)) else (aAt p0 (IntKind.wrap .i64 (p1 - (p0.length:Int))) 0)
  partial_fixpoint
def F4 (p0:(List (List aA))) (x1:Int) (x5:Int):Option Int :=
  if (decide (x5<(p0.length:Int)))=true then ((idx p0 x5)>>=fun y1=>(gJ y1 x1)>>=fun y2=>if (decide (y2<0))=true then (some (-1)) else (F4 p0 y2 (IntKind.wrap .i64 (x5+1)))) else (some x1)
  partial_fixpoint
def pU (p0:(List (List aA))) (p1:Int):Option Int :=
  if (decide ((IntKind.wrap .i64 (p1 - (p0.length:Int)))<0))=true then (some (-1)) else (F4 p0 (IntKind.wrap .i64 (p1 - (p0.length:Int))) 0)
  partial_fixpoint
def pX (p0:aB) (p1:Int):Option Int :=
  (vE p0.tables p1)>>=fun y1=>if (decide (y1<0))=true then (some (-1)) else ((pU p0.on_ y1)>>=fun y2=>if (decide (y2<0))=true then (some (-1)) else ((gJ p0.where_ y2)>>=fun y3=>if (decide (y3<0))=true then (some (-1)) else ((Q7 p0.order y3)>>=fun y4=>if (decide (y4<0))=true then (some (-1)) else ((gJ p0.items y4)>>=fun y5=>if (decide (y5<0))=true then (some (-1)) else ((D9 p0.names y5)>>=fun y6=>if (decide (y6<0))=true then (some (-1)) else (some y6))))))
  partial_fixpoint
def Y2 (p0:(List aB)) (x1:Int) (x5:Int):Option Int :=
  if (decide (x5<(p0.length:Int)))=true then ((idx p0 x5)>>=fun y1=>(pX y1 x1)>>=fun y2=>if (decide (y2<0))=true then (some (-1)) else (Y2 p0 y2 (IntKind.wrap .i64 (x5+1)))) else (some x1)
  partial_fixpoint
def aAi (p0:(List aB)) (p1:Int):Option Int :=
  if (decide ((IntKind.wrap .i64 (p1 - (p0.length:Int)))<0))=true then (some (-1)) else (Y2 p0 (IntKind.wrap .i64 (p1 - (p0.length:Int))) 0)
  partial_fixpoint
def kN (p0:aA) (p1:Int):Option Int :=
  (yT p0.value p1)>>=fun y1=>if (decide (y1<0))=true then (some (-1)) else ((gJ p0.kids y1)>>=fun y2=>if (decide (y2<0))=true then (some (-1)) else ((aAi p0.sub y2)>>=fun y3=>if (decide (y3<0))=true then (some (-1)) else (some y3)))
  partial_fixpoint
def qW (p0:(List aA)) (x1:Int) (x5:Int):Option Int :=
  if (decide (x5<(p0.length:Int)))=true then ((idx p0 x5)>>=fun y1=>(kN y1 x1)>>=fun y2=>if (decide (y2<0))=true then (some (-1)) else (qW p0 y2 (IntKind.wrap .i64 (x5+1)))) else (some x1)
  partial_fixpoint
def gJ (p0:(List aA)) (p1:Int):Option Int :=
  if (decide ((IntKind.wrap .i64 (p1 - (p0.length:Int)))<0))=true then (some (-1)) else (qW p0 (IntKind.wrap .i64 (p1 - (p0.length:Int))) 0)
  partial_fixpoint
end
def O1 (p0:bM) (p1:Int):Option Int :=
  (pX p0.plan p1)>>=fun y1=>if (decide (y1<0))=true then (some (-1)) else ((pU p0.rows y1)>>=fun y2=>if (decide (y2<0))=true then (some (-1)) else ((vE p0.cols y2)>>=fun y3=>if (decide (y3<0))=true then (some (-1)) else ((gJ p0.sets y3)>>=fun y4=>if (decide (y4<0))=true then (some (-1)) else ((gJ p0.where_ y4)>>=fun y5=>if (decide (y5<0))=true then (some (-1)) else (some y5)))))
def L9 (p0:bL):Option bL :=
  some p0
def zX (p0:(List bL)) (x4:Int) (aR:(List bL)):Option (List bL) :=
  if (decide (x4<(p0.length:Int)))=true then ((idx p0 x4)>>=fun y2=>(L9 y2)>>=fun y3=>(idx aR x4)>>=fun y4=>(kG aR x4 y3)>>=fun y5=>zX p0 (IntKind.wrap .i64 (x4+1)) y5) else (some aR)
  partial_fixpoint
def yG (p0:(List bL)):Option (List bL) :=
  (mkG 24 (p0.length:Int) ((bL.mk [] 0):bL))>>=fun y1=>zX p0 0 y1
def yQ (p0:bD):Option bD :=
  (yG p0.cols)>>=fun y1=>some (bD.mk p0.name y1)
def yV (p0:(List bD)) (x4:Int) (aR:(List bD)):Option (List bD) :=
  if (decide (x4<(p0.length:Int)))=true then ((idx p0 x4)>>=fun y2=>(yQ y2)>>=fun y3=>(idx aR x4)>>=fun y4=>(kG aR x4 y3)>>=fun y5=>yV p0 (IntKind.wrap .i64 (x4+1)) y5) else (some aR)
  partial_fixpoint
def H8 (p0:(List bD)):Option (List bD) :=
  (mkG 40 (p0.length:Int) ((bD.mk [] ([]:List bL)):bD))>>=fun y1=>yV p0 0 y1
def vP (p0:aJ):Option aJ :=
  (H8 p0.tables)>>=fun y1=>some (aJ.mk y1)
def F6 (p0:(List Int)) (x4:Int) (aR:(List Int)):Option (List Int) :=
  if (decide (x4<(p0.length:Int)))=true then ((idx p0 x4)>>=fun y2=>(idx aR x4)>>=fun y3=>(kG aR x4 y2)>>=fun y4=>F6 p0 (IntKind.wrap .i64 (x4+1)) y4) else (some aR)
  partial_fixpoint
def uZ (p0:(List Int)):Option (List Int) :=
  (mkG 8 (p0.length:Int) (0:Int))>>=fun y1=>F6 p0 0 y1
def M4 (p0:(List (List UInt8))) (x4:Int) (aR:(List (List UInt8))):Option (List (List UInt8)) :=
  if (decide (x4<(p0.length:Int)))=true then ((idx p0 x4)>>=fun y2=>(idx aR x4)>>=fun y3=>(kG aR x4 y2)>>=fun y4=>M4 p0 (IntKind.wrap .i64 (x4+1)) y4) else (some aR)
  partial_fixpoint
def I9 (p0:(List (List UInt8))):Option (List (List UInt8)) :=
  (mkG 16 (p0.length:Int) ([]:(List UInt8)))>>=fun y1=>M4 p0 0 y1
def E5 (p0:dF):Option dF :=
  some p0
mutual
def rZ (p0:aY):Option aY :=
  (kS p0.expr)>>=fun y1=>some (aY.mk y1 p0.desc)
  partial_fixpoint
def V8 (p0:(List aY)) (x4:Int) (aR:(List aY)):Option (List aY) :=
  if (decide (x4<(p0.length:Int)))=true then ((idx p0 x4)>>=fun y2=>(rZ y2)>>=fun y3=>(idx aR x4)>>=fun y4=>(kG aR x4 y3)>>=fun y5=>V8 p0 (IntKind.wrap .i64 (x4+1)) y5) else (some aR)
  partial_fixpoint
def N9 (p0:(List aY)):Option (List aY) :=
  (mkG 128 (p0.length:Int) ((aY.mk (aA.mk 0 0 false (dF.mk 0 0 []) 0 0 ([]:List aA) ([]:List aB)) false):aY))>>=fun y1=>V8 p0 0 y1
  partial_fixpoint
def I7 (p0:(List (List aA))) (x4:Int) (aR:(List (List aA))):Option (List (List aA)) :=
  if (decide (x4<(p0.length:Int)))=true then ((idx p0 x4)>>=fun y2=>(gK y2)>>=fun y3=>(idx aR x4)>>=fun y4=>(kG aR x4 y3)>>=fun y5=>I7 p0 (IntKind.wrap .i64 (x4+1)) y5) else (some aR)
  partial_fixpoint
def qD (p0:(List (List aA))):Option (List (List aA)) :=
  (mkG 24 (p0.length:Int) (([]:List aA):(List aA)))>>=fun y1=>I7 p0 0 y1
  partial_fixpoint
def qC (p0:aB):Option aB :=
  (uZ p0.tables)>>=fun y1=>(qD p0.on_)>>=fun y2=>(gK p0.where_)>>=fun y3=>(N9 p0.order)>>=fun y4=>(gK p0.items)>>=fun y5=>(I9 p0.names)>>=fun y6=>some (aB.mk y1 y2 y3 y4 y5 y6 p0.distinct p0.limit)
  partial_fixpoint
def aAk (p0:(List aB)) (x4:Int) (aR:(List aB)):Option (List aB) :=
  if (decide (x4<(p0.length:Int)))=true then ((idx p0 x4)>>=fun y2=>(qC y2)>>=fun y3=>(idx aR x4)>>=fun y4=>(kG aR x4 y3)>>=fun y5=>aAk p0 (IntKind.wrap .i64 (x4+1)) y5) else (some aR)
  partial_fixpoint
def X5 (p0:(List aB)):Option (List aB) :=
  (mkG 160 (p0.length:Int) ((aB.mk ([]:List Int) ([]:List (List aA)) ([]:List aA) ([]:List aY) ([]:List aA) ([]:List (List UInt8)) false 0):aB))>>=fun y1=>aAk p0 0 y1
  partial_fixpoint
def kS (p0:aA):Option aA :=
  (E5 p0.value)>>=fun y1=>(gK p0.kids)>>=fun y2=>(X5 p0.sub)>>=fun y3=>some (aA.mk p0.kind p0.op p0.not_ y1 p0.up p0.at_ y2 y3)
  partial_fixpoint
def pY (p0:(List aA)) (x4:Int) (aR:(List aA)):Option (List aA) :=
  if (decide (x4<(p0.length:Int)))=true then ((idx p0 x4)>>=fun y2=>(kS y2)>>=fun y3=>(idx aR x4)>>=fun y4=>(kG aR x4 y3)>>=fun y5=>pY p0 (IntKind.wrap .i64 (x4+1)) y5) else (some aR)
  partial_fixpoint
def gK (p0:(List aA)):Option (List aA) :=
  (mkG 120 (p0.length:Int) ((aA.mk 0 0 false (dF.mk 0 0 []) 0 0 ([]:List aA) ([]:List aB)):aA))>>=fun y1=>pY p0 0 y1
  partial_fixpoint
end
def vV (p0:bM):Option bM :=
  (qC p0.plan)>>=fun y1=>(qD p0.rows)>>=fun y2=>(uZ p0.cols)>>=fun y3=>(gK p0.sets)>>=fun y4=>(gK p0.where_)>>=fun y5=>some (bM.mk p0.kind y1 p0.table y2 y3 y4 y5)
def Q6 (p0:aJ) (p1:bM):Option Bool :=
  (U2 p0 1048576)>>=fun y1=>if (decide (y1<0))=true then (some true) else ((O1 p1 y1)>>=fun y2=>if (decide (y2<0))=true then (some true) else ((vP p0)>>=fun y3=>(vV p1)>>=fun y4=>(aB5 y3 y4)>>=fun y5=>(vP p0)>>=fun y6=>(vV p1)>>=fun y7=>(aAq y6 y7)>>=fun y8=>if (!decide (y8=y5))=true then (some false) else ((vP p0)>>=fun y9=>(Y8 y6 y9)>>=fun y10=>if (!y10)=true then (some false) else ((vV p1)>>=fun y11=>(aAz y7 y11)>>=fun y12=>if (!y12)=true then (some false) else (some true)))))
end Go.Ab
