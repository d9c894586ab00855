/- The functions of the program,as Lean functions (printed by a program). -/
import Derived.Test.YthgkmdkjegiaoacGreatAbF0
namespace Go.Ab
open Go
structure bL where
  name:(List UInt8)
  type:Int
instance:Inhabited bL:=⟨(bL.mk [] 0)⟩
structure bD where
  name:(List UInt8)
  cols:(List bL)
instance:Inhabited bD:=⟨(bD.mk [] [])⟩
structure aJ where
  tables:(List bD)
instance:Inhabited aJ:=⟨(aJ.mk [])⟩
structure dC where
  kind:Int
  num:Int
  text:(List UInt8)
instance:Inhabited dC:=⟨(dC.mk 0 0 [])⟩
mutual
structure aA where
  kind:Int
  op:Int
  not_:Bool
  value:dC
  up:Int
  at_:Int
  kids:(List aA)
  sub:(List aB)
structure aY where
  expr:aA
  desc:Bool
structure aB where
  tables:(List Int)
  on_:(List (List aA))
  where_:(List aA)
  order:(List aY)
  items:(List aA)
  names:(List (List UInt8))
  distinct:Bool
  limit:Int
end
instance:Inhabited aA:=⟨(aA.mk 0 0 false (dC.mk 0 0 []) 0 0 [] [])⟩
instance:Inhabited aY:=⟨(aY.mk (aA.mk 0 0 false (dC.mk 0 0 []) 0 0 [] []) false)⟩
instance:Inhabited aB:=⟨(aB.mk [] [] [] [] [] [] false 0)⟩
structure bM where
  kind:Int
  plan:aB
  table:Int
  rows:(List (List aA))
  cols:(List Int)
  sets:(List aA)
  where_:(List aA)
instance:Inhabited bM:=⟨(bM.mk 0 (aB.mk [] [] [] [] [] [] false 0) 0 [] [] [] [])⟩
mutual
structure cO where
  kind:Int
  op:Int
  not_:Bool
  value:dC
  qual:(List UInt8)
  name:(List UInt8)
  kids:(List cO)
  sub:(List eY)
structure jN where
  star:Bool
  qual:(List UInt8)
  expr:cO
  as_:(List UInt8)
structure eY where
  distinct:Bool
  items:(List jN)
  from_:(List jL)
  where_:(List cO)
  order:(List jA)
  limit:Int
structure jA where
  expr:cO
  desc:Bool
structure jL where
  table:(List UInt8)
  as_:(List UInt8)
  on_:(List cO)
end
instance:Inhabited cO:=⟨(cO.mk 0 0 false (dC.mk 0 0 []) [] [] [] [])⟩
instance:Inhabited jN:=⟨(jN.mk false [] (cO.mk 0 0 false (dC.mk 0 0 []) [] [] [] []) [])⟩
instance:Inhabited eY:=⟨(eY.mk false [] [] [] [] 0)⟩
instance:Inhabited jA:=⟨(jA.mk (cO.mk 0 0 false (dC.mk 0 0 []) [] [] [] []) false)⟩
instance:Inhabited jL:=⟨(jL.mk [] [] [])⟩
structure fV where
  op:Bool
  not_:Bool
  value:Bool
  name:Bool
  least:Int
  most:Int
  subs:Int
instance:Inhabited fV:=⟨(fV.mk false false false false 0 0 0)⟩
def okGCol (x:bL):Prop:=okS x.name∧okI x.type
def okGTable (x:bD):Prop:=okS x.name∧(okL okGCol) x.cols
def okGCatalog (x:aJ):Prop:=(okL okGTable) x.tables
def okGValue (x:dC):Prop:=okI x.kind∧okI x.num∧okS x.text
mutual
def okGPExpr:aA→Prop
  | ⟨a0,a1,a2,a3,a4,a5,a6,a7⟩=>okI a0∧okI a1∧okB a2∧okGValue a3∧okI a4∧okI a5∧(a6.length≤9223372036854775807∧okLGPExpr a6)∧(a7.length≤9223372036854775807∧okLGPlan a7)
def okGPSort:aY→Prop
  | ⟨a0,a1⟩=>okGPExpr a0∧okB a1
def okGPlan:aB→Prop
  | ⟨a0,a1,a2,a3,a4,a5,a6,a7⟩=>(okL okI) a0∧(a1.length≤9223372036854775807∧okLLGPExpr a1)∧(a2.length≤9223372036854775807∧okLGPExpr a2)∧(a3.length≤9223372036854775807∧okLGPSort a3)∧(a4.length≤9223372036854775807∧okLGPExpr a4)∧(okL okS) a5∧okB a6∧okI a7
def okLGPExpr:List aA→Prop
  | []=>True
  | x::l=>okGPExpr x∧okLGPExpr l
def okLGPSort:List aY→Prop
  | []=>True
  | x::l=>okGPSort x∧okLGPSort l
def okLGPlan:List aB→Prop
  | []=>True
  | x::l=>okGPlan x∧okLGPlan l
def okLLGPExpr:List (List aA)→Prop
  | []=>True
  | x::l=>(x.length≤9223372036854775807∧okLGPExpr x)∧okLLGPExpr l
end
def okGSPlan (x:bM):Prop:=okI x.kind∧okGPlan x.plan∧okI x.table∧(okL (okL okGPExpr)) x.rows∧(okL okI) x.cols∧(okL okGPExpr) x.sets∧(okL okGPExpr) x.where_
mutual
def okGExpr:cO→Prop
  | ⟨a0,a1,a2,a3,a4,a5,a6,a7⟩=>okI a0∧okI a1∧okB a2∧okGValue a3∧okS a4∧okS a5∧(a6.length≤9223372036854775807∧okLGExpr a6)∧(a7.length≤9223372036854775807∧okLGQuery a7)
def okGItem:jN→Prop
  | ⟨a0,a1,a2,a3⟩=>okB a0∧okS a1∧okGExpr a2∧okS a3
def okGQuery:eY→Prop
  | ⟨a0,a1,a2,a3,a4,a5⟩=>okB a0∧(a1.length≤9223372036854775807∧okLGItem a1)∧(a2.length≤9223372036854775807∧okLGSource a2)∧(a3.length≤9223372036854775807∧okLGExpr a3)∧(a4.length≤9223372036854775807∧okLGSortKey a4)∧okI a5
def okGSortKey:jA→Prop
  | ⟨a0,a1⟩=>okGExpr a0∧okB a1
def okGSource:jL→Prop
  | ⟨a0,a1,a2⟩=>okS a0∧okS a1∧(a2.length≤9223372036854775807∧okLGExpr a2)
def okLGExpr:List cO→Prop
  | []=>True
  | x::l=>okGExpr x∧okLGExpr l
def okLGItem:List jN→Prop
  | []=>True
  | x::l=>okGItem x∧okLGItem l
def okLGQuery:List eY→Prop
  | []=>True
  | x::l=>okGQuery x∧okLGQuery l
def okLGSortKey:List jA→Prop
  | []=>True
  | x::l=>okGSortKey x∧okLGSortKey l
def okLGSource:List jL→Prop
  | []=>True
  | x::l=>okGSource x∧okLGSource l
end
def okGForm (x:fV):Prop:=okB x.op∧okB x.not_∧okB x.value∧okB x.name∧okI x.least∧okI x.most∧okI x.subs
def Z4 (p0:Int):Option Bool :=
  (some (if (decide (0≤p0))=true then (decide (p0≤3)) else false))>>=fun y1=>some y1
def xP (p0:Int) (p1:Int):Option (Int×Bool) :=
  (Z4 p0)>>=fun y1=>(if (true&&((!y1)==false))=true then Z4 p1 else some default)>>=fun y2=>(some (if (!y1)=true then true else (!y2)))>>=fun y3=>if y3=true then (some (0,false)) else (if (decide (p0=0))=true then (some (p1,true)) else ((some (if (decide (p1=0))=true then true else (decide (p0=p1))))>>=fun y4=>if y4=true then (some (p0,true)) else (some (0,false))))
def U4 (p0:dC):Option Bool :=
  if (decide (p0.kind=0))=true then ((some (if (decide (p0.num=0))=true then (decide (p0.text=[])) else false))>>=fun y1=>some y1) else (if (decide (p0.kind=1))=true then (some (decide (p0.text=[]))) else (if (decide (p0.kind=2))=true then ((some (if (decide (p0.num=0))=true then (decide ((p0.text.length:Int)≤200)) else false))>>=fun y2=>some y2) else (if (decide (p0.kind=3))=true then ((some (if (decide (p0.num=0))=true then true else (decide (p0.num=1))))>>=fun y3=>(some (if y3=true then (decide (p0.text=[])) else false))>>=fun y4=>some y4) else (some false))))
def yE (p0:dC):Option Bool :=
  (U4 p0)>>=fun y1=>(if (true&&(y1==true))=true then some (if (!decide (p0.kind=1))=true then true else (decide (0≤p0.num))) else some default)>>=fun y2=>(some (if y1=true then y2 else false))>>=fun y3=>(some (if y3=true then (decide ((p0.text.length:Int)≤40)) else false))>>=fun y4=>some y4
def kL (p0:(List UInt8)):Option Bool :=
  (some (if (decide (1≤(p0.length:Int)))=true then (decide ((p0.length:Int)≤20)) else false))>>=fun y1=>some y1
def xK (p0:cO):Option (fV×Bool) :=
  if (decide (p0.kind=1))=true then ((yE p0.value)>>=fun y1=>some ((fV.mk false false true false 0 0 0),y1)) else (if (decide (p0.kind=2))=true then ((kL p0.name)>>=fun y2=>(if ((true&&(y2==true))&&((decide (p0.qual=[]))==false))=true then kL p0.qual else some default)>>=fun y3=>(if (true&&(y2==true))=true then some (if (decide (p0.qual=[]))=true then true else y3) else some default)>>=fun y4=>(some (if y2=true then y4 else false))>>=fun y5=>some ((fV.mk false false false true 0 0 0),y5)) else (if (decide (p0.kind=3))=true then ((some (if (decide (p0.op=15))=true then true else (decide (p0.op=16))))>>=fun y6=>some ((fV.mk true false false false 1 1 0),y6)) else (if (decide (p0.kind=4))=true then ((some (if (decide (1≤p0.op))=true then (decide (p0.op≤14)) else false))>>=fun y7=>some ((fV.mk true false false false 2 2 0),y7)) else (if (decide (p0.kind=5))=true then (some ((fV.mk false true false false 1 1 0),true)) else (if (decide (p0.kind=6))=true then (some ((fV.mk false true false false 3 3 0),true)) else (if (decide (p0.kind=7))=true then (some ((fV.mk false true false false 2 9 0),true)) else (if (decide (p0.kind=8))=true then (some ((fV.mk false true false false 1 1 1),true)) else (if (decide (p0.kind=9))=true then (some ((fV.mk false false false false 0 0 1),true)) else (some ((fV.mk false false false false 0 0 0),false))))))))))
def D7 (p0:aA):Option Bool :=
  (xK (cO.mk p0.kind p0.op false p0.value [] [120] ([]:List cO) ([]:List eY)))>>=fun y1=>(if (true&&(y1.2==true))=true then some (if y1.1.op=true then true else (decide (p0.op=0))) else some default)>>=fun y2=>(some (if y1.2=true then y2 else false))>>=fun y3=>(if (true&&(y3==true))=true then some (if y1.1.not_=true then true else (!p0.not_)) else some default)>>=fun y4=>(some (if y3=true then y4 else false))>>=fun y5=>(if (true&&(y5==true))=true then some (if y1.1.value=true then true else ((decide (p0.value.kind=0))&&((decide (p0.value.num=0))&&((decide (p0.value.text=[]))&&true)))) else some default)>>=fun y6=>(some (if y5=true then y6 else false))>>=fun y7=>(if ((true&&(y7==true))&&(y1.1.name==false))=true then some (if (decide (p0.up=0))=true then (decide (p0.at_=0)) else false) else some default)>>=fun y8=>(if (true&&(y7==true))=true then some (if y1.1.name=true then true else y8) else some default)>>=fun y9=>(some (if y7=true then y9 else false))>>=fun y10=>(some (if y10=true then (decide (y1.1.least≤(p0.kids.length:Int))) else false))>>=fun y11=>(some (if y11=true then (decide ((p0.kids.length:Int)≤y1.1.most)) else false))>>=fun y12=>(some (if y12=true then (decide ((p0.sub.length:Int)=y1.1.subs)) else false))>>=fun y13=>some y13
def O6 (p0:(List aA)):Option Bool :=
  some (decide (1<(p0.length:Int)))
def uR (p0:(List (List aA))) (x8:Int):Option Int :=
  if (decide (x8<(p0.length:Int)))=true then ((idx p0 x8)>>=fun y1=>(O6 y1)>>=fun y2=>if y2=true then (some x8) else (uR p0 (IntKind.wrap .i64 (x8+1)))) else (some (-1))
  partial_fixpoint
def aC1 (p0:(List (List aA))):Option Int :=
  uR p0 0
def M6 (p0:(List (List aA))):Option Bool :=
  (aC1 p0)>>=fun y1=>some (decide (0≤y1))
def aAi (p0:(List UInt8)):Option Bool :=
  (kL p0)>>=fun y1=>some (!y1)
def uV (p0:(List (List UInt8))) (x8:Int):Option Int :=
  if (decide (x8<(p0.length:Int)))=true then ((idx p0 x8)>>=fun y1=>(aAi y1)>>=fun y2=>if y2=true then (some x8) else (uV p0 (IntKind.wrap .i64 (x8+1)))) else (some (-1))
  partial_fixpoint
def aFi (p0:(List (List UInt8))):Option Int :=
  uV p0 0
def U7 (p0:(List (List UInt8))):Option Bool :=
  (aFi p0)>>=fun y1=>some (decide (0≤y1))
def U6 (p0:aB):Option Bool :=
  (some (if (decide ((p0.tables.length:Int)<1))=true then true else (decide (3<(p0.tables.length:Int)))))>>=fun y1=>(some (if y1=true then true else (!decide ((p0.on_.length:Int)=(p0.tables.length:Int)))))>>=fun y2=>(if (true&&(y2==false))=true then idx p0.on_ 0 else some default)>>=fun y3=>(some (if y2=true then true else (decide (0<(y3.length:Int)))))>>=fun y4=>(some (if y4=true then true else (decide (1<(p0.where_.length:Int)))))>>=fun y5=>(some (if y5=true then true else (decide (12<(p0.order.length:Int)))))>>=fun y6=>if y6=true then (some false) else ((some (if (decide (1≤(p0.items.length:Int)))=true then (decide ((p0.items.length:Int)≤12)) else false))>>=fun y7=>(some (if y7=true then (decide ((p0.names.length:Int)=(p0.items.length:Int))) else false))>>=fun y8=>(some (if y8=true then (decide ((-1)≤p0.limit)) else false))>>=fun y9=>(if (true&&(y9==true))=true then M6 p0.on_ else some default)>>=fun y10=>(some (if y9=true then (!y10) else false))>>=fun y11=>(if (true&&(y11==true))=true then U7 p0.names else some default)>>=fun y12=>(some (if y11=true then (!y12) else false))>>=fun y13=>some y13)
def vR (p0:Int):Option Bool :=
  (some (if (decide (p0=0))=true then true else (decide (p0=3))))>>=fun y1=>some y1
def yO (p0:(List Int)) (p1:(List (List Int))):Option (List (List Int)) :=
  (appG 24 ([p0]:List (List Int)) p1)>>=fun y1=>some y1
def sH (p0:bD) (x3:(List Int)) (x10:Int):Option (List Int) :=
  if (decide (x10<(p0.cols.length:Int)))=true then ((idx p0.cols x10)>>=fun y1=>(appG 8 x3 ([y1.type]:List Int))>>=fun y2=>sH p0 y2 (IntKind.wrap .i64 (x10+1))) else (some x3)
  partial_fixpoint
def zK (p0:bD):Option (List Int) :=
  sH p0 ([]:List Int) 0
def uQ (p1:(List Int)) (p0:aJ) (x6:(List Int)) (x12:Int):Option ((List Int)×Bool) :=
  if (decide (x12<(p1.length:Int)))=true then ((idx p1 x12)>>=fun y1=>(some (if (decide (y1<0))=true then true else (decide ((p0.tables.length:Int)≤y1))))>>=fun y2=>if y2=true then (some (([]:List Int),false)) else ((idx p0.tables y1)>>=fun y3=>(zK y3)>>=fun y4=>(appG 8 x6 y4)>>=fun y5=>uQ p1 p0 y5 (IntKind.wrap .i64 (x12+1)))) else (some (x6,true))
  partial_fixpoint
def zH (p0:aJ) (p1:(List Int)):Option ((List Int)×Bool) :=
  uQ p1 p0 ([]:List Int) 0
def yC (p0:Int) (p1:Int) (p2:Int):Option Bool :=
  (some (if (decide (p1=p0))=true then true else (decide (p1=0))))>>=fun y1=>(if (true&&(y1==true))=true then some (if (decide (p2=p0))=true then true else (decide (p2=0))) else some default)>>=fun y2=>(some (if y1=true then y2 else false))>>=fun y3=>some y3
def uF (x8:Int) (x9:Bool):Option (Int×Bool) :=
  if (!x9)=true then (some (0,false)) else (some (x8,true))
def O8 (p0:Int) (p1:Int) (p2:Int):Option (Int×Bool) :=
  (some (if (decide (p0<1))=true then true else (decide (14<p0))))>>=fun y1=>if y1=true then (uF 0 false) else (if (decide (p0≤2))=true then ((vR p1)>>=fun y2=>(if (true&&(y2==true))=true then vR p2 else some default)>>=fun y3=>(some (if y2=true then y3 else false))>>=fun y4=>uF 3 y4) else (if (decide (p0≤8))=true then ((xP p1 p2)>>=fun y5=>uF 3 y5.2) else (if (decide (p0=9))=true then ((yC 2 p1 p2)>>=fun y6=>uF 2 y6) else ((yC 1 p1 p2)>>=fun y7=>uF 1 y7))))
def W9 (p0:(List Int)):Option (List Int) :=
  if (decide ((p0.length:Int)=0))=true then (some ([]:List Int)) else ((appG 8 ([]:List Int) p0)>>=fun y1=>some y1)
def rH (p0:(List Int)) (x4:Int) (x11:Int):Option (Int×Bool) :=
  if (decide (x11<(p0.length:Int)))=true then ((idx p0 x11)>>=fun y1=>(xP x4 y1)>>=fun y2=>if (!y2.2)=true then (some (0,false)) else (rH p0 y2.1 (IntKind.wrap .i64 (x11+1)))) else (some (x4,true))
  partial_fixpoint
def aA4 (p0:(List Int)):Option (Int×Bool) :=
  rH p0 0 0
def rP (p1:(List Int)) (p2:(List Int)) (x40:Bool):Option (Int×Bool) :=
  if x40=true then (some (3,true)) else ((W9 p1)>>=fun y6=>(appG 8 y6 p2)>>=fun y7=>(aA4 y7)>>=fun y8=>if (!y8.2)=true then (some (0,false)) else (some (3,true)))
def Y9 (p0:Int) (p1:Int):Option (Int×Bool) :=
  (if (true&&((decide (p0=15))==true))=true then vR p1 else some default)>>=fun y1=>(some (if (decide (p0=15))=true then y1 else false))>>=fun y2=>if y2=true then (some (3,true)) else ((if (true&&((decide (p0=16))==true))=true then yC 1 p1 p1 else some default)>>=fun y3=>(some (if (decide (p0=16))=true then y3 else false))>>=fun y4=>if y4=true then (some (1,true)) else (some (0,false)))
def mR (p0:aA) (p1:(List Int)) (p2:(List Int)):Option (Int×Bool) :=
  if (decide (p0.kind=1))=true then (some (p0.value.kind,true)) else (if (decide (p0.kind=3))=true then ((idx p1 0)>>=fun y1=>(Y9 p0.op y1)>>=fun y2=>some (y2.1,y2.2)) else (if (decide (p0.kind=4))=true then ((idx p1 0)>>=fun y3=>(idx p1 1)>>=fun y4=>(O8 p0.op y3 y4)>>=fun y5=>some (y5.1,y5.2)) else (if (decide (p0.kind=5))=true then (rP p1 p2 (decide (p0.kind=5))) else (rP p1 p2 (decide (p0.kind=9))))))
mutual
def oV (y9:(List (List Int))) (p2:aB) (p0:aJ) (x19:(List Int)) (x95:Int):Option ((List Int)×Bool) :=
  if (decide (x95<(p2.items.length:Int)))=true then ((idx p2.items x95)>>=fun y13=>(qO p0 y9 y13)>>=fun y14=>if (!y14.2)=true then (some (([]:List Int),false)) else ((appG 8 x19 ([y14.1]:List Int))>>=fun y15=>oV y9 p2 p0 y15 (IntKind.wrap .i64 (x95+1)))) else (some (x19,true))
  partial_fixpoint
def rD (y9:(List (List Int))) (p2:aB) (p0:aJ) (x76:Int):Option ((List Int)×Bool) :=
  if (decide (x76<(p2.order.length:Int)))=true then ((idx p2.order x76)>>=fun y11=>(qO p0 y9 y11.expr)>>=fun y12=>if (!y12.2)=true then (some (([]:List Int),false)) else (rD y9 p2 p0 (IntKind.wrap .i64 (x76+1)))) else (oV y9 p2 p0 ([]:List Int) 0)
  partial_fixpoint
def aB8 (p0:aA) (p1:aJ) (c1_0:(List (List Int))):Option Bool :=
  (qO p1 c1_0 p0)>>=fun y1=>(if (true&&((!y1.2)==false))=true then vR y1.1 else some default)>>=fun y2=>(some (if (!y1.2)=true then true else (!y2)))>>=fun y3=>some y3
  partial_fixpoint
def xH (p0:(List aA)) (c0:aJ) (c1_0:(List (List Int))) (x8:Int):Option Int :=
  if (decide (x8<(p0.length:Int)))=true then ((idx p0 x8)>>=fun y1=>(aB8 y1 c0 c1_0)>>=fun y2=>if y2=true then (some x8) else (xH p0 c0 c1_0 (IntKind.wrap .i64 (x8+1)))) else (some (-1))
  partial_fixpoint
def aF9 (p0:(List aA)) (c0:aJ) (c1_0:(List (List Int))):Option Int :=
  xH p0 c0 c1_0 0
  partial_fixpoint
def aDn (p0:(List aA)) (c0:aJ) (c1_0:(List (List Int))):Option Bool :=
  (aF9 p0 c0 c1_0)>>=fun y1=>some (decide (0≤y1))
  partial_fixpoint
def wN (p0:aJ) (p1:(List (List Int))) (p2:(List aA)):Option Bool :=
  (aDn p2 p0 p1)>>=fun y1=>some (!y1)
  partial_fixpoint
def wL (p1:(List (List Int))) (y1:(List Int)×Bool) (p2:aB) (p0:aJ) (x41:Int):Option ((List Int)×Bool) :=
  if (decide (x41<(p2.on_.length:Int)))=true then ((idx p2.on_ x41)>>=fun y4=>(kY p2.tables 0 (IntKind.wrap .i64 (x41+1)))>>=fun y5=>(zH p0 y5)>>=fun y6=>(yO y6.1 p1)>>=fun y7=>(wN p0 y7 y4)>>=fun y8=>if (!y8)=true then (some (([]:List Int),false)) else (wL p1 y1 p2 p0 (IntKind.wrap .i64 (x41+1)))) else ((yO y1.1 p1)>>=fun y9=>(wN p0 y9 p2.where_)>>=fun y10=>if (!y10)=true then (some (([]:List Int),false)) else (rD y9 p2 p0 0))
  partial_fixpoint
def F7 (p0:aJ) (p1:(List (List Int))) (p2:aB):Option ((List Int)×Bool) :=
  (zH p0 p2.tables)>>=fun y1=>(if (true&&((!y1.2)==false))=true then U6 p2 else some default)>>=fun y2=>(some (if (!y1.2)=true then true else (!y2)))>>=fun y3=>if y3=true then (some (([]:List Int),false)) else (wL p1 y1 p2 p0 0)
  partial_fixpoint
def qZ (p1:(List (List Int))) (x8:(List Int)) (p2:aA) (p0:aJ) (x9:(List Int)) (x85:Int):Option (Int×Bool) :=
  if (decide (x85<(p2.sub.length:Int)))=true then ((idx p2.sub x85)>>=fun y11=>(F7 p0 p1 y11)>>=fun y12=>(if (true&&((!y12.2)==false))=true then some (if (decide (p2.kind=8))=true then (!decide ((y12.1.length:Int)=1)) else false) else some default)>>=fun y13=>(some (if (!y12.2)=true then true else y13))>>=fun y14=>if y14=true then (some (0,false)) else (qZ p1 x8 p2 p0 y12.1 (IntKind.wrap .i64 (x85+1)))) else ((mR p2 x8 x9)>>=fun y15=>some (y15.1,y15.2))
  partial_fixpoint
def lF (p1:(List (List Int))) (p2:aA) (p0:aJ) (x8:(List Int)) (x64:Int):Option (Int×Bool) :=
  if (decide (x64<(p2.kids.length:Int)))=true then ((idx p2.kids x64)>>=fun y8=>(qO p0 p1 y8)>>=fun y9=>if (!y9.2)=true then (some (0,false)) else ((appG 8 x8 ([y9.1]:List Int))>>=fun y10=>lF p1 p2 p0 y10 (IntKind.wrap .i64 (x64+1)))) else (qZ p1 x8 p2 p0 ([]:List Int) 0)
  partial_fixpoint
def qO (p0:aJ) (p1:(List (List Int))) (p2:aA):Option (Int×Bool) :=
  (D7 p2)>>=fun y1=>if (!y1)=true then (some (0,false)) else (if (decide (p2.kind=2))=true then ((some (if (decide (p2.up<0))=true then true else (decide ((p1.length:Int)≤p2.up))))>>=fun y2=>(some (if y2=true then true else (decide (p2.at_<0))))>>=fun y3=>(if (true&&(y3==false))=true then idx p1 p2.up else some default)>>=fun y4=>(some (if y3=true then true else (decide ((y4.length:Int)≤p2.at_))))>>=fun y5=>if y5=true then (some (0,false)) else ((idx p1 p2.up)>>=fun y6=>(idx y6 p2.at_)>>=fun y7=>some (y7,true))) else (lF p1 p2 p0 ([]:List Int) 0))
  partial_fixpoint
end
def J4 (p0:aJ) (p1:(List (List Int))) (p2:aA) (p3:Int):Option Bool :=
  (qO p0 p1 p2)>>=fun y1=>if (!y1.2)=true then (some false) else ((xP y1.1 p3)>>=fun y2=>some y2.2)
mutual
def uU (p1:(List Int)) (p2:(List (List aA))) (x13:Int) (y1:(List aA)) (p0:aJ) (x24:Int):Option Bool :=
  if (decide (x24<(y1.length:Int)))=true then ((idx y1 x24)>>=fun y3=>(idx p1 x24)>>=fun y4=>(J4 p0 ([]:List (List Int)) y3 y4)>>=fun y5=>if (!y5)=true then (some false) else (uU p1 p2 x13 y1 p0 (IntKind.wrap .i64 (x24+1)))) else (tZ p1 p2 p0 (IntKind.wrap .i64 (x13+1)))
  partial_fixpoint
def tZ (p1:(List Int)) (p2:(List (List aA))) (p0:aJ) (x13:Int):Option Bool :=
  if (decide (x13<(p2.length:Int)))=true then ((idx p2 x13)>>=fun y1=>if (!decide ((y1.length:Int)=(p1.length:Int)))=true then (some false) else (uU p1 p2 x13 y1 p0 0)) else ((some (if (decide (1≤(p2.length:Int)))=true then (decide ((p2.length:Int)≤5)) else false))>>=fun y2=>some y2)
  partial_fixpoint
end
def aBb (p0:aJ) (p1:(List Int)) (p2:(List (List aA))):Option Bool :=
  tZ p1 p2 p0 0
def uB (p0:(List Int)) (p1:Int) (x8:Int):Option Int :=
  if (decide (x8<(p0.length:Int)))=true then ((idx p0 x8)>>=fun y1=>if (decide (p1=y1))=true then (some x8) else (uB p0 p1 (IntKind.wrap .i64 (x8+1)))) else (some (-1))
  partial_fixpoint
def aD5 (p0:(List Int)) (p1:Int):Option Int :=
  uB p0 p1 0
def aAx (p0:(List Int)) (p1:Int):Option Bool :=
  (aD5 p0 p1)>>=fun y1=>some (decide (0≤y1))
def pV (p1:(List Int)) (p2:bM) (p0:aJ) (x31:Int):Option Bool :=
  if (decide (x31<(p2.cols.length:Int)))=true then ((idx p2.cols x31)>>=fun y3=>(some (if (decide (y3<0))=true then true else (decide ((p1.length:Int)≤y3))))>>=fun y4=>(if (true&&(y4==false))=true then kY p2.cols 0 x31 else some default)>>=fun y5=>(if (true&&(y4==false))=true then aAx y5 y3 else some default)>>=fun y6=>(some (if y4=true then true else y6))>>=fun y7=>(if (true&&(y7==false))=true then idx p2.sets x31 else some default)>>=fun y8=>(if (true&&(y7==false))=true then idx p1 y3 else some default)>>=fun y9=>(if (true&&(y7==false))=true then J4 p0 ([p1]:List (List Int)) y8 y9 else some default)>>=fun y10=>(some (if y7=true then true else (!y10)))>>=fun y11=>if y11=true then (some false) else (pV p1 p2 p0 (IntKind.wrap .i64 (x31+1)))) else (some true)
  partial_fixpoint
def aE1 (p0:aJ) (p1:(List Int)) (p2:bM):Option Bool :=
  (some (if (decide ((p2.cols.length:Int)<1))=true then true else (decide (12<(p2.cols.length:Int)))))>>=fun y1=>(some (if y1=true then true else (!decide ((p2.sets.length:Int)=(p2.cols.length:Int)))))>>=fun y2=>if y2=true then (some false) else (pV p1 p2 p0 0)
def aGm (p0:bL) (c0_0:(List UInt8)):Option Bool :=
  some (decide (p0.name=c0_0))
def rQ (p0:(List bL)) (c0_0:(List UInt8)) (x8:Int):Option Int :=
  if (decide (x8<(p0.length:Int)))=true then ((idx p0 x8)>>=fun y1=>(aGm y1 c0_0)>>=fun y2=>if y2=true then (some x8) else (rQ p0 c0_0 (IntKind.wrap .i64 (x8+1)))) else (some (-1))
  partial_fixpoint
def aGb (p0:(List bL)) (c0_0:(List UInt8)):Option Int :=
  rQ p0 c0_0 0
def O9 (p0:bD) (p1:(List UInt8)):Option Int :=
  (aGb p0.cols p1)>>=fun y1=>some y1
def tV (p0:bD) (x8:Int):Option Bool :=
  if (decide (x8<(p0.cols.length:Int)))=true then ((idx p0.cols x8)>>=fun y1=>(kL y1.name)>>=fun y2=>(some (if (!y2)=true then true else (decide (y1.type<1))))>>=fun y3=>(some (if y3=true then true else (decide (3<y1.type))))>>=fun y4=>(if (true&&(y4==false))=true then O9 p0 y1.name else some default)>>=fun y5=>(some (if y4=true then true else (!decide (y5=x8))))>>=fun y6=>if y6=true then (some false) else (tV p0 (IntKind.wrap .i64 (x8+1)))) else ((kL p0.name)>>=fun y7=>(some (if y7=true then (decide (1≤(p0.cols.length:Int))) else false))>>=fun y8=>(some (if y8=true then (decide ((p0.cols.length:Int)≤4)) else false))>>=fun y9=>some y9)
  partial_fixpoint
def aB2 (p0:bD):Option Bool :=
  tV p0 0
def aC0 (p0:bD) (c0_0:(List UInt8)):Option Bool :=
  some (decide (p0.name=c0_0))
def vM (p0:(List bD)) (c0_0:(List UInt8)) (x8:Int):Option Int :=
  if (decide (x8<(p0.length:Int)))=true then ((idx p0 x8)>>=fun y1=>(aC0 y1 c0_0)>>=fun y2=>if y2=true then (some x8) else (vM p0 c0_0 (IntKind.wrap .i64 (x8+1)))) else (some (-1))
  partial_fixpoint
def aFv (p0:(List bD)) (c0_0:(List UInt8)):Option Int :=
  vM p0 c0_0 0
def M8 (p0:aJ) (p1:(List UInt8)):Option Int :=
  (aFv p0.tables p1)>>=fun y1=>some y1
def sS (p0:aJ) (x8:Int):Option Bool :=
  if (decide (x8<(p0.tables.length:Int)))=true then ((idx p0.tables x8)>>=fun y1=>(aB2 y1)>>=fun y2=>(if (true&&((!y2)==false))=true then M8 p0 y1.name else some default)>>=fun y3=>(some (if (!y2)=true then true else (!decide (y3=x8))))>>=fun y4=>if y4=true then (some false) else (sS p0 (IntKind.wrap .i64 (x8+1)))) else (some (decide ((p0.tables.length:Int)≤4)))
  partial_fixpoint
def D5 (p0:aJ):Option Bool :=
  sS p0 0
def qH (p0:aB) (dD:(List aA)) (x27:Int):Option (List aA) :=
  if (decide (x27<(p0.order.length:Int)))=true then ((idx p0.order x27)>>=fun y5=>(appG 120 dD ([y5.expr]:List aA))>>=fun y6=>qH p0 y6 (IntKind.wrap .i64 (x27+1))) else ((appG 120 dD p0.items)>>=fun y7=>some y7)
  partial_fixpoint
def xU (p0:aB) (x3:(List aA)) (x12:Int):Option (List aA) :=
  if (decide (x12<(p0.on_.length:Int)))=true then ((idx p0.on_ x12)>>=fun y1=>(appG 120 x3 y1)>>=fun y2=>xU p0 y2 (IntKind.wrap .i64 (x12+1))) else ((appG 120 x3 p0.where_)>>=fun y3=>qH p0 y3 0)
  partial_fixpoint
def F3 (p0:aB):Option (List aA) :=
  xU p0 ([]:List aA) 0
mutual
def nH (p0:aB):Option Int :=
  (F3 p0)>>=fun y1=>(qA y1)>>=fun y2=>some y2
  partial_fixpoint
def C9 (p0:aA) (x3:Int) (x12:Int):Option Int :=
  if (decide (x12<(p0.sub.length:Int)))=true then ((idx p0.sub x12)>>=fun y2=>(nH y2)>>=fun y3=>C9 p0 (if y3 > x3 then y3 else x3) (IntKind.wrap .i64 (x12+1))) else (some (IntKind.wrap .i64 (1+x3)))
  partial_fixpoint
def vD (p0:aA):Option Int :=
  (qA p0.kids)>>=fun y1=>C9 p0 y1 0
  partial_fixpoint
def wI (p0:(List aA)) (x3:Int) (x8:Int):Option Int :=
  if (decide (x8<(p0.length:Int)))=true then ((idx p0 x8)>>=fun y1=>(vD y1)>>=fun y2=>wI p0 (if y2 > x3 then y2 else x3) (IntKind.wrap .i64 (x8+1))) else (some x3)
  partial_fixpoint
def qA (p0:(List aA)):Option Int :=
  wI p0 0 0
  partial_fixpoint
end
def K4 (p0:Int) (p1:Int):Option Bool :=
  (some (if (decide (p0≤24))=true then (decide (p1≤200)) else false))>>=fun y1=>some y1
def M4 (p0:(List Int)) (p1:(List Int)) (x13:Int):Option Bool :=
  if (decide (x13<(p0.length:Int)))=true then ((idx p0 x13)>>=fun y1=>(idx p1 x13)>>=fun y2=>if (!decide (y1=y2))=true then (some false) else (M4 p0 p1 (IntKind.wrap .i64 (x13+1)))) else (some true)
  partial_fixpoint
def P6 (p0:(List Int)) (p1:(List Int)):Option Bool :=
  if (!decide ((p0.length:Int)=(p1.length:Int)))=true then (some false) else (M4 p0 p1 0)
def F8 (p0:(List (List UInt8))) (p1:(List (List UInt8))) (x13:Int):Option Bool :=
  if (decide (x13<(p0.length:Int)))=true then ((idx p0 x13)>>=fun y1=>(idx p1 x13)>>=fun y2=>if (!decide (y1=y2))=true then (some false) else (F8 p0 p1 (IntKind.wrap .i64 (x13+1)))) else (some true)
  partial_fixpoint
def Z5 (p0:(List (List UInt8))) (p1:(List (List UInt8))):Option Bool :=
  if (!decide ((p0.length:Int)=(p1.length:Int)))=true then (some false) else (F8 p0 p1 0)
mutual
def aC7 (p0:aY) (p1:aY):Option Bool :=
  (if (true&&((p0.desc==p1.desc)==true))=true then aFs p0.expr p1.expr else some default)>>=fun y1=>(some (if (p0.desc==p1.desc)=true then y1 else false))>>=fun y2=>some y2
  partial_fixpoint
def Q9 (p1:(List aY)) (p0:(List aY)) (x17:Int):Option Bool :=
  if (decide (x17<(p0.length:Int)))=true then ((idx p0 x17)>>=fun y1=>(idx p1 x17)>>=fun y2=>(aC7 y1 y2)>>=fun y3=>if (!y3)=true then (some false) else (Q9 p1 p0 (IntKind.wrap .i64 (x17+1)))) else (some true)
  partial_fixpoint
def Q4 (p0:(List aY)) (p1:(List aY)):Option Bool :=
  if (!decide ((p0.length:Int)=(p1.length:Int)))=true then (some false) else (Q9 p1 p0 0)
  partial_fixpoint
def aDa (p1:(List aB)) (p0:(List aB)) (x17:Int):Option Bool :=
  if (decide (x17<(p0.length:Int)))=true then ((idx p0 x17)>>=fun y1=>(idx p1 x17)>>=fun y2=>(aA1 y1 y2)>>=fun y3=>if (!y3)=true then (some false) else (aDa p1 p0 (IntKind.wrap .i64 (x17+1)))) else (some true)
  partial_fixpoint
def aM1 (p0:(List aB)) (p1:(List aB)):Option Bool :=
  if (!decide ((p0.length:Int)=(p1.length:Int)))=true then (some false) else (aDa p1 p0 0)
  partial_fixpoint
def aFs (p0:aA) (p1:aA):Option Bool :=
  (some (if (decide (p0.kind=p1.kind))=true then (decide (p0.op=p1.op)) else false))>>=fun y1=>(some (if y1=true then (p0.not_==p1.not_) else false))>>=fun y2=>(some (if y2=true then ((decide (p0.value.kind=p1.value.kind))&&((decide (p0.value.num=p1.value.num))&&((decide (p0.value.text=p1.value.text))&&true))) else false))>>=fun y3=>(some (if y3=true then (decide (p0.up=p1.up)) else false))>>=fun y4=>(some (if y4=true then (decide (p0.at_=p1.at_)) else false))>>=fun y5=>(if (true&&(y5==true))=true then uW p0.kids p1.kids else some default)>>=fun y6=>(some (if y5=true then y6 else false))>>=fun y7=>(if (true&&(y7==true))=true then aM1 p0.sub p1.sub else some default)>>=fun y8=>(some (if y7=true then y8 else false))>>=fun y9=>some y9
  partial_fixpoint
def Y7 (p1:(List aA)) (p0:(List aA)) (x17:Int):Option Bool :=
  if (decide (x17<(p0.length:Int)))=true then ((idx p0 x17)>>=fun y1=>(idx p1 x17)>>=fun y2=>(aFs y1 y2)>>=fun y3=>if (!y3)=true then (some false) else (Y7 p1 p0 (IntKind.wrap .i64 (x17+1)))) else (some true)
  partial_fixpoint
def aCa (p0:(List aA)) (p1:(List aA)):Option Bool :=
  if (!decide ((p0.length:Int)=(p1.length:Int)))=true then (some false) else (Y7 p1 p0 0)
  partial_fixpoint
def uW (p0:(List aA)) (p1:(List aA)):Option Bool :=
  (aCa p0 p1)>>=fun y1=>some y1
  partial_fixpoint
def Y3 (p1:(List (List aA))) (p0:(List (List aA))) (x17:Int):Option Bool :=
  if (decide (x17<(p0.length:Int)))=true then ((idx p0 x17)>>=fun y1=>(idx p1 x17)>>=fun y2=>(uW y1 y2)>>=fun y3=>if (!y3)=true then (some false) else (Y3 p1 p0 (IntKind.wrap .i64 (x17+1)))) else (some true)
  partial_fixpoint
def aAa (p0:(List (List aA))) (p1:(List (List aA))):Option Bool :=
  if (!decide ((p0.length:Int)=(p1.length:Int)))=true then (some false) else (Y3 p1 p0 0)
  partial_fixpoint
def aA1 (p0:aB) (p1:aB):Option Bool :=
  (P6 p0.tables p1.tables)>>=fun y1=>(if (true&&(y1==true))=true then aAa p0.on_ p1.on_ else some default)>>=fun y2=>(some (if y1=true then y2 else false))>>=fun y3=>(if (true&&(y3==true))=true then uW p0.where_ p1.where_ else some default)>>=fun y4=>(some (if y3=true then y4 else false))>>=fun y5=>(if (true&&(y5==true))=true then Q4 p0.order p1.order else some default)>>=fun y6=>(some (if y5=true then y6 else false))>>=fun y7=>(if (true&&(y7==true))=true then uW p0.items p1.items else some default)>>=fun y8=>(some (if y7=true then y8 else false))>>=fun y9=>(if (true&&(y9==true))=true then Z5 p0.names p1.names else some default)>>=fun y10=>(some (if y9=true then y10 else false))>>=fun y11=>(some (if y11=true then (p0.distinct==p1.distinct) else false))>>=fun y12=>(some (if y12=true then (decide (p0.limit=p1.limit)) else false))>>=fun y13=>some y13
  partial_fixpoint
end
def O4 (p0:aB):Option Bool :=
  (aA1 p0 (aB.mk ([]:List Int) ([]:List (List aA)) ([]:List aA) ([]:List aY) ([]:List aA) ([]:List (List UInt8)) false 0))>>=fun y1=>some y1
def xA (p0:bM) (x3:(List aA)) (x10:Int):Option (List aA) :=
  if (decide (x10<(p0.rows.length:Int)))=true then ((idx p0.rows x10)>>=fun y1=>(appG 120 x3 y1)>>=fun y2=>xA p0 y2 (IntKind.wrap .i64 (x10+1))) else ((appG 120 x3 p0.sets)>>=fun y3=>(appG 120 y3 p0.where_)>>=fun y4=>some y4)
  partial_fixpoint
def yD (p0:bM):Option (List aA) :=
  xA p0 ([]:List aA) 0
mutual
def nK (p0:aB):Option Int :=
  (F3 p0)>>=fun y1=>(tL y1)>>=fun y2=>some y2
  partial_fixpoint
def zP (p0:aA) (x3:Int) (x13:Int):Option Int :=
  if (decide (x13<(p0.sub.length:Int)))=true then ((idx p0.sub x13)>>=fun y2=>(nK y2)>>=fun y3=>zP p0 (IntKind.wrap .i64 (x3+y3)) (IntKind.wrap .i64 (x13+1))) else (some x3)
  partial_fixpoint
def qC (p0:aA):Option Int :=
  (tL p0.kids)>>=fun y1=>zP p0 (IntKind.wrap .i64 (1+y1)) 0
  partial_fixpoint
def zI (p0:(List aA)) (x3:Int) (x8:Int):Option Int :=
  if (decide (x8<(p0.length:Int)))=true then ((idx p0 x8)>>=fun y1=>(qC y1)>>=fun y2=>zI p0 (IntKind.wrap .i64 (x3+y2)) (IntKind.wrap .i64 (x8+1))) else (some x3)
  partial_fixpoint
def tL (p0:(List aA)):Option Int :=
  zI p0 0 0
  partial_fixpoint
end
def aAe (p0:aJ) (p1:aB):Option Bool :=
  (D5 p0)>>=fun y1=>(if (true&&((!y1)==false))=true then nH p1 else some default)>>=fun y2=>(if (true&&((!y1)==false))=true then nK p1 else some default)>>=fun y3=>(if (true&&((!y1)==false))=true then K4 y2 y3 else some default)>>=fun y4=>(some (if (!y1)=true then true else (!y4)))>>=fun y5=>if y5=true then (some false) else ((F7 p0 ([]:List (List Int)) p1)>>=fun y6=>some y6.2)
def Y0 (p0:aJ) (p1:bM):Option Bool :=
  if (decide (p1.kind=1))=true then ((some (if (decide (p1.table=0))=true then (decide ((p1.rows.length:Int)=0)) else false))>>=fun y1=>(some (if y1=true then (decide ((p1.cols.length:Int)=0)) else false))>>=fun y2=>(some (if y2=true then (decide ((p1.sets.length:Int)=0)) else false))>>=fun y3=>(some (if y3=true then (decide ((p1.where_.length:Int)=0)) else false))>>=fun y4=>(if (true&&(y4==true))=true then aAe p0 p1.plan else some default)>>=fun y5=>(some (if y4=true then y5 else false))>>=fun y6=>some y6) else ((D5 p0)>>=fun y7=>(some (if (!y7)=true then true else (decide (p1.table<0))))>>=fun y8=>(some (if y8=true then true else (decide ((p0.tables.length:Int)≤p1.table))))>>=fun y9=>(if (true&&(y9==false))=true then O4 p1.plan else some default)>>=fun y10=>(some (if y9=true then true else (!y10)))>>=fun y11=>(if (true&&(y11==false))=true then yD p1 else some default)>>=fun y12=>(if (true&&(y11==false))=true then qA y12 else some default)>>=fun y13=>(if (true&&(y11==false))=true then yD p1 else some default)>>=fun y14=>(if (true&&(y11==false))=true then tL y14 else some default)>>=fun y15=>(if (true&&(y11==false))=true then K4 y13 y15 else some default)>>=fun y16=>(some (if y11=true then true else (!y16)))>>=fun y17=>if y17=true then (some false) else ((idx p0.tables p1.table)>>=fun y18=>(zK y18)>>=fun y19=>if (decide (p1.kind=2))=true then ((some (if (decide ((p1.cols.length:Int)=0))=true then (decide ((p1.sets.length:Int)=0)) else false))>>=fun y20=>(some (if y20=true then (decide ((p1.where_.length:Int)=0)) else false))>>=fun y21=>(if (true&&(y21==true))=true then aBb p0 y19 p1.rows else some default)>>=fun y22=>(some (if y21=true then y22 else false))>>=fun y23=>some y23) else ((some (if (decide (0<(p1.rows.length:Int)))=true then true else (decide (1<(p1.where_.length:Int)))))>>=fun y24=>(if (true&&(y24==false))=true then wN p0 ([y19]:List (List Int)) p1.where_ else some default)>>=fun y25=>(some (if y24=true then true else (!y25)))>>=fun y26=>if y26=true then (some false) else (if (decide (p1.kind=3))=true then ((aE1 p0 y19 p1)>>=fun y27=>some y27) else (if (decide (p1.kind=4))=true then ((some (if (decide ((p1.cols.length:Int)=0))=true then (decide ((p1.sets.length:Int)=0)) else false))>>=fun y28=>some y28) else (some false))))))
def rZ (p1:(List UInt8)) (p0:bD) (x5:Int):Option Int :=
  if (decide (x5<(p0.cols.length:Int)))=true then ((idx p0.cols x5)>>=fun y1=>if (decide (y1.name=p1))=true then (some x5) else (rZ p1 p0 (IntKind.wrap .i64 (x5+1)))) else (some (-1))
  partial_fixpoint
def wE (p0:bD) (p1:(List UInt8)):Option Int :=
  rZ p1 p0 0
def dX (p0:Int) (p1:Int) (p2:Int):Option Bool :=
  (some (if (decide (p1≤p0))=true then (decide (p0≤p2)) else false))>>=fun y1=>some y1
def iY (p0:(List UInt8)):Option Bool :=
  (dX (p0.length:Int) 1 20)>>=fun y1=>some y1
def vC (p1:(List UInt8)) (p0:aJ) (x5:Int):Option Int :=
  if (decide (x5<(p0.tables.length:Int)))=true then ((idx p0.tables x5)>>=fun y1=>if (decide (y1.name=p1))=true then (some x5) else (vC p1 p0 (IntKind.wrap .i64 (x5+1)))) else (some (-1))
  partial_fixpoint
def mE (p0:aJ) (p1:(List UInt8)):Option Int :=
  vC p1 p0 0
mutual
def qV (x3:Int) (p0:aJ) (y1:bD) (x5:Int):Option Bool :=
  if (decide (x5<(y1.cols.length:Int)))=true then ((idx y1.cols x5)>>=fun y7=>(iY y7.name)>>=fun y8=>(if (true&&((!y8)==false))=true then idx y1.cols x5 else some default)>>=fun y9=>(if (true&&((!y8)==false))=true then wE y1 y9.name else some default)>>=fun y10=>(some (if (!y8)=true then true else (!decide (y10=x5))))>>=fun y11=>(if (true&&(y11==false))=true then idx y1.cols x5 else some default)>>=fun y12=>(if (true&&(y11==false))=true then dX y12.type 1 3 else some default)>>=fun y13=>(some (if y11=true then true else (!y13)))>>=fun y14=>if y14=true then (some false) else (qV x3 p0 y1 (IntKind.wrap .i64 (x5+1)))) else (sF p0 (IntKind.wrap .i64 (x3+1)))
  partial_fixpoint
def sF (p0:aJ) (x3:Int):Option Bool :=
  if (decide (x3<(p0.tables.length:Int)))=true then ((idx p0.tables x3)>>=fun y1=>(iY y1.name)>>=fun y2=>(if (true&&((!y2)==false))=true then mE p0 y1.name else some default)>>=fun y3=>(some (if (!y2)=true then true else (!decide (y3=x3))))>>=fun y4=>(if (true&&(y4==false))=true then dX (y1.cols.length:Int) 1 4 else some default)>>=fun y5=>(some (if y4=true then true else (!y5)))>>=fun y6=>if y6=true then (some false) else (qV x3 p0 y1 0)) else (some true)
  partial_fixpoint
end
def I7 (p0:aJ):Option Bool :=
  if (decide (4<(p0.tables.length:Int)))=true then (some false) else (sF p0 0)
def vG (p0:Int):Option Bool :=
  (some (if (decide (p0=0))=true then true else (decide (p0=3))))>>=fun y1=>some y1
def vE (p0:dC):Option Bool :=
  if (decide (p0.kind=0))=true then ((some (if (decide (p0.num=0))=true then (decide (p0.text=[])) else false))>>=fun y1=>some y1) else (if (decide (p0.kind=1))=true then (some (decide (p0.text=[]))) else (if (decide (p0.kind=2))=true then ((some (if (decide (p0.num=0))=true then (decide ((p0.text.length:Int)≤200)) else false))>>=fun y2=>some y2) else (if (decide (p0.kind=3))=true then ((dX p0.num 0 1)>>=fun y3=>(some (if y3=true then (decide (p0.text=[])) else false))>>=fun y4=>some y4) else (some false))))
def sI (p0:dC):Option Bool :=
  (vE p0)>>=fun y1=>(if (true&&(y1==true))=true then some (if (!decide (p0.kind=1))=true then true else (decide (0≤p0.num))) else some default)>>=fun y2=>(some (if y1=true then y2 else false))>>=fun y3=>(some (if y3=true then (decide ((p0.text.length:Int)≤40)) else false))>>=fun y4=>some y4
def qJ (p0:(List UInt8)):Option Bool :=
  (if (true&&((decide (p0=[]))==false))=true then iY p0 else some default)>>=fun y1=>(some (if (decide (p0=[]))=true then true else y1))>>=fun y2=>some y2
def wG (p0:cO):Option Bool :=
  (if (true&&((!decide (p0.kind=2))==true))=true then some (if (!decide (p0.qual=[]))=true then true else (!decide (p0.name=[]))) else some default)>>=fun y1=>(some (if (!decide (p0.kind=2))=true then y1 else false))>>=fun y2=>(if (true&&(y2==false))=true then some (if (!decide (p0.kind=1))=true then (!((decide (p0.value.kind=0))&&((decide (p0.value.num=0))&&((decide (p0.value.text=[]))&&true)))) else false) else some default)>>=fun y3=>(some (if y2=true then true else y3))>>=fun y4=>if y4=true then (some false) else ((some (if (!decide (p0.kind=3))=true then (!decide (p0.kind=4)) else false))>>=fun y5=>(some (if y5=true then (!decide (p0.op=0)) else false))>>=fun y6=>(if ((true&&(y6==false))&&(p0.not_==true))=true then dX p0.kind 5 8 else some default)>>=fun y7=>(if (true&&(y6==false))=true then some (if p0.not_=true then (!y7) else false) else some default)>>=fun y8=>(some (if y6=true then true else y8))>>=fun y9=>if y9=true then (some false) else (if (decide (p0.kind=1))=true then ((sI p0.value)>>=fun y10=>(some (if y10=true then (decide ((IntKind.wrap .i64 ((p0.kids.length:Int)+(p0.sub.length:Int)))=0)) else false))>>=fun y11=>some y11) else (if (decide (p0.kind=2))=true then ((iY p0.name)>>=fun y12=>(if (true&&(y12==true))=true then qJ p0.qual else some default)>>=fun y13=>(some (if y12=true then y13 else false))>>=fun y14=>(some (if y14=true then (decide ((IntKind.wrap .i64 ((p0.kids.length:Int)+(p0.sub.length:Int)))=0)) else false))>>=fun y15=>some y15) else (if (decide (p0.kind=3))=true then ((some (if (decide (p0.op=15))=true then true else (decide (p0.op=16))))>>=fun y16=>(some (if y16=true then (decide ((p0.kids.length:Int)=1)) else false))>>=fun y17=>(some (if y17=true then (decide ((p0.sub.length:Int)=0)) else false))>>=fun y18=>some y18) else (if (decide (p0.kind=4))=true then ((dX p0.op 1 14)>>=fun y19=>(some (if y19=true then (decide ((p0.kids.length:Int)=2)) else false))>>=fun y20=>(some (if y20=true then (decide ((p0.sub.length:Int)=0)) else false))>>=fun y21=>some y21) else (if (decide (p0.kind=5))=true then ((some (if (decide ((p0.kids.length:Int)=1))=true then (decide ((p0.sub.length:Int)=0)) else false))>>=fun y22=>some y22) else (if (decide (p0.kind=6))=true then ((some (if (decide ((p0.kids.length:Int)=3))=true then (decide ((p0.sub.length:Int)=0)) else false))>>=fun y23=>some y23) else (if (decide (p0.kind=7))=true then ((dX (p0.kids.length:Int) 2 9)>>=fun y24=>(some (if y24=true then (decide ((p0.sub.length:Int)=0)) else false))>>=fun y25=>some y25) else (if (decide (p0.kind=8))=true then ((some (if (decide ((p0.kids.length:Int)=1))=true then (decide ((p0.sub.length:Int)=1)) else false))>>=fun y26=>some y26) else (if (decide (p0.kind=9))=true then ((some (if (decide ((p0.kids.length:Int)=0))=true then (decide ((p0.sub.length:Int)=1)) else false))>>=fun y27=>some y27) else (some false)))))))))))
def V3 (p0:aA) (y3:(List cO)) (y4:(List eY)) (uA:(List UInt8)):Option Bool :=
  (wG (cO.mk p0.kind p0.op p0.not_ p0.value [] uA y3 y4))>>=fun y5=>some y5
def zQ (p0:aA):Option Bool :=
  (if (true&&((!decide (p0.kind=2))==true))=true then some (if (!decide (p0.up=0))=true then true else (!decide (p0.at_=0))) else some default)>>=fun y1=>(some (if (!decide (p0.kind=2))=true then y1 else false))>>=fun y2=>if y2=true then (some false) else ((mkG 136 (p0.kids.length:Int) ((cO.mk 0 0 false (dC.mk 0 0 []) [] [] ([]:List cO) ([]:List eY)):cO))>>=fun y3=>(mkG 112 (p0.sub.length:Int) ((eY.mk false ([]:List jN) ([]:List jL) ([]:List cO) ([]:List jA) 0):eY))>>=fun y4=>if (decide (p0.kind=2))=true then (V3 p0 y3 y4 [97]) else (V3 p0 y3 y4 []))
def kJ (p0:Int) (p1:Bool):Option (Int×Bool) :=
  if (!p1)=true then (some (0,false)) else (some (p0,true))
def xQ (p0:Int) (p1:Int):Option Bool :=
  (some (if (decide (p0=0))=true then true else (decide (p0=p1))))>>=fun y1=>some y1
def aA6 (p1:Int) (p2:Int) (x10:Int):Option (Int×Bool) :=
  (xQ p1 x10)>>=fun y12=>(if (true&&(y12==true))=true then xQ p2 x10 else some default)>>=fun y13=>(some (if y12=true then y13 else false))>>=fun y14=>(kJ x10 y14)>>=fun y15=>some (y15.1,y15.2)
def oG (p0:Int):Option Bool :=
  (dX p0 0 3)>>=fun y1=>some y1
def pK (p0:Int) (p1:Int):Option (Int×Bool) :=
  (oG p0)>>=fun y1=>(if (true&&((!y1)==false))=true then oG p1 else some default)>>=fun y2=>(some (if (!y1)=true then true else (!y2)))>>=fun y3=>if y3=true then (some (0,false)) else (if (decide (p0=0))=true then (some (p1,true)) else ((some (if (decide (p1=0))=true then true else (decide (p0=p1))))>>=fun y4=>if y4=true then (some (p0,true)) else (some (0,false))))
def O0 (p0:Int) (p1:Int) (p2:Int):Option (Int×Bool) :=
  (dX p0 1 14)>>=fun y1=>(if (true&&((!y1)==false))=true then oG p1 else some default)>>=fun y2=>(some (if (!y1)=true then true else (!y2)))>>=fun y3=>(if (true&&(y3==false))=true then oG p2 else some default)>>=fun y4=>(some (if y3=true then true else (!y4)))>>=fun y5=>if y5=true then (some (0,false)) else (if (decide (p0≤2))=true then ((vG p1)>>=fun y6=>(if (true&&(y6==true))=true then vG p2 else some default)>>=fun y7=>(some (if y6=true then y7 else false))>>=fun y8=>(kJ 3 y8)>>=fun y9=>some (y9.1,y9.2)) else (if (decide (p0≤8))=true then ((pK p1 p2)>>=fun y10=>(kJ 3 y10.2)>>=fun y11=>some (y11.1,y11.2)) else (if (decide (p0=9))=true then (aA6 p1 p2 2) else (aA6 p1 p2 1))))
def uX (p0:bD) (x3:(List Int)) (x4:Int):Option (List Int) :=
  if (decide (x4<(p0.cols.length:Int)))=true then ((idx p0.cols x4)>>=fun y1=>(appG 8 x3 ([y1.type]:List Int))>>=fun y2=>uX p0 y2 (IntKind.wrap .i64 (x4+1))) else (some x3)
  partial_fixpoint
def rA (p0:bD):Option (List Int) :=
  uX p0 ([]:List Int) 0
def sG (p1:(List Int)) (p0:aJ) (x6:(List Int)) (x7:Int):Option ((List Int)×Bool) :=
  if (decide (x7<(p1.length:Int)))=true then ((idx p1 x7)>>=fun y1=>(dX y1 0 (IntKind.wrap .i64 ((p0.tables.length:Int) - 1)))>>=fun y2=>if (!y2)=true then (some (([]:List Int),false)) else ((idx p1 x7)>>=fun y3=>(idx p0.tables y3)>>=fun y4=>(rA y4)>>=fun y5=>(appG 8 x6 y5)>>=fun y6=>sG p1 p0 y6 (IntKind.wrap .i64 (x7+1)))) else (some (x6,true))
  partial_fixpoint
def wZ (p0:aJ) (p1:(List Int)):Option ((List Int)×Bool) :=
  sG p1 p0 ([]:List Int) 0
def qP (p0:aJ) (p1:aB) (x6:Int):Option Bool :=
  if (decide (x6<(p1.names.length:Int)))=true then ((idx p1.names x6)>>=fun y12=>(iY y12)>>=fun y13=>if (!y13)=true then (some false) else (qP p0 p1 (IntKind.wrap .i64 (x6+1)))) else ((wZ p0 p1.tables)>>=fun y14=>some y14.2)
  partial_fixpoint
def pX (p0:aJ) (p1:aB) (x5:Int):Option Bool :=
  if (decide (x5<(p1.on_.length:Int)))=true then ((idx p1.on_ x5)>>=fun y11=>if (decide (1<(y11.length:Int)))=true then (some false) else (pX p0 p1 (IntKind.wrap .i64 (x5+1)))) else (qP p0 p1 0)
  partial_fixpoint
def P5 (p0:aJ) (p1:aB):Option Bool :=
  (dX (p1.tables.length:Int) 1 3)>>=fun y1=>(some (if (!y1)=true then true else (!decide ((p1.on_.length:Int)=(p1.tables.length:Int)))))>>=fun y2=>(if (true&&(y2==false))=true then idx p1.on_ 0 else some default)>>=fun y3=>(some (if y2=true then true else (decide (0<(y3.length:Int)))))>>=fun y4=>(some (if y4=true then true else (decide (1<(p1.where_.length:Int)))))>>=fun y5=>(some (if y5=true then true else (decide (12<(p1.order.length:Int)))))>>=fun y6=>(if (true&&(y6==false))=true then dX (p1.items.length:Int) 1 12 else some default)>>=fun y7=>(some (if y6=true then true else (!y7)))>>=fun y8=>(some (if y8=true then true else (!decide ((p1.names.length:Int)=(p1.items.length:Int)))))>>=fun y9=>(some (if y9=true then true else (decide (p1.limit<(-1)))))>>=fun y10=>if y10=true then (some false) else (pX p0 p1 0)
def I1 (p0:(List Int)) (p1:(List (List Int))):Option (List (List Int)) :=
  (appG 24 ([p0]:List (List Int)) p1)>>=fun y1=>some y1
def oH (p0:(List Int)) (x3:Int) (x4:Int):Option Bool :=
  if (decide (x4<(p0.length:Int)))=true then ((idx p0 x4)>>=fun y1=>(pK x3 y1)>>=fun y2=>if (!y2.2)=true then (some false) else (oH p0 y2.1 (IntKind.wrap .i64 (x4+1)))) else (some true)
  partial_fixpoint
def tH (p0:(List Int)):Option Bool :=
  oH p0 0 0
def nT (p2:aA) (uL:(List Int)):Option (Int×Bool) :=
  if (decide (p2.kind=5))=true then (some (3,true)) else ((tH uL)>>=fun y23=>(kJ 3 y23)>>=fun y24=>some (y24.1,y24.2))
def U3 (p0:Int) (p1:Int):Option (Int×Bool) :=
  if (decide (p0=15))=true then ((vG p1)>>=fun y1=>(kJ 3 y1)>>=fun y2=>some (y2.1,y2.2)) else (if (decide (p0=16))=true then ((xQ p1 1)>>=fun y3=>(kJ 1 y3)>>=fun y4=>some (y4.1,y4.2)) else (some (0,false)))
mutual
def oI (y8:(List (List Int))) (p0:aJ) (p2:aB) (x17:(List Int)) (x18:Int):Option ((List Int)×Bool) :=
  if (decide (x18<(p2.items.length:Int)))=true then ((idx p2.items x18)>>=fun y12=>(pI p0 y8 y12)>>=fun y13=>if (!y13.2)=true then (some (([]:List Int),false)) else ((appG 8 x17 ([y13.1]:List Int))>>=fun y14=>oI y8 p0 p2 y14 (IntKind.wrap .i64 (x18+1)))) else (some (x17,true))
  partial_fixpoint
def tJ (y8:(List (List Int))) (p0:aJ) (p2:aB) (x14:Int):Option ((List Int)×Bool) :=
  if (decide (x14<(p2.order.length:Int)))=true then ((idx p2.order x14)>>=fun y10=>(pI p0 y8 y10.expr)>>=fun y11=>if (!y11.2)=true then (some (([]:List Int),false)) else (tJ y8 p0 p2 (IntKind.wrap .i64 (x14+1)))) else (oI y8 p0 p2 ([]:List Int) 0)
  partial_fixpoint
def wK (p1:(List (List Int))) (p0:aJ) (p2:aB) (x8:Int):Option ((List Int)×Bool) :=
  if (decide (x8<(p2.on_.length:Int)))=true then ((kY p2.tables 0 (IntKind.wrap .i64 (x8+1)))>>=fun y2=>(wZ p0 y2)>>=fun y3=>(I1 y3.1 p1)>>=fun y4=>(idx p2.on_ x8)>>=fun y5=>(vW p0 y4 y5)>>=fun y6=>if (!y6)=true then (some (([]:List Int),false)) else (wK p1 p0 p2 (IntKind.wrap .i64 (x8+1)))) else ((wZ p0 p2.tables)>>=fun y7=>(I1 y7.1 p1)>>=fun y8=>(vW p0 y8 p2.where_)>>=fun y9=>if (!y9)=true then (some (([]:List Int),false)) else (tJ y8 p0 p2 0))
  partial_fixpoint
def M0 (p0:aJ) (p1:(List (List Int))) (p2:aB):Option ((List Int)×Bool) :=
  (P5 p0 p2)>>=fun y1=>if (!y1)=true then (some (([]:List Int),false)) else (wK p1 p0 p2 0)
  partial_fixpoint
def jR (p1:(List (List Int))) (p0:aJ) (p2:aA) (x8:(List Int)) (x9:Int):Option (Int×Bool) :=
  if (decide (x9<(p2.kids.length:Int)))=true then ((idx p2.kids x9)>>=fun y2=>(pI p0 p1 y2)>>=fun y3=>if (!y3.2)=true then (some (0,false)) else ((appG 8 x8 ([y3.1]:List Int))>>=fun y4=>jR p1 p0 p2 y4 (IntKind.wrap .i64 (x9+1)))) else (if (decide (p2.kind=1))=true then (some (p2.value.kind,true)) else (if (decide (p2.kind=2))=true then ((dX p2.up 0 (IntKind.wrap .i64 ((p1.length:Int) - 1)))>>=fun y5=>(if (true&&((!y5)==false))=true then idx p1 p2.up else some default)>>=fun y6=>(if (true&&((!y5)==false))=true then dX p2.at_ 0 (IntKind.wrap .i64 ((y6.length:Int) - 1)) else some default)>>=fun y7=>(some (if (!y5)=true then true else (!y7)))>>=fun y8=>if y8=true then (some (0,false)) else ((idx p1 p2.up)>>=fun y9=>(idx y9 p2.at_)>>=fun y10=>some (y10,true))) else (if (decide (p2.kind=3))=true then ((idx x8 0)>>=fun y11=>(U3 p2.op y11)>>=fun y12=>some (y12.1,y12.2)) else (if (decide (p2.kind=4))=true then ((idx x8 0)>>=fun y13=>(idx x8 1)>>=fun y14=>(O0 p2.op y13 y14)>>=fun y15=>some (y15.1,y15.2)) else (if (decide (0<(p2.sub.length:Int)))=true then ((idx p2.sub 0)>>=fun y16=>(M0 p0 p1 y16)>>=fun y17=>(if (true&&((!y17.2)==false))=true then some (if (decide (p2.kind=8))=true then (!decide ((y17.1.length:Int)=1)) else false) else some default)>>=fun y18=>(some (if (!y17.2)=true then true else y18))>>=fun y19=>if y19=true then (some (0,false)) else (if (decide (p2.kind=8))=true then ((idx y17.1 0)>>=fun y20=>(appG 8 x8 ([y20]:List Int))>>=fun y21=>nT p2 y21) else (nT p2 x8))) else (nT p2 x8))))))
  partial_fixpoint
def pI (p0:aJ) (p1:(List (List Int))) (p2:aA):Option (Int×Bool) :=
  (zQ p2)>>=fun y1=>if (!y1)=true then (some (0,false)) else (jR p1 p0 p2 ([]:List Int) 0)
  partial_fixpoint
def wF (p1:(List (List Int))) (p2:(List aA)) (p0:aJ) (x7:Int):Option Bool :=
  if (decide (x7<(p2.length:Int)))=true then ((idx p2 x7)>>=fun y1=>(pI p0 p1 y1)>>=fun y2=>(if (true&&((!y2.2)==false))=true then vG y2.1 else some default)>>=fun y3=>(some (if (!y2.2)=true then true else (!y3)))>>=fun y4=>if y4=true then (some false) else (wF p1 p2 p0 (IntKind.wrap .i64 (x7+1)))) else (some true)
  partial_fixpoint
def vW (p0:aJ) (p1:(List (List Int))) (p2:(List aA)):Option Bool :=
  wF p1 p2 p0 0
  partial_fixpoint
end
def nR (p0:Int) (p1:Int):Option Int :=
  if (decide (p1<p0))=true then (some p0) else (some p1)
def pG (p0:aB) (dD:(List aA)) (x5:Int):Option (List aA) :=
  if (decide (x5<(p0.order.length:Int)))=true then ((idx p0.order x5)>>=fun y5=>(appG 120 dD ([y5.expr]:List aA))>>=fun y6=>pG p0 y6 (IntKind.wrap .i64 (x5+1))) else ((appG 120 dD p0.items)>>=fun y7=>some y7)
  partial_fixpoint
def wH (p0:aB) (x3:(List aA)) (x4:Int):Option (List aA) :=
  if (decide (x4<(p0.on_.length:Int)))=true then ((idx p0.on_ x4)>>=fun y1=>(appG 120 x3 y1)>>=fun y2=>wH p0 y2 (IntKind.wrap .i64 (x4+1))) else ((appG 120 x3 p0.where_)>>=fun y3=>pG p0 y3 0)
  partial_fixpoint
def L6 (p0:aB):Option (List aA) :=
  wH p0 ([]:List aA) 0
mutual
def sV (y1:(List aA)) (x3:Int) (x5:Int):Option Int :=
  if (decide (x5<(y1.length:Int)))=true then ((idx y1 x5)>>=fun y2=>(nZ y2)>>=fun y3=>(nR x3 y3)>>=fun y4=>sV y1 y4 (IntKind.wrap .i64 (x5+1))) else (some x3)
  partial_fixpoint
def xX (p0:aB):Option Int :=
  (L6 p0)>>=fun y1=>sV y1 0 0
  partial_fixpoint
def wM (p0:aA) (dD:Int) (x5:Int):Option Int :=
  if (decide (x5<(p0.sub.length:Int)))=true then ((idx p0.sub x5)>>=fun y5=>(xX y5)>>=fun y6=>(nR dD y6)>>=fun y7=>wM p0 y7 (IntKind.wrap .i64 (x5+1))) else (some (IntKind.wrap .i64 (dD+1)))
  partial_fixpoint
def G8 (p0:aA) (x3:Int) (x4:Int):Option Int :=
  if (decide (x4<(p0.kids.length:Int)))=true then ((idx p0.kids x4)>>=fun y1=>(nZ y1)>>=fun y2=>(nR x3 y2)>>=fun y3=>G8 p0 y3 (IntKind.wrap .i64 (x4+1))) else (wM p0 x3 0)
  partial_fixpoint
def nZ (p0:aA):Option Int :=
  G8 p0 0 0
  partial_fixpoint
end
mutual
def vH (y1:(List aA)) (x3:Int) (x5:Int):Option Int :=
  if (decide (x5<(y1.length:Int)))=true then ((idx y1 x5)>>=fun y2=>(nV y2)>>=fun y3=>vH y1 (IntKind.wrap .i64 (x3+y3)) (IntKind.wrap .i64 (x5+1))) else (some x3)
  partial_fixpoint
def xV (p0:aB):Option Int :=
  (L6 p0)>>=fun y1=>vH y1 0 0
  partial_fixpoint
def yA (p0:aA) (jE:Int) (x5:Int):Option Int :=
  if (decide (x5<(p0.sub.length:Int)))=true then ((idx p0.sub x5)>>=fun y4=>(xV y4)>>=fun y5=>yA p0 (IntKind.wrap .i64 (jE+y5)) (IntKind.wrap .i64 (x5+1))) else (some jE)
  partial_fixpoint
def zR (p0:aA) (x3:Int) (x4:Int):Option Int :=
  if (decide (x4<(p0.kids.length:Int)))=true then ((idx p0.kids x4)>>=fun y1=>(nV y1)>>=fun y2=>zR p0 (IntKind.wrap .i64 (x3+y2)) (IntKind.wrap .i64 (x4+1))) else (yA p0 x3 0)
  partial_fixpoint
def nV (p0:aA):Option Int :=
  zR p0 1 0
  partial_fixpoint
end
def oL (y1:(List aA)) (x4:Int) (x5:Int):Option Bool :=
  if (decide (x5<(y1.length:Int)))=true then ((idx y1 x5)>>=fun y2=>(nV y2)>>=fun y3=>(idx y1 x5)>>=fun y4=>(nZ y4)>>=fun y5=>if (decide (24<y5))=true then (some false) else (oL y1 (IntKind.wrap .i64 (x4+y3)) (IntKind.wrap .i64 (x5+1)))) else (some (decide (x4≤200)))
  partial_fixpoint
def vV (p0:bM) (x3:(List aA)) (x4:Int):Option (List aA) :=
  if (decide (x4<(p0.rows.length:Int)))=true then ((idx p0.rows x4)>>=fun y1=>(appG 120 x3 y1)>>=fun y2=>vV p0 y2 (IntKind.wrap .i64 (x4+1))) else ((appG 120 x3 p0.sets)>>=fun y3=>(appG 120 y3 p0.where_)>>=fun y4=>some y4)
  partial_fixpoint
def aAt (p0:bM):Option (List aA) :=
  vV p0 ([]:List aA) 0
def aAm (p0:bM):Option Bool :=
  (aAt p0)>>=fun y1=>oL y1 0 0
def yX (p0:aJ) (p1:(List (List Int))) (p2:aA) (p3:Int):Option Bool :=
  (pI p0 p1 p2)>>=fun y1=>(pK y1.1 p3)>>=fun y2=>(some (if y1.2=true then y2.2 else false))>>=fun y3=>some y3
mutual
def uK (y2:(List Int)) (x6:Int) (p0:aJ) (p1:bM) (x7:Int):Option Bool :=
  if (decide (x7<(y2.length:Int)))=true then ((idx p1.rows x6)>>=fun y6=>(idx y6 x7)>>=fun y7=>(idx y2 x7)>>=fun y8=>(yX p0 ([]:List (List Int)) y7 y8)>>=fun y9=>if (!y9)=true then (some false) else (uK y2 x6 p0 p1 (IntKind.wrap .i64 (x7+1)))) else (vN y2 p0 p1 (IntKind.wrap .i64 (x6+1)))
  partial_fixpoint
def vN (y2:(List Int)) (p0:aJ) (p1:bM) (x6:Int):Option Bool :=
  if (decide (x6<(p1.rows.length:Int)))=true then ((idx p1.rows x6)>>=fun y3=>if (!decide ((y3.length:Int)=(y2.length:Int)))=true then (some false) else (uK y2 x6 p0 p1 0)) else ((dX (p1.rows.length:Int) 1 5)>>=fun y4=>(some (if y4=true then (decide ((IntKind.wrap .i64 ((IntKind.wrap .i64 ((p1.cols.length:Int)+(p1.sets.length:Int)))+(p1.where_.length:Int)))=0)) else false))>>=fun y5=>some y5)
  partial_fixpoint
end
def U9 (p0:aJ) (p1:bM):Option Bool :=
  (idx p0.tables p1.table)>>=fun y1=>(rA y1)>>=fun y2=>vN y2 p0 p1 0
def rU (p0:(List Int)) (p1:Int) (x5:Int):Option Bool :=
  if (decide (x5<(p0.length:Int)))=true then ((idx p0 x5)>>=fun y1=>if (decide (y1=p1))=true then (some true) else (rU p0 p1 (IntKind.wrap .i64 (x5+1)))) else (some false)
  partial_fixpoint
def R9 (p0:(List Int)) (p1:Int):Option Bool :=
  rU p0 p1 0
def oW (p2:(List (List Int))) (y2:(List Int)) (p0:aJ) (p1:bM) (x8:Int):Option Bool :=
  if (decide (x8<(p1.cols.length:Int)))=true then ((idx p1.cols x8)>>=fun y3=>(dX y3 0 (IntKind.wrap .i64 ((y2.length:Int) - 1)))>>=fun y4=>(if (true&&((!y4)==false))=true then kY p1.cols 0 x8 else some default)>>=fun y5=>(if (true&&((!y4)==false))=true then idx p1.cols x8 else some default)>>=fun y6=>(if (true&&((!y4)==false))=true then R9 y5 y6 else some default)>>=fun y7=>(some (if (!y4)=true then true else y7))>>=fun y8=>(if (true&&(y8==false))=true then idx p1.sets x8 else some default)>>=fun y9=>(if (true&&(y8==false))=true then idx p1.cols x8 else some default)>>=fun y10=>(if (true&&(y8==false))=true then idx y2 y10 else some default)>>=fun y11=>(if (true&&(y8==false))=true then yX p0 p2 y9 y11 else some default)>>=fun y12=>(some (if y8=true then true else (!y12)))>>=fun y13=>if y13=true then (some false) else (oW p2 y2 p0 p1 (IntKind.wrap .i64 (x8+1)))) else (some true)
  partial_fixpoint
def aH1 (p0:aJ) (p1:bM) (p2:(List (List Int))):Option Bool :=
  (idx p0.tables p1.table)>>=fun y1=>(rA y1)>>=fun y2=>if (!decide ((p1.cols.length:Int)=(p1.sets.length:Int)))=true then (some false) else (oW p2 y2 p0 p1 0)
def zX (p0:(List Int)) (p1:(List Int)) (x5:Int):Option Bool :=
  if (decide (x5<(p0.length:Int)))=true then ((idx p0 x5)>>=fun y1=>(idx p1 x5)>>=fun y2=>if (!decide (y1=y2))=true then (some false) else (zX p0 p1 (IntKind.wrap .i64 (x5+1)))) else (some true)
  partial_fixpoint
def aB3 (p0:(List Int)) (p1:(List Int)):Option Bool :=
  if (!decide ((p0.length:Int)=(p1.length:Int)))=true then (some false) else (zX p0 p1 0)
def L9 (p0:(List (List UInt8))) (p1:(List (List UInt8))) (x5:Int):Option Bool :=
  if (decide (x5<(p0.length:Int)))=true then ((idx p0 x5)>>=fun y1=>(idx p1 x5)>>=fun y2=>if (!decide (y1=y2))=true then (some false) else (L9 p0 p1 (IntKind.wrap .i64 (x5+1)))) else (some true)
  partial_fixpoint
def aAf (p0:(List (List UInt8))) (p1:(List (List UInt8))):Option Bool :=
  if (!decide ((p0.length:Int)=(p1.length:Int)))=true then (some false) else (L9 p0 p1 0)
mutual
def zT (p0:aB) (p1:aB) (x6:Int):Option Bool :=
  if (decide (x6<(p0.order.length:Int)))=true then ((idx p0.order x6)>>=fun y15=>(idx p1.order x6)>>=fun y16=>(if (true&&((!(y15.desc==y16.desc))==false))=true then idx p0.order x6 else some default)>>=fun y17=>(if (true&&((!(y15.desc==y16.desc))==false))=true then idx p1.order x6 else some default)>>=fun y18=>(if (true&&((!(y15.desc==y16.desc))==false))=true then aF3 y17.expr y18.expr else some default)>>=fun y19=>(some (if (!(y15.desc==y16.desc))=true then true else (!y19)))>>=fun y20=>if y20=true then (some false) else (zT p0 p1 (IntKind.wrap .i64 (x6+1)))) else (some true)
  partial_fixpoint
def aB1 (p0:aB) (p1:aB) (x5:Int):Option Bool :=
  if (decide (x5<(p0.on_.length:Int)))=true then ((idx p0.on_ x5)>>=fun y12=>(idx p1.on_ x5)>>=fun y13=>(rG y12 y13)>>=fun y14=>if (!y14)=true then (some false) else (aB1 p0 p1 (IntKind.wrap .i64 (x5+1)))) else (zT p0 p1 0)
  partial_fixpoint
def aE8 (p0:aA) (p1:aA) (x5:Int):Option Bool :=
  if (decide (x5<(p0.sub.length:Int)))=true then ((idx p0.sub x5)>>=fun y9=>(idx p1.sub x5)>>=fun y10=>(K3 y9 y10)>>=fun y11=>if (!y11)=true then (some false) else (aE8 p0 p1 (IntKind.wrap .i64 (x5+1)))) else (some true)
  partial_fixpoint
def aF3 (p0:aA) (p1:aA):Option Bool :=
  (some (if (!decide (p0.kind=p1.kind))=true then true else (!decide (p0.op=p1.op))))>>=fun y1=>(some (if y1=true then true else (!(p0.not_==p1.not_))))>>=fun y2=>(some (if y2=true then true else (!((decide (p0.value.kind=p1.value.kind))&&((decide (p0.value.num=p1.value.num))&&((decide (p0.value.text=p1.value.text))&&true))))))>>=fun y3=>(some (if y3=true then true else (!decide (p0.up=p1.up))))>>=fun y4=>(some (if y4=true then true else (!decide (p0.at_=p1.at_))))>>=fun y5=>(some (if y5=true then true else (!decide ((p0.sub.length:Int)=(p1.sub.length:Int)))))>>=fun y6=>(if (true&&(y6==false))=true then rG p0.kids p1.kids else some default)>>=fun y7=>(some (if y6=true then true else (!y7)))>>=fun y8=>if y8=true then (some false) else (aE8 p0 p1 0)
  partial_fixpoint
def aAc (p0:(List aA)) (p1:(List aA)) (x5:Int):Option Bool :=
  if (decide (x5<(p0.length:Int)))=true then ((idx p0 x5)>>=fun y1=>(idx p1 x5)>>=fun y2=>(aF3 y1 y2)>>=fun y3=>if (!y3)=true then (some false) else (aAc p0 p1 (IntKind.wrap .i64 (x5+1)))) else (some true)
  partial_fixpoint
def rG (p0:(List aA)) (p1:(List aA)):Option Bool :=
  if (!decide ((p0.length:Int)=(p1.length:Int)))=true then (some false) else (aAc p0 p1 0)
  partial_fixpoint
def K3 (p0:aB) (p1:aB):Option Bool :=
  (some (if (!(p0.distinct==p1.distinct))=true then true else (!decide (p0.limit=p1.limit))))>>=fun y1=>(if (true&&(y1==false))=true then aB3 p0.tables p1.tables else some default)>>=fun y2=>(some (if y1=true then true else (!y2)))>>=fun y3=>(some (if y3=true then true else (!decide ((p0.on_.length:Int)=(p1.on_.length:Int)))))>>=fun y4=>(if (true&&(y4==false))=true then rG p0.where_ p1.where_ else some default)>>=fun y5=>(some (if y4=true then true else (!y5)))>>=fun y6=>(some (if y6=true then true else (!decide ((p0.order.length:Int)=(p1.order.length:Int)))))>>=fun y7=>(if (true&&(y7==false))=true then rG p0.items p1.items else some default)>>=fun y8=>(some (if y7=true then true else (!y8)))>>=fun y9=>(if (true&&(y9==false))=true then aAf p0.names p1.names else some default)>>=fun y10=>(some (if y9=true then true else (!y10)))>>=fun y11=>if y11=true then (some false) else (aB1 p0 p1 0)
  partial_fixpoint
end
def Z9 (p0:aJ) (p1:aB):Option Bool :=
  (I7 p0)>>=fun y1=>(if (true&&((!y1)==false))=true then xX p1 else some default)>>=fun y2=>(some (if (!y1)=true then true else (decide (24<y2))))>>=fun y3=>(if (true&&(y3==false))=true then xV p1 else some default)>>=fun y4=>(some (if y3=true then true else (decide (200<y4))))>>=fun y5=>if y5=true then (some false) else ((M0 p0 ([]:List (List Int)) p1)>>=fun y6=>some y6.2)
def O7 (p0:aJ) (p1:bM):Option Bool :=
  if (decide (p1.kind=1))=true then ((Z9 p0 p1.plan)>>=fun y1=>(some (if y1=true then (decide (p1.table=0)) else false))>>=fun y2=>(some (if y2=true then (decide ((IntKind.wrap .i64 ((IntKind.wrap .i64 ((IntKind.wrap .i64 ((p1.rows.length:Int)+(p1.cols.length:Int)))+(p1.sets.length:Int)))+(p1.where_.length:Int)))=0)) else false))>>=fun y3=>some y3) else ((I7 p0)>>=fun y4=>(if (true&&((!y4)==false))=true then dX p1.kind 2 4 else some default)>>=fun y5=>(some (if (!y4)=true then true else (!y5)))>>=fun y6=>(if (true&&(y6==false))=true then dX p1.table 0 (IntKind.wrap .i64 ((p0.tables.length:Int) - 1)) else some default)>>=fun y7=>(some (if y6=true then true else (!y7)))>>=fun y8=>(if (true&&(y8==false))=true then K3 p1.plan (aB.mk ([]:List Int) ([]:List (List aA)) ([]:List aA) ([]:List aY) ([]:List aA) ([]:List (List UInt8)) false 0) else some default)>>=fun y9=>(some (if y8=true then true else (!y9)))>>=fun y10=>(if (true&&(y10==false))=true then aAm p1 else some default)>>=fun y11=>(some (if y10=true then true else (!y11)))>>=fun y12=>if y12=true then (some false) else (if (decide (p1.kind=2))=true then ((U9 p0 p1)>>=fun y13=>some y13) else ((idx p0.tables p1.table)>>=fun y14=>(rA y14)>>=fun y15=>(some (if (decide (0<(p1.rows.length:Int)))=true then true else (decide (1<(p1.where_.length:Int)))))>>=fun y16=>(if (true&&(y16==false))=true then vW p0 ([y15]:List (List Int)) p1.where_ else some default)>>=fun y17=>(some (if y16=true then true else (!y17)))>>=fun y18=>if y18=true then (some false) else (if (decide (p1.kind=4))=true then (some (decide ((IntKind.wrap .i64 ((p1.cols.length:Int)+(p1.sets.length:Int)))=0))) else ((if (true&&((decide (0<(p1.cols.length:Int)))==true))=true then aH1 p0 p1 ([y15]:List (List Int)) else some default)>>=fun y19=>(some (if (decide (0<(p1.cols.length:Int)))=true then y19 else false))>>=fun y20=>some y20)))))
def G6 (p0:bL) (p1:bL):Option Bool :=
  if (!decide (p0.name=p1.name))=true then (some false) else (if (!decide (p0.type=p1.type))=true then (some false) else (some true))
def H8 (p0:(List bL)) (p1:(List bL)) (x5:Int):Option Bool :=
  if (decide (x5<(p0.length:Int)))=true then ((idx p0 x5)>>=fun y1=>(idx p1 x5)>>=fun y2=>(G6 y1 y2)>>=fun y3=>if (!y3)=true then (some false) else (H8 p0 p1 (IntKind.wrap .i64 (x5+1)))) else (some true)
  partial_fixpoint
def yL (p0:(List bL)) (p1:(List bL)):Option Bool :=
  if (!decide ((p0.length:Int)=(p1.length:Int)))=true then (some false) else (H8 p0 p1 0)
def H5 (p0:bD) (p1:bD):Option Bool :=
  if (!decide (p0.name=p1.name))=true then (some false) else ((yL p0.cols p1.cols)>>=fun y1=>if (!y1)=true then (some false) else (some true))
def D6 (p0:(List bD)) (p1:(List bD)) (x5:Int):Option Bool :=
  if (decide (x5<(p0.length:Int)))=true then ((idx p0 x5)>>=fun y1=>(idx p1 x5)>>=fun y2=>(H5 y1 y2)>>=fun y3=>if (!y3)=true then (some false) else (D6 p0 p1 (IntKind.wrap .i64 (x5+1)))) else (some true)
  partial_fixpoint
def K7 (p0:(List bD)) (p1:(List bD)):Option Bool :=
  if (!decide ((p0.length:Int)=(p1.length:Int)))=true then (some false) else (D6 p0 p1 0)
def aAr (p0:aJ) (p1:aJ):Option Bool :=
  (K7 p0.tables p1.tables)>>=fun y1=>if (!y1)=true then (some false) else (some true)
def yI (p0:(List Int)) (p1:(List Int)) (x5:Int):Option Bool :=
  if (decide (x5<(p0.length:Int)))=true then ((idx p0 x5)>>=fun y1=>(idx p1 x5)>>=fun y2=>if (!decide (y1=y2))=true then (some false) else (yI p0 p1 (IntKind.wrap .i64 (x5+1)))) else (some true)
  partial_fixpoint
def sQ (p0:(List Int)) (p1:(List Int)):Option Bool :=
  if (!decide ((p0.length:Int)=(p1.length:Int)))=true then (some false) else (yI p0 p1 0)
def zA (p0:(List (List UInt8))) (p1:(List (List UInt8))) (x5:Int):Option Bool :=
  if (decide (x5<(p0.length:Int)))=true then ((idx p0 x5)>>=fun y1=>(idx p1 x5)>>=fun y2=>if (!decide (y1=y2))=true then (some false) else (zA p0 p1 (IntKind.wrap .i64 (x5+1)))) else (some true)
  partial_fixpoint
def yJ (p0:(List (List UInt8))) (p1:(List (List UInt8))):Option Bool :=
  if (!decide ((p0.length:Int)=(p1.length:Int)))=true then (some false) else (zA p0 p1 0)
def yQ (p0:dC) (p1:dC):Option Bool :=
  if (!decide (p0.kind=p1.kind))=true then (some false) else (if (!decide (p0.num=p1.num))=true then (some false) else (if (!decide (p0.text=p1.text))=true then (some false) else (some true)))
mutual
def rJ (p0:aY) (p1:aY):Option Bool :=
  (kV p0.expr p1.expr)>>=fun y1=>if (!y1)=true then (some false) else (if (!(p0.desc==p1.desc))=true then (some false) else (some true))
  partial_fixpoint
def aA2 (p0:(List aY)) (p1:(List aY)) (x5:Int):Option Bool :=
  if (decide (x5<(p0.length:Int)))=true then ((idx p0 x5)>>=fun y1=>(idx p1 x5)>>=fun y2=>(rJ y1 y2)>>=fun y3=>if (!y3)=true then (some false) else (aA2 p0 p1 (IntKind.wrap .i64 (x5+1)))) else (some true)
  partial_fixpoint
def Y1 (p0:(List aY)) (p1:(List aY)):Option Bool :=
  if (!decide ((p0.length:Int)=(p1.length:Int)))=true then (some false) else (aA2 p0 p1 0)
  partial_fixpoint
def yN (p0:(List (List aA))) (p1:(List (List aA))) (x5:Int):Option Bool :=
  if (decide (x5<(p0.length:Int)))=true then ((idx p0 x5)>>=fun y1=>(idx p1 x5)>>=fun y2=>(gH y1 y2)>>=fun y3=>if (!y3)=true then (some false) else (yN p0 p1 (IntKind.wrap .i64 (x5+1)))) else (some true)
  partial_fixpoint
def oU (p0:(List (List aA))) (p1:(List (List aA))):Option Bool :=
  if (!decide ((p0.length:Int)=(p1.length:Int)))=true then (some false) else (yN p0 p1 0)
  partial_fixpoint
def qG (p0:aB) (p1:aB):Option Bool :=
  (sQ p0.tables p1.tables)>>=fun y1=>if (!y1)=true then (some false) else ((oU p0.on_ p1.on_)>>=fun y2=>if (!y2)=true then (some false) else ((gH p0.where_ p1.where_)>>=fun y3=>if (!y3)=true then (some false) else ((Y1 p0.order p1.order)>>=fun y4=>if (!y4)=true then (some false) else ((gH p0.items p1.items)>>=fun y5=>if (!y5)=true then (some false) else ((yJ p0.names p1.names)>>=fun y6=>if (!y6)=true then (some false) else (if (!(p0.distinct==p1.distinct))=true then (some false) else (if (!decide (p0.limit=p1.limit))=true then (some false) else (some true))))))))
  partial_fixpoint
def aA5 (p0:(List aB)) (p1:(List aB)) (x5:Int):Option Bool :=
  if (decide (x5<(p0.length:Int)))=true then ((idx p0 x5)>>=fun y1=>(idx p1 x5)>>=fun y2=>(qG y1 y2)>>=fun y3=>if (!y3)=true then (some false) else (aA5 p0 p1 (IntKind.wrap .i64 (x5+1)))) else (some true)
  partial_fixpoint
def aB4 (p0:(List aB)) (p1:(List aB)):Option Bool :=
  if (!decide ((p0.length:Int)=(p1.length:Int)))=true then (some false) else (aA5 p0 p1 0)
  partial_fixpoint
def kV (p0:aA) (p1:aA):Option Bool :=
  if (!decide (p0.kind=p1.kind))=true then (some false) else (if (!decide (p0.op=p1.op))=true then (some false) else (if (!(p0.not_==p1.not_))=true then (some false) else ((yQ p0.value p1.value)>>=fun y1=>if (!y1)=true then (some false) else (if (!decide (p0.up=p1.up))=true then (some false) else (if (!decide (p0.at_=p1.at_))=true then (some false) else ((gH p0.kids p1.kids)>>=fun y2=>if (!y2)=true then (some false) else ((aB4 p0.sub p1.sub)>>=fun y3=>if (!y3)=true then (some false) else (some true))))))))
  partial_fixpoint
def oQ (p0:(List aA)) (p1:(List aA)) (x5:Int):Option Bool :=
  if (decide (x5<(p0.length:Int)))=true then ((idx p0 x5)>>=fun y1=>(idx p1 x5)>>=fun y2=>(kV y1 y2)>>=fun y3=>if (!y3)=true then (some false) else (oQ p0 p1 (IntKind.wrap .i64 (x5+1)))) else (some true)
  partial_fixpoint
def gH (p0:(List aA)) (p1:(List aA)):Option Bool :=
  if (!decide ((p0.length:Int)=(p1.length:Int)))=true then (some false) else (oQ p0 p1 0)
  partial_fixpoint
end
def aA3 (p0:bM) (p1:bM):Option Bool :=
  if (!decide (p0.kind=p1.kind))=true then (some false) else ((qG p0.plan p1.plan)>>=fun y1=>if (!y1)=true then (some false) else (if (!decide (p0.table=p1.table))=true then (some false) else ((oU p0.rows p1.rows)>>=fun y2=>if (!y2)=true then (some false) else ((sQ p0.cols p1.cols)>>=fun y3=>if (!y3)=true then (some false) else ((gH p0.sets p1.sets)>>=fun y4=>if (!y4)=true then (some false) else ((gH p0.where_ p1.where_)>>=fun y5=>if (!y5)=true then (some false) else (some true)))))))
def I5 (p0:bL) (p1:Int):Option Int :=
  if (decide ((IntKind.wrap .i64 (p1 - (p0.name.length:Int)))<0))=true then (some (-1)) else (some (IntKind.wrap .i64 (p1 - (p0.name.length:Int))))
def J6 (p0:(List bL)) (x1:Int) (x5:Int):Option Int :=
  if (decide (x5<(p0.length:Int)))=true then ((idx p0 x5)>>=fun y1=>(I5 y1 x1)>>=fun y2=>if (decide (y2<0))=true then (some (-1)) else (J6 p0 y2 (IntKind.wrap .i64 (x5+1)))) else (some x1)
  partial_fixpoint
def zC (p0:(List bL)) (p1:Int):Option Int :=
  if (decide ((IntKind.wrap .i64 (p1 - (p0.length:Int)))<0))=true then (some (-1)) else (J6 p0 (IntKind.wrap .i64 (p1 - (p0.length:Int))) 0)
def J5 (p0:bD) (p1:Int):Option Int :=
  if (decide ((IntKind.wrap .i64 (p1 - (p0.name.length:Int)))<0))=true then (some (-1)) else ((zC p0.cols (IntKind.wrap .i64 (p1 - (p0.name.length:Int))))>>=fun y1=>if (decide (y1<0))=true then (some (-1)) else (some y1))
def I6 (p0:(List bD)) (x1:Int) (x5:Int):Option Int :=
  if (decide (x5<(p0.length:Int)))=true then ((idx p0 x5)>>=fun y1=>(J5 y1 x1)>>=fun y2=>if (decide (y2<0))=true then (some (-1)) else (I6 p0 y2 (IntKind.wrap .i64 (x5+1)))) else (some x1)
  partial_fixpoint
def zJ (p0:(List bD)) (p1:Int):Option Int :=
  if (decide ((IntKind.wrap .i64 (p1 - (p0.length:Int)))<0))=true then (some (-1)) else (I6 p0 (IntKind.wrap .i64 (p1 - (p0.length:Int))) 0)
def U2 (p0:aJ) (p1:Int):Option Int :=
  (zJ p0.tables p1)>>=fun y1=>if (decide (y1<0))=true then (some (-1)) else (some y1)
def vK (p0:(List Int)) (p1:Int):Option Int :=
  if (decide ((IntKind.wrap .i64 (p1 - (p0.length:Int)))<0))=true then (some (-1)) else (some (IntKind.wrap .i64 (p1 - (p0.length:Int))))
def wT (p0:(List (List UInt8))) (x1:Int) (x5:Int):Option Int :=
  if (decide (x5<(p0.length:Int)))=true then ((idx p0 x5)>>=fun y1=>if (decide ((IntKind.wrap .i64 (x1 - (y1.length:Int)))<0))=true then (some (-1)) else (wT p0 (IntKind.wrap .i64 (x1 - (y1.length:Int))) (IntKind.wrap .i64 (x5+1)))) else (some x1)
  partial_fixpoint
def G7 (p0:(List (List UInt8))) (p1:Int):Option Int :=
  if (decide ((IntKind.wrap .i64 (p1 - (p0.length:Int)))<0))=true then (some (-1)) else (wT p0 (IntKind.wrap .i64 (p1 - (p0.length:Int))) 0)
def E9 (p0:dC) (p1:Int):Option Int :=
  if (decide ((IntKind.wrap .i64 (p1 - (p0.text.length:Int)))<0))=true then (some (-1)) else (some (IntKind.wrap .i64 (p1 - (p0.text.length:Int))))
mutual
def uZ (p0:aY) (p1:Int):Option Int :=
  (kX p0.expr p1)>>=fun y1=>if (decide (y1<0))=true then (some (-1)) else (some y1)
  partial_fixpoint
def R7 (p0:(List aY)) (x1:Int) (x5:Int):Option Int :=
  if (decide (x5<(p0.length:Int)))=true then ((idx p0 x5)>>=fun y1=>(uZ y1 x1)>>=fun y2=>if (decide (y2<0))=true then (some (-1)) else (R7 p0 y2 (IntKind.wrap .i64 (x5+1)))) else (some x1)
  partial_fixpoint
def O1 (p0:(List aY)) (p1:Int):Option Int :=
  if (decide ((IntKind.wrap .i64 (p1 - (p0.length:Int)))<0))=true then (some (-1)) else (R7 p0 (IntKind.wrap .i64 (p1 - (p0.length:Int))) 0)
  partial_fixpoint
def J2 (p0:(List (List aA))) (x1:Int) (x5:Int):Option Int :=
  if (decide (x5<(p0.length:Int)))=true then ((idx p0 x5)>>=fun y1=>(gJ y1 x1)>>=fun y2=>if (decide (y2<0))=true then (some (-1)) else (J2 p0 y2 (IntKind.wrap .i64 (x5+1)))) else (some x1)
  partial_fixpoint
def qB (p0:(List (List aA))) (p1:Int):Option Int :=
  if (decide ((IntKind.wrap .i64 (p1 - (p0.length:Int)))<0))=true then (some (-1)) else (J2 p0 (IntKind.wrap .i64 (p1 - (p0.length:Int))) 0)
  partial_fixpoint
def oM (p0:aB) (p1:Int):Option Int :=
  (vK p0.tables p1)>>=fun y1=>if (decide (y1<0))=true then (some (-1)) else ((qB p0.on_ y1)>>=fun y2=>if (decide (y2<0))=true then (some (-1)) else ((gJ p0.where_ y2)>>=fun y3=>if (decide (y3<0))=true then (some (-1)) else ((O1 p0.order y3)>>=fun y4=>if (decide (y4<0))=true then (some (-1)) else ((gJ p0.items y4)>>=fun y5=>if (decide (y5<0))=true then (some (-1)) else ((G7 p0.names y5)>>=fun y6=>if (decide (y6<0))=true then (some (-1)) else (some y6))))))
  partial_fixpoint
def N9 (p0:(List aB)) (x1:Int) (x5:Int):Option Int :=
  if (decide (x5<(p0.length:Int)))=true then ((idx p0 x5)>>=fun y1=>(oM y1 x1)>>=fun y2=>if (decide (y2<0))=true then (some (-1)) else (N9 p0 y2 (IntKind.wrap .i64 (x5+1)))) else (some x1)
  partial_fixpoint
def X7 (p0:(List aB)) (p1:Int):Option Int :=
  if (decide ((IntKind.wrap .i64 (p1 - (p0.length:Int)))<0))=true then (some (-1)) else (N9 p0 (IntKind.wrap .i64 (p1 - (p0.length:Int))) 0)
  partial_fixpoint
def kX (p0:aA) (p1:Int):Option Int :=
  (E9 p0.value p1)>>=fun y1=>if (decide (y1<0))=true then (some (-1)) else ((gJ p0.kids y1)>>=fun y2=>if (decide (y2<0))=true then (some (-1)) else ((X7 p0.sub y2)>>=fun y3=>if (decide (y3<0))=true then (some (-1)) else (some y3)))
  partial_fixpoint
def pY (p0:(List aA)) (x1:Int) (x5:Int):Option Int :=
  if (decide (x5<(p0.length:Int)))=true then ((idx p0 x5)>>=fun y1=>(kX y1 x1)>>=fun y2=>if (decide (y2<0))=true then (some (-1)) else (pY p0 y2 (IntKind.wrap .i64 (x5+1)))) else (some x1)
  partial_fixpoint
def gJ (p0:(List aA)) (p1:Int):Option Int :=
  if (decide ((IntKind.wrap .i64 (p1 - (p0.length:Int)))<0))=true then (some (-1)) else (pY p0 (IntKind.wrap .i64 (p1 - (p0.length:Int))) 0)
  partial_fixpoint
end
def U5 (p0:bM) (p1:Int):Option Int :=
  (oM p0.plan p1)>>=fun y1=>if (decide (y1<0))=true then (some (-1)) else ((qB p0.rows y1)>>=fun y2=>if (decide (y2<0))=true then (some (-1)) else ((vK p0.cols y2)>>=fun y3=>if (decide (y3<0))=true then (some (-1)) else ((gJ p0.sets y3)>>=fun y4=>if (decide (y4<0))=true then (some (-1)) else ((gJ p0.where_ y4)>>=fun y5=>if (decide (y5<0))=true then (some (-1)) else (some y5)))))
def zZ (p0:bL):Option bL :=
  some p0
def M3 (p0:(List bL)) (x4:Int) (aR:(List bL)):Option (List bL) :=
  if (decide (x4<(p0.length:Int)))=true then ((idx p0 x4)>>=fun y2=>(zZ y2)>>=fun y3=>(idx aR x4)>>=fun y4=>(jZ aR x4 y3)>>=fun y5=>M3 p0 (IntKind.wrap .i64 (x4+1)) y5) else (some aR)
  partial_fixpoint
def yF (p0:(List bL)):Option (List bL) :=
  (mkG 24 (p0.length:Int) ((bL.mk [] 0):bL))>>=fun y1=>M3 p0 0 y1
def E5 (p0:bD):Option bD :=
  (yF p0.cols)>>=fun y1=>some (bD.mk p0.name y1)
def yM (p0:(List bD)) (x4:Int) (aR:(List bD)):Option (List bD) :=
  if (decide (x4<(p0.length:Int)))=true then ((idx p0 x4)>>=fun y2=>(E5 y2)>>=fun y3=>(idx aR x4)>>=fun y4=>(jZ aR x4 y3)>>=fun y5=>yM p0 (IntKind.wrap .i64 (x4+1)) y5) else (some aR)
  partial_fixpoint
def A8 (p0:(List bD)):Option (List bD) :=
  (mkG 40 (p0.length:Int) ((bD.mk [] ([]:List bL)):bD))>>=fun y1=>yM p0 0 y1
def xC (p0:aJ):Option aJ :=
  (A8 p0.tables)>>=fun y1=>some (aJ.mk y1)
def G9 (p0:(List Int)) (x4:Int) (aR:(List Int)):Option (List Int) :=
  if (decide (x4<(p0.length:Int)))=true then ((idx p0 x4)>>=fun y2=>(idx aR x4)>>=fun y3=>(jZ aR x4 y2)>>=fun y4=>G9 p0 (IntKind.wrap .i64 (x4+1)) y4) else (some aR)
  partial_fixpoint
def tC (p0:(List Int)):Option (List Int) :=
  (mkG 8 (p0.length:Int) (0:Int))>>=fun y1=>G9 p0 0 y1
def G5 (p0:(List (List UInt8))) (x4:Int) (aR:(List (List UInt8))):Option (List (List UInt8)) :=
  if (decide (x4<(p0.length:Int)))=true then ((idx p0 x4)>>=fun y2=>(idx aR x4)>>=fun y3=>(jZ aR x4 y2)>>=fun y4=>G5 p0 (IntKind.wrap .i64 (x4+1)) y4) else (some aR)
  partial_fixpoint
def yR (p0:(List (List UInt8))):Option (List (List UInt8)) :=
  (mkG 16 (p0.length:Int) ([]:(List UInt8)))>>=fun y1=>G5 p0 0 y1
def F4 (p0:dC):Option dC :=
  some p0
mutual
def vO (p0:aY):Option aY :=
  (kZ p0.expr)>>=fun y1=>some (aY.mk y1 p0.desc)
  partial_fixpoint
def aA0 (p0:(List aY)) (x4:Int) (aR:(List aY)):Option (List aY) :=
  if (decide (x4<(p0.length:Int)))=true then ((idx p0 x4)>>=fun y2=>(vO y2)>>=fun y3=>(idx aR x4)>>=fun y4=>(jZ aR x4 y3)>>=fun y5=>aA0 p0 (IntKind.wrap .i64 (x4+1)) y5) else (some aR)
  partial_fixpoint
def Y5 (p0:(List aY)):Option (List aY) :=
  (mkG 128 (p0.length:Int) ((aY.mk (aA.mk 0 0 false (dC.mk 0 0 []) 0 0 ([]:List aA) ([]:List aB)) false):aY))>>=fun y1=>aA0 p0 0 y1
  partial_fixpoint
def I4 (p0:(List (List aA))) (x4:Int) (aR:(List (List aA))):Option (List (List aA)) :=
  if (decide (x4<(p0.length:Int)))=true then ((idx p0 x4)>>=fun y2=>(gL y2)>>=fun y3=>(idx aR x4)>>=fun y4=>(jZ aR x4 y3)>>=fun y5=>I4 p0 (IntKind.wrap .i64 (x4+1)) y5) else (some aR)
  partial_fixpoint
def qW (p0:(List (List aA))):Option (List (List aA)) :=
  (mkG 24 (p0.length:Int) (([]:List aA):(List aA)))>>=fun y1=>I4 p0 0 y1
  partial_fixpoint
def qQ (p0:aB):Option aB :=
  (tC p0.tables)>>=fun y1=>(qW p0.on_)>>=fun y2=>(gL p0.where_)>>=fun y3=>(Y5 p0.order)>>=fun y4=>(gL p0.items)>>=fun y5=>(yR p0.names)>>=fun y6=>some (aB.mk y1 y2 y3 y4 y5 y6 p0.distinct p0.limit)
  partial_fixpoint
def O3 (p0:(List aB)) (x4:Int) (aR:(List aB)):Option (List aB) :=
  if (decide (x4<(p0.length:Int)))=true then ((idx p0 x4)>>=fun y2=>(qQ y2)>>=fun y3=>(idx aR x4)>>=fun y4=>(jZ aR x4 y3)>>=fun y5=>O3 p0 (IntKind.wrap .i64 (x4+1)) y5) else (some aR)
  partial_fixpoint
def Q8 (p0:(List aB)):Option (List aB) :=
  (mkG 160 (p0.length:Int) ((aB.mk ([]:List Int) ([]:List (List aA)) ([]:List aA) ([]:List aY) ([]:List aA) ([]:List (List UInt8)) false 0):aB))>>=fun y1=>O3 p0 0 y1
  partial_fixpoint
def kZ (p0:aA):Option aA :=
  (F4 p0.value)>>=fun y1=>(gL p0.kids)>>=fun y2=>(Q8 p0.sub)>>=fun y3=>some (aA.mk p0.kind p0.op p0.not_ y1 p0.up p0.at_ y2 y3)
  partial_fixpoint
def qF (p0:(List aA)) (x4:Int) (aR:(List aA)):Option (List aA) :=
  if (decide (x4<(p0.length:Int)))=true then ((idx p0 x4)>>=fun y2=>(kZ y2)>>=fun y3=>(idx aR x4)>>=fun y4=>(jZ aR x4 y3)>>=fun y5=>qF p0 (IntKind.wrap .i64 (x4+1)) y5) else (some aR)
  partial_fixpoint
def gL (p0:(List aA)):Option (List aA) :=
  (mkG 120 (p0.length:Int) ((aA.mk 0 0 false (dC.mk 0 0 []) 0 0 ([]:List aA) ([]:List aB)):aA))>>=fun y1=>qF p0 0 y1
  partial_fixpoint
end
def xR (p0:bM):Option bM :=
  (qQ p0.plan)>>=fun y1=>(qW p0.rows)>>=fun y2=>(tC p0.cols)>>=fun y3=>(gL p0.sets)>>=fun y4=>(gL p0.where_)>>=fun y5=>some (bM.mk p0.kind y1 p0.table y2 y3 y4 y5)
def Q5 (p0:aJ) (p1:bM):Option Bool :=
  (U2 p0 1048576)>>=fun y1=>if (decide (y1<0))=true then (some true) else ((U5 p1 y1)>>=fun y2=>if (decide (y2<0))=true then (some true) else ((xC p0)>>=fun y3=>(xR p1)>>=fun y4=>(O7 y3 y4)>>=fun y5=>(xC p0)>>=fun y6=>(xR p1)>>=fun y7=>(Y0 y6 y7)>>=fun y8=>if (!(y8==y5))=true then (some false) else ((xC p0)>>=fun y9=>(aAr y6 y9)>>=fun y10=>if (!y10)=true then (some false) else ((xR p1)>>=fun y11=>(aA3 y7 y11)>>=fun y12=>if (!y12)=true then (some false) else (some true)))))
end Go.Ab
