/- The functions of the program,as Lean functions (printed by a program). -/
import Derived.Test.YthgkmdkjegiaoabGreatAbF0
namespace Go.Ab
open Go
structure bH where
  kind:Int
  num:Int
  text:(List UInt8)
instance:Inhabited bH:=⟨(bH.mk 0 0 [])⟩
mutual
structure aA where
  kind:Int
  op:Int
  not_:Bool
  value:bH
  up:Int
  at_:Int
  kids:(List aA)
  sub:(List aL)
structure bO where
  expr:aA
  desc:Bool
structure aL where
  tables:(List Int)
  on_:(List (List aA))
  where_:(List aA)
  order:(List bO)
  items:(List aA)
  names:(List (List UInt8))
  distinct:Bool
  limit:Int
end
instance:Inhabited aA:=⟨(aA.mk 0 0 false (bH.mk 0 0 []) 0 0 [] [])⟩
instance:Inhabited bO:=⟨(bO.mk (aA.mk 0 0 false (bH.mk 0 0 []) 0 0 [] []) false)⟩
instance:Inhabited aL:=⟨(aL.mk [] [] [] [] [] [] false 0)⟩
structure bC where
  kind:Int
  plan:aL
  table:Int
  rows:(List (List aA))
  cols:(List Int)
  sets:(List aA)
  where_:(List aA)
instance:Inhabited bC:=⟨(bC.mk 0 (aL.mk [] [] [] [] [] [] false 0) 0 [] [] [] [])⟩
structure bV where
  name:(List UInt8)
  type:Int
instance:Inhabited bV:=⟨(bV.mk [] 0)⟩
structure bI where
  name:(List UInt8)
  cols:(List bV)
instance:Inhabited bI:=⟨(bI.mk [] [])⟩
structure aP where
  tables:(List bI)
instance:Inhabited aP:=⟨(aP.mk [])⟩
structure aB where
  b:(List Int)
  i:Int
  h:Int
instance:Inhabited aB:=⟨(aB.mk [] 0 0)⟩
mutual
structure eO where
  kind:Int
  op:Int
  not_:Bool
  value:bH
  qual:(List UInt8)
  name:(List UInt8)
  kids:(List eO)
  sub:(List iJ)
structure nD where
  star:Bool
  qual:(List UInt8)
  expr:eO
  as_:(List UInt8)
structure iJ where
  distinct:Bool
  items:(List nD)
  from_:(List mK)
  where_:(List eO)
  order:(List mV)
  limit:Int
structure mV where
  expr:eO
  desc:Bool
structure mK where
  table:(List UInt8)
  as_:(List UInt8)
  on_:(List eO)
end
instance:Inhabited eO:=⟨(eO.mk 0 0 false (bH.mk 0 0 []) [] [] [] [])⟩
instance:Inhabited nD:=⟨(nD.mk false [] (eO.mk 0 0 false (bH.mk 0 0 []) [] [] [] []) [])⟩
instance:Inhabited iJ:=⟨(iJ.mk false [] [] [] [] 0)⟩
instance:Inhabited mV:=⟨(mV.mk (eO.mk 0 0 false (bH.mk 0 0 []) [] [] [] []) false)⟩
instance:Inhabited mK:=⟨(mK.mk [] [] [])⟩
structure jO where
  op:Bool
  not_:Bool
  value:Bool
  name:Bool
  least:Int
  most:Int
  subs:Int
instance:Inhabited jO:=⟨(jO.mk false false false false 0 0 0)⟩
def okGValue (x:bH):Prop:=okI x.kind∧okI x.num∧okS x.text
mutual
def okGPExpr:aA→Prop
  | ⟨a0,a1,a2,a3,a4,a5,a6,a7⟩=>okI a0∧okI a1∧okB a2∧okGValue a3∧okI a4∧okI a5∧(a6.length≤9223372036854775807∧okLGPExpr a6)∧(a7.length≤9223372036854775807∧okLGPlan a7)
def okGPSort:bO→Prop
  | ⟨a0,a1⟩=>okGPExpr a0∧okB a1
def okGPlan:aL→Prop
  | ⟨a0,a1,a2,a3,a4,a5,a6,a7⟩=>(okL okI) a0∧(a1.length≤9223372036854775807∧okLLGPExpr a1)∧(a2.length≤9223372036854775807∧okLGPExpr a2)∧(a3.length≤9223372036854775807∧okLGPSort a3)∧(a4.length≤9223372036854775807∧okLGPExpr a4)∧(okL okS) a5∧okB a6∧okI a7
def okLGPExpr:List aA→Prop
  | []=>True
  | x::l=>okGPExpr x∧okLGPExpr l
def okLGPSort:List bO→Prop
  | []=>True
  | x::l=>okGPSort x∧okLGPSort l
def okLGPlan:List aL→Prop
  | []=>True
  | x::l=>okGPlan x∧okLGPlan l
def okLLGPExpr:List (List aA)→Prop
  | []=>True
  | x::l=>(x.length≤9223372036854775807∧okLGPExpr x)∧okLLGPExpr l
end
def okGSPlan (x:bC):Prop:=okI x.kind∧okGPlan x.plan∧okI x.table∧(okL (okL okGPExpr)) x.rows∧(okL okI) x.cols∧(okL okGPExpr) x.sets∧(okL okGPExpr) x.where_
def okGCol (x:bV):Prop:=okS x.name∧okI x.type
def okGTable (x:bI):Prop:=okS x.name∧(okL okGCol) x.cols
def okGCatalog (x:aP):Prop:=(okL okGTable) x.tables
def okGL1Cur (x:aB):Prop:=(okL okU8) x.b∧okI x.i∧okI x.h
mutual
def okGExpr:eO→Prop
  | ⟨a0,a1,a2,a3,a4,a5,a6,a7⟩=>okI a0∧okI a1∧okB a2∧okGValue a3∧okS a4∧okS a5∧(a6.length≤9223372036854775807∧okLGExpr a6)∧(a7.length≤9223372036854775807∧okLGQuery a7)
def okGItem:nD→Prop
  | ⟨a0,a1,a2,a3⟩=>okB a0∧okS a1∧okGExpr a2∧okS a3
def okGQuery:iJ→Prop
  | ⟨a0,a1,a2,a3,a4,a5⟩=>okB a0∧(a1.length≤9223372036854775807∧okLGItem a1)∧(a2.length≤9223372036854775807∧okLGSource a2)∧(a3.length≤9223372036854775807∧okLGExpr a3)∧(a4.length≤9223372036854775807∧okLGSortKey a4)∧okI a5
def okGSortKey:mV→Prop
  | ⟨a0,a1⟩=>okGExpr a0∧okB a1
def okGSource:mK→Prop
  | ⟨a0,a1,a2⟩=>okS a0∧okS a1∧(a2.length≤9223372036854775807∧okLGExpr a2)
def okLGExpr:List eO→Prop
  | []=>True
  | x::l=>okGExpr x∧okLGExpr l
def okLGItem:List nD→Prop
  | []=>True
  | x::l=>okGItem x∧okLGItem l
def okLGQuery:List iJ→Prop
  | []=>True
  | x::l=>okGQuery x∧okLGQuery l
def okLGSortKey:List mV→Prop
  | []=>True
  | x::l=>okGSortKey x∧okLGSortKey l
def okLGSource:List mK→Prop
  | []=>True
  | x::l=>okGSource x∧okLGSource l
end
def okGForm (x:jO):Prop:=okB x.op∧okB x.not_∧okB x.value∧okB x.name∧okI x.least∧okI x.most∧okI x.subs
def aEs (p0:Int):Option Bool :=
  (some (if (decide (0≤p0))=true then (decide (p0≤3)) else false))>>=fun y1=>some y1
def Y5 (p0:Int) (p1:Int):Option (Int×Bool) :=
  (aEs p0)>>=fun y1=>(if (true&&((!y1)==false))=true then aEs p1 else some default)>>=fun y2=>(some (if (!y1)=true then true else (!y2)))>>=fun y3=>if y3=true then (some (0,false)) else (if (decide (p0=0))=true then (some (p1,true)) else ((some (if (decide (p1=0))=true then true else (decide (p0=p1))))>>=fun y4=>if y4=true then (some (p0,true)) else (some (0,false))))
def aEc (p0:bH):Option Bool :=
  if (decide (p0.kind=0))=true then ((some (if (decide (p0.num=0))=true then (decide (p0.text=[])) else false))>>=fun y1=>some y1) else (if (decide (p0.kind=1))=true then (some (decide (p0.text=[]))) else (if (decide (p0.kind=2))=true then ((some (if (decide (p0.num=0))=true then (decide ((p0.text.length:Int)≤200)) else false))>>=fun y2=>some y2) else (if (decide (p0.kind=3))=true then ((some (if (decide (p0.num=0))=true then true else (decide (p0.num=1))))>>=fun y3=>(some (if y3=true then (decide (p0.text=[])) else false))>>=fun y4=>some y4) else (some false))))
def aBg (p0:bH):Option Bool :=
  (aEc p0)>>=fun y1=>(if (true&&(y1==true))=true then some (if (!decide (p0.kind=1))=true then true else (decide (0≤p0.num))) else some default)>>=fun y2=>(some (if y1=true then y2 else false))>>=fun y3=>(some (if y3=true then (decide ((p0.text.length:Int)≤40)) else false))>>=fun y4=>some y4
def oU (p0:List UInt8):Option Bool :=
  (some (if (decide (1≤(p0.length:Int)))=true then (decide ((p0.length:Int)≤20)) else false))>>=fun y1=>some y1
def O6 (p0:eO):Option (jO×Bool) :=
  if (decide (p0.kind=1))=true then ((aBg p0.value)>>=fun y1=>some ((jO.mk false false true false 0 0 0),y1)) else (if (decide (p0.kind=2))=true then ((oU p0.name)>>=fun y2=>(if ((true&&(y2==true))&&((decide (p0.qual=[]))==false))=true then oU p0.qual else some default)>>=fun y3=>(if (true&&(y2==true))=true then some (if (decide (p0.qual=[]))=true then true else y3) else some default)>>=fun y4=>(some (if y2=true then y4 else false))>>=fun y5=>some ((jO.mk false false false true 0 0 0),y5)) else (if (decide (p0.kind=3))=true then ((some (if (decide (p0.op=15))=true then true else (decide (p0.op=16))))>>=fun y6=>some ((jO.mk true false false false 1 1 0),y6)) else (if (decide (p0.kind=4))=true then ((some (if (decide (1≤p0.op))=true then (decide (p0.op≤14)) else false))>>=fun y7=>some ((jO.mk true false false false 2 2 0),y7)) else (if (decide (p0.kind=5))=true then (some ((jO.mk false true false false 1 1 0),true)) else (if (decide (p0.kind=6))=true then (some ((jO.mk false true false false 3 3 0),true)) else (if (decide (p0.kind=7))=true then (some ((jO.mk false true false false 2 9 0),true)) else (if (decide (p0.kind=8))=true then (some ((jO.mk false true false false 1 1 1),true)) else (if (decide (p0.kind=9))=true then (some ((jO.mk false false false false 0 0 1),true)) else (some ((jO.mk false false false false 0 0 0),false))))))))))
def aBn (p0:aA):Option Bool :=
  (O6 (eO.mk p0.kind p0.op false p0.value [] [120] ([]:List eO) ([]:List iJ)))>>=fun y1=>(if (true&&(y1.2==true))=true then some (if y1.1.op=true then true else (decide (p0.op=0))) else some default)>>=fun y2=>(some (if y1.2=true then y2 else false))>>=fun y3=>(if (true&&(y3==true))=true then some (if y1.1.not_=true then true else (!p0.not_)) else some default)>>=fun y4=>(some (if y3=true then y4 else false))>>=fun y5=>(if (true&&(y5==true))=true then some (if y1.1.value=true then true else ((decide (p0.value.kind=0))&&((decide (p0.value.num=0))&&((decide (p0.value.text=[]))&&true)))) else some default)>>=fun y6=>(some (if y5=true then y6 else false))>>=fun y7=>(if ((true&&(y7==true))&&(y1.1.name==false))=true then some (if (decide (p0.up=0))=true then (decide (p0.at_=0)) else false) else some default)>>=fun y8=>(if (true&&(y7==true))=true then some (if y1.1.name=true then true else y8) else some default)>>=fun y9=>(some (if y7=true then y9 else false))>>=fun y10=>(some (if y10=true then (decide (y1.1.least≤(p0.kids.length:Int))) else false))>>=fun y11=>(some (if y11=true then (decide ((p0.kids.length:Int)≤y1.1.most)) else false))>>=fun y12=>(some (if y12=true then (decide ((p0.sub.length:Int)=y1.1.subs)) else false))>>=fun y13=>some y13
def aDi (p0:List aA):Option Bool :=
  some (decide (1<(p0.length:Int)))
def zB (p0:List (List aA)) (x8:Int):Option Int :=
  if (decide (x8<(p0.length:Int)))=true then ((idx p0 x8)>>=fun y1=>(aDi y1)>>=fun y2=>if y2=true then (some x8) else (zB p0 (IntKind.wrap .i64 (x8+1)))) else (some (-1))
  partial_fixpoint
def aGv (p0:List (List aA)):Option Int :=
  zB p0 0
def aEk (p0:List (List aA)):Option Bool :=
  (aGv p0)>>=fun y1=>some (decide (0≤y1))
def aCx (p0:List UInt8):Option Bool :=
  (oU p0)>>=fun y1=>some (!y1)
def yU (p0:List (List UInt8)) (x8:Int):Option Int :=
  if (decide (x8<(p0.length:Int)))=true then ((idx p0 x8)>>=fun y1=>(aCx y1)>>=fun y2=>if y2=true then (some x8) else (yU p0 (IntKind.wrap .i64 (x8+1)))) else (some (-1))
  partial_fixpoint
def aMg (p0:List (List UInt8)):Option Int :=
  yU p0 0
def aD4 (p0:List (List UInt8)):Option Bool :=
  (aMg p0)>>=fun y1=>some (decide (0≤y1))
def aCy (p0:aL):Option Bool :=
  (some (if (decide ((p0.tables.length:Int)<1))=true then true else (decide (3<(p0.tables.length:Int)))))>>=fun y1=>(some (if y1=true then true else (!decide ((p0.on_.length:Int)=(p0.tables.length:Int)))))>>=fun y2=>(if (true&&(y2==false))=true then idx p0.on_ 0 else some default)>>=fun y3=>(some (if y2=true then true else (decide (0<(y3.length:Int)))))>>=fun y4=>(some (if y4=true then true else (decide (1<(p0.where_.length:Int)))))>>=fun y5=>(some (if y5=true then true else (decide (12<(p0.order.length:Int)))))>>=fun y6=>if y6=true then (some false) else ((some (if (decide (1≤(p0.items.length:Int)))=true then (decide ((p0.items.length:Int)≤12)) else false))>>=fun y7=>(some (if y7=true then (decide ((p0.names.length:Int)=(p0.items.length:Int))) else false))>>=fun y8=>(some (if y8=true then (decide ((-1)≤p0.limit)) else false))>>=fun y9=>(if (true&&(y9==true))=true then aEk p0.on_ else some default)>>=fun y10=>(some (if y9=true then (!y10) else false))>>=fun y11=>(if (true&&(y11==true))=true then aD4 p0.names else some default)>>=fun y12=>(some (if y11=true then (!y12) else false))>>=fun y13=>some y13)
def U4 (p0:Int):Option Bool :=
  (some (if (decide (p0=0))=true then true else (decide (p0=3))))>>=fun y1=>some y1
def aAh (p0:List Int) (p1:List (List Int)):Option (List (List Int)) :=
  (appG 24 ([p0]:List (List Int)) p1)>>=fun y1=>some y1
def K7 (p0:bI) (x3:List Int) (x10:Int):Option (List Int) :=
  if (decide (x10<(p0.cols.length:Int)))=true then ((idx p0.cols x10)>>=fun y1=>(appG 8 x3 ([y1.type]:List Int))>>=fun y2=>K7 p0 y2 (IntKind.wrap .i64 (x10+1))) else (some x3)
  partial_fixpoint
def aBu (p0:bI):Option (List Int) :=
  K7 p0 ([]:List Int) 0
def I4 (p1:List Int) (p0:aP) (x6:List Int) (x12:Int):Option ((List Int)×Bool) :=
  if (decide (x12<(p1.length:Int)))=true then ((idx p1 x12)>>=fun y1=>(some (if (decide (y1<0))=true then true else (decide ((p0.tables.length:Int)≤y1))))>>=fun y2=>if y2=true then (some (([]:List Int),false)) else ((idx p0.tables y1)>>=fun y3=>(aBu y3)>>=fun y4=>(appG 8 x6 y4)>>=fun y5=>I4 p1 p0 y5 (IntKind.wrap .i64 (x12+1)))) else (some (x6,true))
  partial_fixpoint
def aC6 (p0:aP) (p1:List Int):Option ((List Int)×Bool) :=
  I4 p1 p0 ([]:List Int) 0
def P6 (p0:Int) (p1:Int) (p2:Int):Option Bool :=
  (some (if (decide (p1=p0))=true then true else (decide (p1=0))))>>=fun y1=>(if (true&&(y1==true))=true then some (if (decide (p2=p0))=true then true else (decide (p2=0))) else some default)>>=fun y2=>(some (if y1=true then y2 else false))>>=fun y3=>some y3
def C9 (x8:Int) (x9:Bool):Option (Int×Bool) :=
  if (!x9)=true then (some (0,false)) else (some (x8,true))
def aDc (p0:Int) (p1:Int) (p2:Int):Option (Int×Bool) :=
  (some (if (decide (p0<1))=true then true else (decide (14<p0))))>>=fun y1=>if y1=true then (C9 0 false) else (if (decide (p0≤2))=true then ((U4 p1)>>=fun y2=>(if (true&&(y2==true))=true then U4 p2 else some default)>>=fun y3=>(some (if y2=true then y3 else false))>>=fun y4=>C9 3 y4) else (if (decide (p0≤8))=true then ((Y5 p1 p2)>>=fun y5=>C9 3 y5.2) else (if (decide (p0=9))=true then ((P6 2 p1 p2)>>=fun y6=>C9 2 y6) else ((P6 1 p1 p2)>>=fun y7=>C9 1 y7))))
def aE3 (p0:List Int):Option (List Int) :=
  if (decide ((p0.length:Int)=0))=true then (some ([]:List Int)) else ((appG 8 ([]:List Int) p0)>>=fun y1=>some y1)
def J8 (p0:List Int) (x4:Int) (x11:Int):Option (Int×Bool) :=
  if (decide (x11<(p0.length:Int)))=true then ((idx p0 x11)>>=fun y1=>(Y5 x4 y1)>>=fun y2=>if (!y2.2)=true then (some (0,false)) else (J8 p0 y2.1 (IntKind.wrap .i64 (x11+1)))) else (some (x4,true))
  partial_fixpoint
def aFg (p0:List Int):Option (Int×Bool) :=
  J8 p0 0 0
def D5 (p1:List Int) (p2:List Int) (x40:Bool):Option (Int×Bool) :=
  if x40=true then (some (3,true)) else ((aE3 p1)>>=fun y6=>(appG 8 y6 p2)>>=fun y7=>(aFg y7)>>=fun y8=>if (!y8.2)=true then (some (0,false)) else (some (3,true)))
def aDp (p0:Int) (p1:Int):Option (Int×Bool) :=
  (if (true&&((decide (p0=15))==true))=true then U4 p1 else some default)>>=fun y1=>(some (if (decide (p0=15))=true then y1 else false))>>=fun y2=>if y2=true then (some (3,true)) else ((if (true&&((decide (p0=16))==true))=true then P6 1 p1 p1 else some default)>>=fun y3=>(some (if (decide (p0=16))=true then y3 else false))>>=fun y4=>if y4=true then (some (1,true)) else (some (0,false)))
def rU (p0:aA) (p1:List Int) (p2:List Int):Option (Int×Bool) :=
  if (decide (p0.kind=1))=true then (some (p0.value.kind,true)) else (if (decide (p0.kind=3))=true then ((idx p1 0)>>=fun y1=>(aDp p0.op y1)>>=fun y2=>some (y2.1,y2.2)) else (if (decide (p0.kind=4))=true then ((idx p1 0)>>=fun y3=>(idx p1 1)>>=fun y4=>(aDc p0.op y3 y4)>>=fun y5=>some (y5.1,y5.2)) else (if (decide (p0.kind=5))=true then (D5 p1 p2 (decide (p0.kind=5))) else (D5 p1 p2 (decide (p0.kind=9))))))
mutual
def yD (y9:List (List Int)) (p2:aL) (p0:aP) (x19:List Int) (x95:Int):Option ((List Int)×Bool) :=
  if (decide (x95<(p2.items.length:Int)))=true then ((idx p2.items x95)>>=fun y13=>(xP p0 y9 y13)>>=fun y14=>if (!y14.2)=true then (some (([]:List Int),false)) else ((appG 8 x19 ([y14.1]:List Int))>>=fun y15=>yD y9 p2 p0 y15 (IntKind.wrap .i64 (x95+1)))) else (some (x19,true))
  partial_fixpoint
def zX (y9:List (List Int)) (p2:aL) (p0:aP) (x76:Int):Option ((List Int)×Bool) :=
  if (decide (x76<(p2.order.length:Int)))=true then ((idx p2.order x76)>>=fun y11=>(xP p0 y9 y11.expr)>>=fun y12=>if (!y12.2)=true then (some (([]:List Int),false)) else (zX y9 p2 p0 (IntKind.wrap .i64 (x76+1)))) else (yD y9 p2 p0 ([]:List Int) 0)
  partial_fixpoint
def aLd (p0:aA) (p1:aP) (c1_0:List (List Int)):Option Bool :=
  (xP p1 c1_0 p0)>>=fun y1=>(if (true&&((!y1.2)==false))=true then U4 y1.1 else some default)>>=fun y2=>(some (if (!y1.2)=true then true else (!y2)))>>=fun y3=>some y3
  partial_fixpoint
def X4 (p0:List aA) (c0:aP) (c1_0:List (List Int)) (x8:Int):Option Int :=
  if (decide (x8<(p0.length:Int)))=true then ((idx p0 x8)>>=fun y1=>(aLd y1 c0 c1_0)>>=fun y2=>if y2=true then (some x8) else (X4 p0 c0 c1_0 (IntKind.wrap .i64 (x8+1)))) else (some (-1))
  partial_fixpoint
def aNa (p0:List aA) (c0:aP) (c1_0:List (List Int)):Option Int :=
  X4 p0 c0 c1_0 0
  partial_fixpoint
def aMy (p0:List aA) (c0:aP) (c1_0:List (List Int)):Option Bool :=
  (aNa p0 c0 c1_0)>>=fun y1=>some (decide (0≤y1))
  partial_fixpoint
def Y8 (p0:aP) (p1:List (List Int)) (p2:List aA):Option Bool :=
  (aMy p2 p0 p1)>>=fun y1=>some (!y1)
  partial_fixpoint
def V4 (p1:List (List Int)) (y1:(List Int)×Bool) (p2:aL) (p0:aP) (x41:Int):Option ((List Int)×Bool) :=
  if (decide (x41<(p2.on_.length:Int)))=true then ((idx p2.on_ x41)>>=fun y4=>(pY p2.tables 0 (IntKind.wrap .i64 (x41+1)))>>=fun y5=>(aC6 p0 y5)>>=fun y6=>(aAh y6.1 p1)>>=fun y7=>(Y8 p0 y7 y4)>>=fun y8=>if (!y8)=true then (some (([]:List Int),false)) else (V4 p1 y1 p2 p0 (IntKind.wrap .i64 (x41+1)))) else ((aAh y1.1 p1)>>=fun y9=>(Y8 p0 y9 p2.where_)>>=fun y10=>if (!y10)=true then (some (([]:List Int),false)) else (zX y9 p2 p0 0))
  partial_fixpoint
def aAp (p0:aP) (p1:List (List Int)) (p2:aL):Option ((List Int)×Bool) :=
  (aC6 p0 p2.tables)>>=fun y1=>(if (true&&((!y1.2)==false))=true then aCy p2 else some default)>>=fun y2=>(some (if (!y1.2)=true then true else (!y2)))>>=fun y3=>if y3=true then (some (([]:List Int),false)) else (V4 p1 y1 p2 p0 0)
  partial_fixpoint
def wE (p1:List (List Int)) (x8:List Int) (p2:aA) (p0:aP) (x9:List Int) (x85:Int):Option (Int×Bool) :=
  if (decide (x85<(p2.sub.length:Int)))=true then ((idx p2.sub x85)>>=fun y11=>(aAp p0 p1 y11)>>=fun y12=>(if (true&&((!y12.2)==false))=true then some (if (decide (p2.kind=8))=true then (!decide ((y12.1.length:Int)=1)) else false) else some default)>>=fun y13=>(some (if (!y12.2)=true then true else y13))>>=fun y14=>if y14=true then (some (0,false)) else (wE p1 x8 p2 p0 y12.1 (IntKind.wrap .i64 (x85+1)))) else ((rU p2 x8 x9)>>=fun y15=>some (y15.1,y15.2))
  partial_fixpoint
def qU (p1:List (List Int)) (p2:aA) (p0:aP) (x8:List Int) (x64:Int):Option (Int×Bool) :=
  if (decide (x64<(p2.kids.length:Int)))=true then ((idx p2.kids x64)>>=fun y8=>(xP p0 p1 y8)>>=fun y9=>if (!y9.2)=true then (some (0,false)) else ((appG 8 x8 ([y9.1]:List Int))>>=fun y10=>qU p1 p2 p0 y10 (IntKind.wrap .i64 (x64+1)))) else (wE p1 x8 p2 p0 ([]:List Int) 0)
  partial_fixpoint
def xP (p0:aP) (p1:List (List Int)) (p2:aA):Option (Int×Bool) :=
  (aBn p2)>>=fun y1=>if (!y1)=true then (some (0,false)) else (if (decide (p2.kind=2))=true then ((some (if (decide (p2.up<0))=true then true else (decide ((p1.length:Int)≤p2.up))))>>=fun y2=>(some (if y2=true then true else (decide (p2.at_<0))))>>=fun y3=>(if (true&&(y3==false))=true then idx p1 p2.up else some default)>>=fun y4=>(some (if y3=true then true else (decide ((y4.length:Int)≤p2.at_))))>>=fun y5=>if y5=true then (some (0,false)) else ((idx p1 p2.up)>>=fun y6=>(idx y6 p2.at_)>>=fun y7=>some (y7,true))) else (qU p1 p2 p0 ([]:List Int) 0))
  partial_fixpoint
end
def aBv (p0:aP) (p1:List (List Int)) (p2:aA) (p3:Int):Option Bool :=
  (xP p0 p1 p2)>>=fun y1=>if (!y1.2)=true then (some false) else ((Y5 y1.1 p3)>>=fun y2=>some y2.2)
mutual
def K3 (p1:List Int) (p2:List (List aA)) (x13:Int) (y1:List aA) (p0:aP) (x24:Int):Option Bool :=
  if (decide (x24<(y1.length:Int)))=true then ((idx y1 x24)>>=fun y3=>(idx p1 x24)>>=fun y4=>(aBv p0 ([]:List (List Int)) y3 y4)>>=fun y5=>if (!y5)=true then (some false) else (K3 p1 p2 x13 y1 p0 (IntKind.wrap .i64 (x24+1)))) else (I8 p1 p2 p0 (IntKind.wrap .i64 (x13+1)))
  partial_fixpoint
def I8 (p1:List Int) (p2:List (List aA)) (p0:aP) (x13:Int):Option Bool :=
  if (decide (x13<(p2.length:Int)))=true then ((idx p2 x13)>>=fun y1=>if (!decide ((y1.length:Int)=(p1.length:Int)))=true then (some false) else (K3 p1 p2 x13 y1 p0 0)) else ((some (if (decide (1≤(p2.length:Int)))=true then (decide ((p2.length:Int)≤5)) else false))>>=fun y2=>some y2)
  partial_fixpoint
end
def aJo (p0:aP) (p1:List Int) (p2:List (List aA)):Option Bool :=
  I8 p1 p2 p0 0
def H9 (p0:List Int) (p1:Int) (x8:Int):Option Int :=
  if (decide (x8<(p0.length:Int)))=true then ((idx p0 x8)>>=fun y1=>if (decide (p1=y1))=true then (some x8) else (H9 p0 p1 (IntKind.wrap .i64 (x8+1)))) else (some (-1))
  partial_fixpoint
def aGg (p0:List Int) (p1:Int):Option Int :=
  H9 p0 p1 0
def aFj (p0:List Int) (p1:Int):Option Bool :=
  (aGg p0 p1)>>=fun y1=>some (decide (0≤y1))
def xV (p1:List Int) (p2:bC) (p0:aP) (x31:Int):Option Bool :=
  if (decide (x31<(p2.cols.length:Int)))=true then ((idx p2.cols x31)>>=fun y3=>(some (if (decide (y3<0))=true then true else (decide ((p1.length:Int)≤y3))))>>=fun y4=>(if (true&&(y4==false))=true then pY p2.cols 0 x31 else some default)>>=fun y5=>(if (true&&(y4==false))=true then aFj y5 y3 else some default)>>=fun y6=>(some (if y4=true then true else y6))>>=fun y7=>(if (true&&(y7==false))=true then idx p2.sets x31 else some default)>>=fun y8=>(if (true&&(y7==false))=true then idx p1 y3 else some default)>>=fun y9=>(if (true&&(y7==false))=true then aBv p0 ([p1]:List (List Int)) y8 y9 else some default)>>=fun y10=>(some (if y7=true then true else (!y10)))>>=fun y11=>if y11=true then (some false) else (xV p1 p2 p0 (IntKind.wrap .i64 (x31+1)))) else (some true)
  partial_fixpoint
def aGy (p0:aP) (p1:List Int) (p2:bC):Option Bool :=
  (some (if (decide ((p2.cols.length:Int)<1))=true then true else (decide (12<(p2.cols.length:Int)))))>>=fun y1=>(some (if y1=true then true else (!decide ((p2.sets.length:Int)=(p2.cols.length:Int)))))>>=fun y2=>if y2=true then (some false) else (xV p1 p2 p0 0)
def aN2 (p0:bV) (c0_0:List UInt8):Option Bool :=
  some (decide (p0.name=c0_0))
def H5 (p0:List bV) (c0_0:List UInt8) (x8:Int):Option Int :=
  if (decide (x8<(p0.length:Int)))=true then ((idx p0 x8)>>=fun y1=>(aN2 y1 c0_0)>>=fun y2=>if y2=true then (some x8) else (H5 p0 c0_0 (IntKind.wrap .i64 (x8+1)))) else (some (-1))
  partial_fixpoint
def aNd (p0:List bV) (c0_0:List UInt8):Option Int :=
  H5 p0 c0_0 0
def aDv (p0:bI) (p1:List UInt8):Option Int :=
  (aNd p0.cols p1)>>=fun y1=>some y1
def I5 (p0:bI) (x8:Int):Option Bool :=
  if (decide (x8<(p0.cols.length:Int)))=true then ((idx p0.cols x8)>>=fun y1=>(oU y1.name)>>=fun y2=>(some (if (!y2)=true then true else (decide (y1.type<1))))>>=fun y3=>(some (if y3=true then true else (decide (3<y1.type))))>>=fun y4=>(if (true&&(y4==false))=true then aDv p0 y1.name else some default)>>=fun y5=>(some (if y4=true then true else (!decide (y5=x8))))>>=fun y6=>if y6=true then (some false) else (I5 p0 (IntKind.wrap .i64 (x8+1)))) else ((oU p0.name)>>=fun y7=>(some (if y7=true then (decide (1≤(p0.cols.length:Int))) else false))>>=fun y8=>(some (if y8=true then (decide ((p0.cols.length:Int)≤4)) else false))>>=fun y9=>some y9)
  partial_fixpoint
def aCp (p0:bI):Option Bool :=
  I5 p0 0
def aNc (p0:bI) (c0_0:List UInt8):Option Bool :=
  some (decide (p0.name=c0_0))
def E5 (p0:List bI) (c0_0:List UInt8) (x8:Int):Option Int :=
  if (decide (x8<(p0.length:Int)))=true then ((idx p0 x8)>>=fun y1=>(aNc y1 c0_0)>>=fun y2=>if y2=true then (some x8) else (E5 p0 c0_0 (IntKind.wrap .i64 (x8+1)))) else (some (-1))
  partial_fixpoint
def aKj (p0:List bI) (c0_0:List UInt8):Option Int :=
  E5 p0 c0_0 0
def aCq (p0:aP) (p1:List UInt8):Option Int :=
  (aKj p0.tables p1)>>=fun y1=>some y1
def J9 (p0:aP) (x8:Int):Option Bool :=
  if (decide (x8<(p0.tables.length:Int)))=true then ((idx p0.tables x8)>>=fun y1=>(aCp y1)>>=fun y2=>(if (true&&((!y2)==false))=true then aCq p0 y1.name else some default)>>=fun y3=>(some (if (!y2)=true then true else (!decide (y3=x8))))>>=fun y4=>if y4=true then (some false) else (J9 p0 (IntKind.wrap .i64 (x8+1)))) else (some (decide ((p0.tables.length:Int)≤4)))
  partial_fixpoint
def aBq (p0:aP):Option Bool :=
  J9 p0 0
def xG (p0:aL) (eY:List aA) (x27:Int):Option (List aA) :=
  if (decide (x27<(p0.order.length:Int)))=true then ((idx p0.order x27)>>=fun y5=>(appG 120 eY ([y5.expr]:List aA))>>=fun y6=>xG p0 y6 (IntKind.wrap .i64 (x27+1))) else ((appG 120 eY p0.items)>>=fun y7=>some y7)
  partial_fixpoint
def Y2 (p0:aL) (x3:List aA) (x12:Int):Option (List aA) :=
  if (decide (x12<(p0.on_.length:Int)))=true then ((idx p0.on_ x12)>>=fun y1=>(appG 120 x3 y1)>>=fun y2=>Y2 p0 y2 (IntKind.wrap .i64 (x12+1))) else ((appG 120 x3 p0.where_)>>=fun y3=>xG p0 y3 0)
  partial_fixpoint
def aBk (p0:aL):Option (List aA) :=
  Y2 p0 ([]:List aA) 0
mutual
def tC (p0:aL):Option Int :=
  (aBk p0)>>=fun y1=>(wN y1)>>=fun y2=>some y2
  partial_fixpoint
def aBj (p0:aA) (x3:Int) (x12:Int):Option Int :=
  if (decide (x12<(p0.sub.length:Int)))=true then ((idx p0.sub x12)>>=fun y2=>(tC y2)>>=fun y3=>aBj p0 (if y3 > x3 then y3 else x3) (IntKind.wrap .i64 (x12+1))) else (some (IntKind.wrap .i64 (1+x3)))
  partial_fixpoint
def A8 (p0:aA):Option Int :=
  (wN p0.kids)>>=fun y1=>aBj p0 y1 0
  partial_fixpoint
def U9 (p0:List aA) (x3:Int) (x8:Int):Option Int :=
  if (decide (x8<(p0.length:Int)))=true then ((idx p0 x8)>>=fun y1=>(A8 y1)>>=fun y2=>U9 p0 (if y2 > x3 then y2 else x3) (IntKind.wrap .i64 (x8+1))) else (some x3)
  partial_fixpoint
def wN (p0:List aA):Option Int :=
  U9 p0 0 0
  partial_fixpoint
end
def aAl (p0:Int) (p1:Int):Option Bool :=
  (some (if (decide (p0≤24))=true then (decide (p1≤200)) else false))>>=fun y1=>some y1
def G8 (p0:List Int) (p1:List Int) (x13:Int):Option Bool :=
  if (decide (x13<(p0.length:Int)))=true then ((idx p0 x13)>>=fun y1=>(idx p1 x13)>>=fun y2=>if (!decide (y1=y2))=true then (some false) else (G8 p0 p1 (IntKind.wrap .i64 (x13+1)))) else (some true)
  partial_fixpoint
def zI (p0:List Int) (p1:List Int):Option Bool :=
  if (!decide ((p0.length:Int)=(p1.length:Int)))=true then (some false) else (G8 p0 p1 0)
def zO (p0:List (List UInt8)) (p1:List (List UInt8)) (x13:Int):Option Bool :=
  if (decide (x13<(p0.length:Int)))=true then ((idx p0 x13)>>=fun y1=>(idx p1 x13)>>=fun y2=>if (!decide (y1=y2))=true then (some false) else (zO p0 p1 (IntKind.wrap .i64 (x13+1)))) else (some true)
  partial_fixpoint
def Q4 (p0:List (List UInt8)) (p1:List (List UInt8)):Option Bool :=
  if (!decide ((p0.length:Int)=(p1.length:Int)))=true then (some false) else (zO p0 p1 0)
mutual
def aBs (p0:bO) (p1:bO):Option Bool :=
  (if (true&&((p0.desc==p1.desc)==true))=true then Z5 p0.expr p1.expr else some default)>>=fun y1=>(some (if (p0.desc==p1.desc)=true then y1 else false))>>=fun y2=>some y2
  partial_fixpoint
def Q9 (p1:List bO) (p0:List bO) (x17:Int):Option Bool :=
  if (decide (x17<(p0.length:Int)))=true then ((idx p0 x17)>>=fun y1=>(idx p1 x17)>>=fun y2=>(aBs y1 y2)>>=fun y3=>if (!y3)=true then (some false) else (Q9 p1 p0 (IntKind.wrap .i64 (x17+1)))) else (some true)
  partial_fixpoint
def N7 (p0:List bO) (p1:List bO):Option Bool :=
  if (!decide ((p0.length:Int)=(p1.length:Int)))=true then (some false) else (Q9 p1 p0 0)
  partial_fixpoint
def aCj (p1:List aL) (p0:List aL) (x17:Int):Option Bool :=
  if (decide (x17<(p0.length:Int)))=true then ((idx p0 x17)>>=fun y1=>(idx p1 x17)>>=fun y2=>(vY y1 y2)>>=fun y3=>if (!y3)=true then (some false) else (aCj p1 p0 (IntKind.wrap .i64 (x17+1)))) else (some true)
  partial_fixpoint
def aDt (p0:List aL) (p1:List aL):Option Bool :=
  if (!decide ((p0.length:Int)=(p1.length:Int)))=true then (some false) else (aCj p1 p0 0)
  partial_fixpoint
def Z5 (p0:aA) (p1:aA):Option Bool :=
  (some (if (decide (p0.kind=p1.kind))=true then (decide (p0.op=p1.op)) else false))>>=fun y1=>(some (if y1=true then (p0.not_==p1.not_) else false))>>=fun y2=>(some (if y2=true then ((decide (p0.value.kind=p1.value.kind))&&((decide (p0.value.num=p1.value.num))&&((decide (p0.value.text=p1.value.text))&&true))) else false))>>=fun y3=>(some (if y3=true then (decide (p0.up=p1.up)) else false))>>=fun y4=>(some (if y4=true then (decide (p0.at_=p1.at_)) else false))>>=fun y5=>(if (true&&(y5==true))=true then oV p0.kids p1.kids else some default)>>=fun y6=>(some (if y5=true then y6 else false))>>=fun y7=>(if (true&&(y7==true))=true then aDt p0.sub p1.sub else some default)>>=fun y8=>(some (if y7=true then y8 else false))>>=fun y9=>some y9
  partial_fixpoint
def R9 (p1:List aA) (p0:List aA) (x17:Int):Option Bool :=
  if (decide (x17<(p0.length:Int)))=true then ((idx p0 x17)>>=fun y1=>(idx p1 x17)>>=fun y2=>(Z5 y1 y2)>>=fun y3=>if (!y3)=true then (some false) else (R9 p1 p0 (IntKind.wrap .i64 (x17+1)))) else (some true)
  partial_fixpoint
def aA3 (p0:List aA) (p1:List aA):Option Bool :=
  if (!decide ((p0.length:Int)=(p1.length:Int)))=true then (some false) else (R9 p1 p0 0)
  partial_fixpoint
def oV (p0:List aA) (p1:List aA):Option Bool :=
  (aA3 p0 p1)>>=fun y1=>some y1
  partial_fixpoint
def W9 (p1:List (List aA)) (p0:List (List aA)) (x17:Int):Option Bool :=
  if (decide (x17<(p0.length:Int)))=true then ((idx p0 x17)>>=fun y1=>(idx p1 x17)>>=fun y2=>(oV y1 y2)>>=fun y3=>if (!y3)=true then (some false) else (W9 p1 p0 (IntKind.wrap .i64 (x17+1)))) else (some true)
  partial_fixpoint
def zZ (p0:List (List aA)) (p1:List (List aA)):Option Bool :=
  if (!decide ((p0.length:Int)=(p1.length:Int)))=true then (some false) else (W9 p1 p0 0)
  partial_fixpoint
def vY (p0:aL) (p1:aL):Option Bool :=
  (zI p0.tables p1.tables)>>=fun y1=>(if (true&&(y1==true))=true then zZ p0.on_ p1.on_ else some default)>>=fun y2=>(some (if y1=true then y2 else false))>>=fun y3=>(if (true&&(y3==true))=true then oV p0.where_ p1.where_ else some default)>>=fun y4=>(some (if y3=true then y4 else false))>>=fun y5=>(if (true&&(y5==true))=true then N7 p0.order p1.order else some default)>>=fun y6=>(some (if y5=true then y6 else false))>>=fun y7=>(if (true&&(y7==true))=true then oV p0.items p1.items else some default)>>=fun y8=>(some (if y7=true then y8 else false))>>=fun y9=>(if (true&&(y9==true))=true then Q4 p0.names p1.names else some default)>>=fun y10=>(some (if y9=true then y10 else false))>>=fun y11=>(some (if y11=true then (p0.distinct==p1.distinct) else false))>>=fun y12=>(some (if y12=true then (decide (p0.limit=p1.limit)) else false))>>=fun y13=>some y13
  partial_fixpoint
end
def aCl (p0:aL):Option Bool :=
  (vY p0 (aL.mk ([]:List Int) ([]:List (List aA)) ([]:List aA) ([]:List bO) ([]:List aA) ([]:List (List UInt8)) false 0))>>=fun y1=>some y1
def X3 (p0:bC) (x3:List aA) (x10:Int):Option (List aA) :=
  if (decide (x10<(p0.rows.length:Int)))=true then ((idx p0.rows x10)>>=fun y1=>(appG 120 x3 y1)>>=fun y2=>X3 p0 y2 (IntKind.wrap .i64 (x10+1))) else ((appG 120 x3 p0.sets)>>=fun y3=>(appG 120 y3 p0.where_)>>=fun y4=>some y4)
  partial_fixpoint
def aC3 (p0:bC):Option (List aA) :=
  X3 p0 ([]:List aA) 0
mutual
def tF (p0:aL):Option Int :=
  (aBk p0)>>=fun y1=>(D9 y1)>>=fun y2=>some y2
  partial_fixpoint
def aAq (p0:aA) (x3:Int) (x13:Int):Option Int :=
  if (decide (x13<(p0.sub.length:Int)))=true then ((idx p0.sub x13)>>=fun y2=>(tF y2)>>=fun y3=>aAq p0 (IntKind.wrap .i64 (x3+y3)) (IntKind.wrap .i64 (x13+1))) else (some x3)
  partial_fixpoint
def vP (p0:aA):Option Int :=
  (D9 p0.kids)>>=fun y1=>aAq p0 (IntKind.wrap .i64 (1+y1)) 0
  partial_fixpoint
def aAc (p0:List aA) (x3:Int) (x8:Int):Option Int :=
  if (decide (x8<(p0.length:Int)))=true then ((idx p0 x8)>>=fun y1=>(vP y1)>>=fun y2=>aAc p0 (IntKind.wrap .i64 (x3+y2)) (IntKind.wrap .i64 (x8+1))) else (some x3)
  partial_fixpoint
def D9 (p0:List aA):Option Int :=
  aAc p0 0 0
  partial_fixpoint
end
def aDq (p0:aP) (p1:aL):Option Bool :=
  (aBq p0)>>=fun y1=>(if (true&&((!y1)==false))=true then tC p1 else some default)>>=fun y2=>(if (true&&((!y1)==false))=true then tF p1 else some default)>>=fun y3=>(if (true&&((!y1)==false))=true then aAl y2 y3 else some default)>>=fun y4=>(some (if (!y1)=true then true else (!y4)))>>=fun y5=>if y5=true then (some false) else ((aAp p0 ([]:List (List Int)) p1)>>=fun y6=>some y6.2)
def aE4 (p0:aP) (p1:bC):Option Bool :=
  if (decide (p1.kind=1))=true then ((some (if (decide (p1.table=0))=true then (decide ((p1.rows.length:Int)=0)) else false))>>=fun y1=>(some (if y1=true then (decide ((p1.cols.length:Int)=0)) else false))>>=fun y2=>(some (if y2=true then (decide ((p1.sets.length:Int)=0)) else false))>>=fun y3=>(some (if y3=true then (decide ((p1.where_.length:Int)=0)) else false))>>=fun y4=>(if (true&&(y4==true))=true then aDq p0 p1.plan else some default)>>=fun y5=>(some (if y4=true then y5 else false))>>=fun y6=>some y6) else ((aBq p0)>>=fun y7=>(some (if (!y7)=true then true else (decide (p1.table<0))))>>=fun y8=>(some (if y8=true then true else (decide ((p0.tables.length:Int)≤p1.table))))>>=fun y9=>(if (true&&(y9==false))=true then aCl p1.plan else some default)>>=fun y10=>(some (if y9=true then true else (!y10)))>>=fun y11=>(if (true&&(y11==false))=true then aC3 p1 else some default)>>=fun y12=>(if (true&&(y11==false))=true then wN y12 else some default)>>=fun y13=>(if (true&&(y11==false))=true then aC3 p1 else some default)>>=fun y14=>(if (true&&(y11==false))=true then D9 y14 else some default)>>=fun y15=>(if (true&&(y11==false))=true then aAl y13 y15 else some default)>>=fun y16=>(some (if y11=true then true else (!y16)))>>=fun y17=>if y17=true then (some false) else ((idx p0.tables p1.table)>>=fun y18=>(aBu y18)>>=fun y19=>if (decide (p1.kind=2))=true then ((some (if (decide ((p1.cols.length:Int)=0))=true then (decide ((p1.sets.length:Int)=0)) else false))>>=fun y20=>(some (if y20=true then (decide ((p1.where_.length:Int)=0)) else false))>>=fun y21=>(if (true&&(y21==true))=true then aJo p0 y19 p1.rows else some default)>>=fun y22=>(some (if y21=true then y22 else false))>>=fun y23=>some y23) else ((some (if (decide (0<(p1.rows.length:Int)))=true then true else (decide (1<(p1.where_.length:Int)))))>>=fun y24=>(if (true&&(y24==false))=true then Y8 p0 ([y19]:List (List Int)) p1.where_ else some default)>>=fun y25=>(some (if y24=true then true else (!y25)))>>=fun y26=>if y26=true then (some false) else (if (decide (p1.kind=3))=true then ((aGy p0 y19 p1)>>=fun y27=>some y27) else (if (decide (p1.kind=4))=true then ((some (if (decide ((p1.cols.length:Int)=0))=true then (decide ((p1.sets.length:Int)=0)) else false))>>=fun y28=>some y28) else (some false))))))
def Z7 (p0:bC) (p1:bC):Option Bool :=
  (if (true&&((decide (p0.kind=p1.kind))==true))=true then vY p0.plan p1.plan else some default)>>=fun y1=>(some (if (decide (p0.kind=p1.kind))=true then y1 else false))>>=fun y2=>(some (if y2=true then (decide (p0.table=p1.table)) else false))>>=fun y3=>(if (true&&(y3==true))=true then zZ p0.rows p1.rows else some default)>>=fun y4=>(some (if y3=true then y4 else false))>>=fun y5=>(if (true&&(y5==true))=true then zI p0.cols p1.cols else some default)>>=fun y6=>(some (if y5=true then y6 else false))>>=fun y7=>(if (true&&(y7==true))=true then oV p0.sets p1.sets else some default)>>=fun y8=>(some (if y7=true then y8 else false))>>=fun y9=>(if (true&&(y9==true))=true then oV p0.where_ p1.where_ else some default)>>=fun y10=>(some (if y9=true then y10 else false))>>=fun y11=>some y11
def tZ (cZ:List bI) (bF:List Int) (bA:Int) (bL:Int):Option (aP×aB) :=
  some ((aP.mk cZ),(aB.mk bF bA bL))
mutual
def aB1 (x0:Int) (p0:Int) (x4:List UInt8) (x5:Int):Option (List UInt8) :=
  (ofBytes ([(IntKind.wrap .u8 (IntKind.wrap .i64 (48+x5)))]:List Int))>>=fun y2=>(uI y2 x4)>>=fun y3=>aBf p0 (IntKind.wrap .i64 (Int.tdiv x0 10)) y3
  partial_fixpoint
def aBf (p0:Int) (x0:Int) (x4:List UInt8):Option (List UInt8) :=
  if (!decide (x0=0))=true then (if (decide ((Int.tmod x0 10)<0))=true then (aB1 x0 p0 x4 (IntKind.wrap .i64 (0 - (Int.tmod x0 10)))) else (aB1 x0 p0 x4 (Int.tmod x0 10))) else (if (decide (p0<0))=true then ((uI [45] x4)>>=fun y1=>some y1) else (some x4))
  partial_fixpoint
end
def aDd (p0:Int):Option (List UInt8) :=
  if (decide (p0=0))=true then (some [48]) else (aBf p0 p0 [])
def aD3 (p0:aB) (x3:Int) (bA:Int):Option (Int×aB) :=
  some (x3,(aB.mk p0.b bA (IntKind.wrap .i64 ((IntKind.wrap .i64 (p0.h * 6364136223846793005))+1442695040888963407))))
def uR (p0:aB):Option (Int×aB) :=
  if (decide (p0.i<(p0.b.length:Int)))=true then ((idx p0.b p0.i)>>=fun y1=>aD3 p0 (IntKind.wrap .i64 ((BitVec.ofInt (IntKind.bits .i64) (IntKind.wrap .i64 ((IntKind.wrap .i64 ((BitVec.ofInt (IntKind.bits .i64) (IntKind.wrap .i64 ((BitVec.ofInt (IntKind.bits .i64) (Int.fdiv (IntKind.wrap .i64 ((IntKind.wrap .i64 (p0.h * 6364136223846793005))+1442695040888963407)) (2 ^ 33)) ^^^ BitVec.ofInt (IntKind.bits .i64) (Int.fdiv (IntKind.wrap .i64 ((IntKind.wrap .i64 (p0.h * 6364136223846793005))+1442695040888963407)) (2 ^ 45))).toNat:Int)) &&& BitVec.ofInt (IntKind.bits .i64) 255).toNat:Int))+(IntKind.wrap .i64 y1))) &&& BitVec.ofInt (IntKind.bits .i64) 255).toNat:Int)) (IntKind.wrap .i64 (p0.i+1))) else (aD3 p0 (IntKind.wrap .i64 ((BitVec.ofInt (IntKind.bits .i64) (IntKind.wrap .i64 ((BitVec.ofInt (IntKind.bits .i64) (Int.fdiv (IntKind.wrap .i64 ((IntKind.wrap .i64 (p0.h * 6364136223846793005))+1442695040888963407)) (2 ^ 33)) ^^^ BitVec.ofInt (IntKind.bits .i64) (Int.fdiv (IntKind.wrap .i64 ((IntKind.wrap .i64 (p0.h * 6364136223846793005))+1442695040888963407)) (2 ^ 45))).toNat:Int)) &&& BitVec.ofInt (IntKind.bits .i64) 255).toNat:Int)) p0.i)
def eD (p0:aB) (p1:Int):Option (Int×aB) :=
  if (decide (p1≤0))=true then (some (0,p0)) else (if (decide (p1≤256))=true then ((uR p0)>>=fun y1=>(aCb y1.1 p1)>>=fun y2=>some (y2,y1.2)) else ((uR p0)>>=fun y3=>(uR y3.2)>>=fun y4=>(uR y4.2)>>=fun y5=>(uR y5.2)>>=fun y6=>(aCb (IntKind.wrap .i64 ((IntKind.wrap .i64 ((IntKind.wrap .i64 ((IntKind.wrap .i64 (y3.1 * 16777216))+(IntKind.wrap .i64 (y4.1 * 65536))))+(IntKind.wrap .i64 (y5.1 * 256))))+y6.1)) p1)>>=fun y7=>some (y7,y6.2)))
def H7 (oZ:List Int) (qE:Int) (pU:Int) (jJ:List bI):Option (aP×aB) :=
  (eD (aB.mk oZ qE pU) 2)>>=fun y15=>if (decide ((jJ.length:Int)<(IntKind.wrap .i64 (4+y15.1))))=true then ((aDd (jJ.length:Int))>>=fun y16=>(uI [120] y16)>>=fun y17=>(appG 40 jJ ([(bI.mk y17 ([(bV.mk [97] 1),(bV.mk [98] 1),(bV.mk [99] 2),(bV.mk [100] 3)]:List bV))]:List bI))>>=fun y18=>H7 y15.2.b y15.2.i y15.2.h y18) else (tZ jJ y15.2.b y15.2.i y15.2.h)
  partial_fixpoint
def uU (p1:List UInt8) (p0:bI) (x5:Int):Option Int :=
  if (decide (x5<(p0.cols.length:Int)))=true then ((idx p0.cols x5)>>=fun y1=>if (decide (y1.name=p1))=true then (some x5) else (uU p1 p0 (IntKind.wrap .i64 (x5+1)))) else (some (-1))
  partial_fixpoint
def rO (p0:bI) (p1:List UInt8):Option Int :=
  uU p1 p0 0
def fC (p0:aB) (p1:Int):Option (Bool×aB) :=
  (eD p0 p1)>>=fun y1=>some ((decide (y1.1=0)),y1.2)
def oP (p0:aB) (p1:List (List UInt8)):Option ((List UInt8)×aB) :=
  (eD p0 (p1.length:Int))>>=fun y1=>(idx p1 y1.1)>>=fun y2=>some (y2,y1.2)
def xA (p0:aB) (p1:List Int):Option (Int×aB) :=
  (eD p0 (p1.length:Int))>>=fun y1=>(idx p1 y1.1)>>=fun y2=>some (y2,y1.2)
def vG (p0:aB):Option ((List UInt8)×aB) :=
  (fC p0 6)>>=fun y1=>if y1.1=true then ((oP y1.2 ([[97,32,98],[102,114,111,109],[83,101,108,101,99,116],[49,120],[113,34,113],[0],[34],[105,116,39,115],[120,46,121],[45]]:List (List UInt8)))>>=fun y2=>some (y2.1,y2.2)) else ((oP y1.2 ([[97],[98],[99],[116],[117],[118],[105,100],[110,97,109,101],[65],[95,120,49]]:List (List UInt8)))>>=fun y3=>some (y3.1,y3.2))
mutual
def Q3 (y1:Int×aB) (x6:Int) (y3:Int×aB) (x9:Int) (y2:List UInt8) (oW:List Int) (jW:Int×Int×(List bI)×(((List (List UInt8))×(List bV)))):Option (aP×aB) :=
  O0 y1 x6 y3 y2 jW.2.2.1 jW.2.2.2.1 ((IntKind.wrap .i64 (x9+1)),oW,jW.1,jW.2.1,jW.2.2.2.2)
  partial_fixpoint
def aA4 (y1:Int×aB) (x6:Int) (y3:Int×aB) (x9:Int) (y2:List UInt8) (y8:Int×aB) (mO:List bV) (iB:(List bI)×(((List (List UInt8))×(List UInt8)×(List Int)×Int×Int))):Option (aP×aB) :=
  (rO (bI.mk y2 mO) iB.2.2.1)>>=fun y15=>if (decide (y15<0))=true then ((appG 24 mO ([(bV.mk iB.2.2.1 y8.1)]:List bV))>>=fun y16=>Q3 y1 x6 y3 x9 y2 iB.2.2.2.1 (iB.2.2.2.2.1,iB.2.2.2.2.2,iB.1,iB.2.1,y16)) else (Q3 y1 x6 y3 x9 y2 iB.2.2.2.1 (iB.2.2.2.2.1,iB.2.2.2.2.2,iB.1,iB.2.1,mO))
  partial_fixpoint
def O0 (y1:Int×aB) (x6:Int) (y3:Int×aB) (y2:List UInt8) (gX:List bI) (gI:List (List UInt8)) (kx9:Int×(List Int)×Int×Int×(List bV)):Option (aP×aB) :=
  if (decide (kx9.1<(IntKind.wrap .i64 (1+y3.1))))=true then ((oP (aB.mk kx9.2.1 kx9.2.2.1 kx9.2.2.2.1) ([[97],[98],[99],[105,100],[110,97,109,101]]:List (List UInt8)))>>=fun y7=>(xA y7.2 ([1,1,2,3]:List Int))>>=fun y8=>(fC y8.2 20)>>=fun y9=>if y9.1=true then ((vG y9.2)>>=fun y10=>aA4 y1 x6 y3 kx9.1 y2 y8 kx9.2.2.2.2 (gX,gI,y10.1,y10.2.b,y10.2.i,y10.2.h)) else (aA4 y1 x6 y3 kx9.1 y2 y8 kx9.2.2.2.2 (gX,gI,y7.1,y9.2.b,y9.2.i,y9.2.h))) else ((appG 40 gX ([(bI.mk y2 kx9.2.2.2.2)]:List bI))>>=fun y14=>yM y1 (IntKind.wrap .i64 (x6+1)) kx9.2.1 kx9.2.2.1 kx9.2.2.2.1 y14 (gI.set (x6).toNat y2))
  partial_fixpoint
def yM (y1:Int×aB) (x6:Int) (bF:List Int) (bA:Int) (bL:Int) (gX:List bI) (gI:List (List UInt8)):Option (aP×aB) :=
  if (decide (x6<(IntKind.wrap .i64 (1+y1.1))))=true then ((idx gI x6)>>=fun y2=>(eD (aB.mk bF bA bL) 3)>>=fun y3=>O0 y1 x6 y3 y2 gX gI (0,y3.2.b,y3.2.i,y3.2.h,([]:List bV))) else (some ((aP.mk gX),(aB.mk bF bA bL)))
  partial_fixpoint
end
def aE0 (p0:aB):Option (aP×aB) :=
  (eD p0 3)>>=fun y1=>yM y1 0 y1.2.b y1.2.i y1.2.h ([]:List bI) ([[116],[117],[118]]:List (List UInt8))
def F8 (p1:Int) (x5:List Int) (x6:Int) (bF:List Int) (bA:Int) (bL:Int):Option ((List Int)×aB) :=
  if (decide (x6<p1))=true then ((uR (aB.mk bF bA bL))>>=fun y1=>(appG 1 x5 ([(IntKind.wrap .u8 y1.1)]:List Int))>>=fun y2=>F8 p1 y2 (IntKind.wrap .i64 (x6+1)) y1.2.b y1.2.i y1.2.h) else (some (x5,(aB.mk bF bA bL)))
  partial_fixpoint
def aW4 (p0:aB) (p1:Int):Option ((List Int)×aB) :=
  F8 p1 ([]:List Int) 0 p0.b p0.i p0.h
def aT7:Option (List (List UInt8)) :=
  some ([[],[83,69,76,69,67,84],[68,73,83,84,73,78,67,84],[70,82,79,77],[74,79,73,78],[79,78],[87,72,69,82,69],[79,82,68,69,82],[66,89],[65,83,67],[68,69,83,67],[76,73,77,73,84],[65,83],[65,78,68],[79,82],[78,79,84],[73,83],[73,78],[66,69,84,87,69,69,78],[69,88,73,83,84,83],[78,85,76,76],[84,82,85,69],[70,65,76,83,69],[73,78,83,69,82,84],[73,78,84,79],[86,65,76,85,69,83],[85,80,68,65,84,69],[83,69,84],[68,69,76,69,84,69]]:List (List UInt8))
def aAi (p0:aB):Option ((List UInt8)×aB) :=
  (eD p0 6)>>=fun y1=>if (decide (y1.1=0))=true then ((oP y1.2 ([[],[97,98,99,100,101,102,103,104,105,106,107,108,109,110,111,112,113,114,115,116],[97,98,99,100,101,102,103,104,105,106,107,108,109,110,111,112,113,114,115,116,117],[108,105,109,105,116],[76,73,77,73,84,83],[65,83,99],[57],[97,57],[195,169]]:List (List UInt8)))>>=fun y2=>some (y2.1,y2.2)) else (if (decide (y1.1=1))=true then ((aT7)>>=fun y3=>(eD y1.2 29)>>=fun y4=>(idx y3 y4.1)>>=fun y5=>some (y5,y4.2)) else (if (decide (y1.1=2))=true then ((eD y1.2 5)>>=fun y6=>(aW4 y6.2 y6.1)>>=fun y7=>(ofBytes y7.1)>>=fun y8=>some (y8,y7.2)) else ((vG y1.2)>>=fun y9=>some (y9.1,y9.2))))
def aFs (p0:aB):Option (aP×aB) :=
  (aE0 p0)>>=fun y1=>(eD y1.2 16)>>=fun y2=>if (decide (y2.1=0))=true then ((idx y1.1.tables 0)>>=fun y3=>(appG 40 y1.1.tables ([y3]:List bI))>>=fun y4=>tZ y4 y2.2.b y2.2.i y2.2.h) else (if (decide (y2.1=1))=true then ((idx y1.1.tables 0)>>=fun y5=>(aAi y2.2)>>=fun y6=>(eD y6.2 5)>>=fun y7=>(appG 24 y5.cols ([(bV.mk y6.1 y7.1)]:List bV))>>=fun y8=>tZ (y1.1.tables.set (0:Int).toNat (bI.mk y5.name y8)) y7.2.b y7.2.i y7.2.h) else (if (decide (y2.1=2))=true then ((aAi y2.2)>>=fun y9=>(idx y1.1.tables 0)>>=fun y10=>tZ (y1.1.tables.set (0:Int).toNat (bI.mk y9.1 y10.cols)) y9.2.b y9.2.i y9.2.h) else (if (decide (y2.1=3))=true then ((idx y1.1.tables 0)>>=fun y11=>tZ (y1.1.tables.set (0:Int).toNat (bI.mk y11.name ([]:List bV))) y2.2.b y2.2.i y2.2.h) else (if (decide (y2.1=4))=true then (tZ ([]:List bI) y2.2.b y2.2.i y2.2.h) else (if (decide (y2.1=5))=true then (H7 y2.2.b y2.2.i y2.2.h y1.1.tables) else (tZ y1.1.tables y2.2.b y2.2.i y2.2.h))))))
def aEn (y1:Bool×aB) (lF:List bO) (lC:List aA) (gL:List (List UInt8)) (gN:List aA) (dL:List (List aA)) (eQ:List Int) (wI:Int) (lG:List Int) (lQ:Int) (lU:Int):Option (aL×aB) :=
  some ((aL.mk eQ dL lC lF gN gL y1.1 wI),(aB.mk lG lQ lU))
def zU (p0:aB):Option (Int×aB) :=
  (eD p0 3)>>=fun y1=>if (decide (y1.1=0))=true then ((xA y1.2 ([0,1,(-1),63,64,(-64),(-65),127,128,16383,16384,9223372036854775807,(-9223372036854775808),4611686018427387904]:List Int))>>=fun y2=>some (y2.1,y2.2)) else (if (decide (y1.1=1))=true then ((eD y1.2 1000000)>>=fun y3=>some ((IntKind.wrap .i64 (y3.1 - 500000)),y3.2)) else ((eD y1.2 20)>>=fun y4=>some (y4.1,y4.2)))
def aAb (y1:Bool×aB) (lC:List aA) (gL:List (List UInt8)) (gN:List aA) (dL:List (List aA)) (eQ:List Int) (yV:List Int) (A7:Int) (J5:Int) (lF:List bO):Option (aL×aB) :=
  (fC (aB.mk yV A7 J5) 4)>>=fun y33=>if y33.1=true then ((zU y33.2)>>=fun y34=>aEn y1 lF lC gL gN dL eQ y34.1 y34.2.b y34.2.i y34.2.h) else (aEn y1 lF lC gL gN dL eQ (-1) y33.2.b y33.2.i y33.2.h)
def aC4 (p0:Bool):Option bH :=
  if p0=true then (some (bH.mk 3 1 [])) else (some (bH.mk 3 0 []))
def aEt (p0:Int):Option bH :=
  some (bH.mk 1 p0 [])
def aL8 (p0:List UInt8):Option bH :=
  some (bH.mk 2 0 p0)
def aE2 (p0:aB):Option (bH×aB) :=
  (eD p0 6)>>=fun y1=>if (decide (y1.1=0))=true then (some ((bH.mk 0 0 []),y1.2)) else (if (decide (y1.1=1))=true then ((oP y1.2 ([[],[97],[98],[105,116,39,115],[97,98],[255]]:List (List UInt8)))>>=fun y2=>(aL8 y2.1)>>=fun y3=>some (y3,y2.2)) else (if (decide (y1.1=2))=true then ((fC y1.2 2)>>=fun y4=>(aC4 y4.1)>>=fun y5=>some (y5,y4.2)) else (if (decide (y1.1=3))=true then ((zU y1.2)>>=fun y6=>(aEt y6.1)>>=fun y7=>some (y7,y6.2)) else ((eD y1.2 7)>>=fun y8=>(aEt (IntKind.wrap .i64 (y8.1 - 2)))>>=fun y9=>some (y9,y8.2)))))
def aDw (y1:bH×aB) (zK:Int):Option (bH×aB) :=
  some ((bH.mk y1.1.kind zK y1.1.text),y1.2)
def aAr (p0:aB):Option (bH×aB) :=
  (aE2 p0)>>=fun y1=>(some (if (decide (y1.1.kind=1))=true then (decide (y1.1.num<0)) else false))>>=fun y2=>if y2=true then (aDw y1 9223372036854775807) else (aDw y1 y1.1.num)
mutual
def M9 (p1:Int) (y1:Bool×aB) (gL:List (List UInt8)) (gN:List aA) (dL:List (List aA)) (eQ:List Int) (kE:(List Int)×Int×Int×(List aA)):Option (aL×aB) :=
  (fC (aB.mk kE.1 kE.2.1 kE.2.2.1) 3)>>=fun y26=>if y26.1=true then ((mM y26.2 p1)>>=fun y27=>(fC y27.2 2)>>=fun y28=>(appG 128 ([]:List bO) ([(bO.mk y27.1 y28.1)]:List bO))>>=fun y29=>aAb y1 kE.2.2.2 gL gN dL eQ y28.2.b y28.2.i y28.2.h y29) else (aAb y1 kE.2.2.2 gL gN dL eQ y26.2.b y26.2.i y26.2.h ([]:List bO))
  partial_fixpoint
def zN (p1:Int) (y12:Int×aB) (y1:Bool×aB) (dL:List (List aA)) (eQ:List Int) (x9:Int) (iG:(List Int)×Int×Int×(((List (List UInt8))×(List aA)))):Option (aL×aB) :=
  if (decide (x9<(IntKind.wrap .i64 (1+y12.1))))=true then ((mM (aB.mk iG.1 iG.2.1 iG.2.2.1) p1)>>=fun y17=>(appG 120 iG.2.2.2.2 ([y17.1]:List aA))>>=fun y18=>(vG y17.2)>>=fun y19=>(appG 16 iG.2.2.2.1 ([y19.1]:List (List UInt8)))>>=fun y20=>zN p1 y12 y1 dL eQ (IntKind.wrap .i64 (x9+1)) (y19.2.b,y19.2.i,y19.2.h,y20,y18)) else ((fC (aB.mk iG.1 iG.2.1 iG.2.2.1) 2)>>=fun y21=>if y21.1=true then ((qA y21.2 (IntKind.wrap .i64 (p1+1)) 1)>>=fun y22=>M9 p1 y1 iG.2.2.2.1 iG.2.2.2.2 dL eQ (y22.2.b,y22.2.i,y22.2.h,y22.1)) else (M9 p1 y1 iG.2.2.2.1 iG.2.2.2.2 dL eQ (y21.2.b,y21.2.i,y21.2.h,([]:List aA))))
  partial_fixpoint
def aA6 (p1:Int) (y2:Int×aB) (x7:Int) (y1:Bool×aB) (y4:List Int) (dL:List (List aA)) (jV:(List Int)×Int×Int×(List aA)):Option (aL×aB) :=
  (appG 24 dL ([jV.2.2.2]:List (List aA)))>>=fun y16=>J7 p1 y2 y1 (IntKind.wrap .i64 (x7+1)) jV.1 jV.2.1 (jV.2.2.1,y16,y4)
  partial_fixpoint
def J7 (p1:Int) (y2:Int×aB) (y1:Bool×aB) (x7:Int) (bF:List Int) (bA:Int) (jQ:Int×(((List (List aA))×(List Int)))):Option (aL×aB) :=
  if (decide (x7<(IntKind.wrap .i64 (1+y2.1))))=true then ((eD (aB.mk bF bA jQ.1) 3)>>=fun y3=>(appG 8 jQ.2.2 ([y3.1]:List Int))>>=fun y4=>(if (true&&((decide (0<x7))==true))=true then fC y3.2 2 else some ((default:Bool),y3.2))>>=fun y5=>(some (if (decide (0<x7))=true then y5.1 else false))>>=fun y6=>if y6=true then ((mM y5.2 p1)>>=fun y7=>(appG 120 ([]:List aA) ([y7.1]:List aA))>>=fun y8=>aA6 p1 y2 x7 y1 y4 jQ.2.1 (y7.2.b,y7.2.i,y7.2.h,y8)) else (aA6 p1 y2 x7 y1 y4 jQ.2.1 (y5.2.b,y5.2.i,y5.2.h,([]:List aA)))) else ((eD (aB.mk bF bA jQ.1) 2)>>=fun y12=>zN p1 y12 y1 jQ.2.1 jQ.2.2 0 (y12.2.b,y12.2.i,y12.2.h,([]:List (List UInt8)),([]:List aA)))
  partial_fixpoint
def V8 (p0:aB) (p1:Int):Option (aL×aB) :=
  (fC p0 3)>>=fun y1=>(eD y1.2 2)>>=fun y2=>J7 p1 y2 y1 0 y2.2.b y2.2.i (y2.2.h,([]:List (List aA)),([]:List Int))
  partial_fixpoint
def R8 (p1:Int) (p2:Int) (x8:Int) (bF:List Int) (bA:Int) (bL:Int) (gQ:List aA):Option ((List aA)×aB) :=
  if (decide (x8<p2))=true then ((mM (aB.mk bF bA bL) (IntKind.wrap .i64 (p1 - 1)))>>=fun y1=>(appG 120 gQ ([y1.1]:List aA))>>=fun y2=>R8 p1 p2 (IntKind.wrap .i64 (x8+1)) y1.2.b y1.2.i y1.2.h y2) else (some (gQ,(aB.mk bF bA bL)))
  partial_fixpoint
def qA (p0:aB) (p1:Int) (p2:Int):Option ((List aA)×aB) :=
  R8 p1 p2 0 p0.b p0.i p0.h ([]:List aA)
  partial_fixpoint
def R6 (p1:Int) (y7:Int×aB):Option (aA×aB) :=
  (eD y7.2 14)>>=fun y20=>(qA y20.2 p1 2)>>=fun y21=>some ((aA.mk 4 (IntKind.wrap .i64 (1+y20.1)) false (bH.mk 0 0 []) 0 0 y21.1 ([]:List aL)),y21.2)
  partial_fixpoint
def mM (p0:aB) (p1:Int):Option (aA×aB) :=
  (if (true&&((decide (p1≤0))==false))=true then fC p0 4 else some ((default:Bool),p0))>>=fun y1=>(some (if (decide (p1≤0))=true then true else y1.1))>>=fun y2=>if y2=true then ((fC y1.2 2)>>=fun y3=>if y3.1=true then ((eD y3.2 3)>>=fun y4=>(eD y4.2 4)>>=fun y5=>some ((aA.mk 2 0 false (bH.mk 0 0 []) y4.1 y5.1 ([]:List aA) ([]:List aL)),y5.2)) else ((aAr y3.2)>>=fun y6=>some ((aA.mk 1 0 false y6.1 0 0 ([]:List aA) ([]:List aL)),y6.2))) else ((eD y1.2 8)>>=fun y7=>if (decide (y7.1=0))=true then ((eD y7.2 2)>>=fun y8=>(qA y8.2 p1 1)>>=fun y9=>some ((aA.mk 3 (IntKind.wrap .i64 (15+y8.1)) false (bH.mk 0 0 []) 0 0 y9.1 ([]:List aL)),y9.2)) else (if (decide (y7.1=1))=true then ((fC y7.2 2)>>=fun y10=>(qA y10.2 p1 1)>>=fun y11=>some ((aA.mk 5 0 y10.1 (bH.mk 0 0 []) 0 0 y11.1 ([]:List aL)),y11.2)) else (if (decide (y7.1=2))=true then ((fC y7.2 2)>>=fun y12=>(qA y12.2 p1 3)>>=fun y13=>some ((aA.mk 6 0 y12.1 (bH.mk 0 0 []) 0 0 y13.1 ([]:List aL)),y13.2)) else (if (decide (y7.1=3))=true then ((fC y7.2 2)>>=fun y14=>(qA y14.2 p1 3)>>=fun y15=>some ((aA.mk 7 0 y14.1 (bH.mk 0 0 []) 0 0 y15.1 ([]:List aL)),y15.2)) else (if (decide (y7.1=4))=true then (if (decide (1<p1))=true then ((fC y7.2 2)>>=fun y16=>(qA y16.2 p1 1)>>=fun y17=>(V8 y17.2 (IntKind.wrap .i64 (p1 - 2)))>>=fun y18=>some ((aA.mk 8 0 y16.1 (bH.mk 0 0 []) 0 0 y17.1 ([y18.1]:List aL)),y18.2)) else (R6 p1 y7)) else (if (decide (y7.1=5))=true then (if (decide (1<p1))=true then ((V8 y7.2 (IntKind.wrap .i64 (p1 - 2)))>>=fun y19=>some ((aA.mk 9 0 false (bH.mk 0 0 []) 0 0 ([]:List aA) ([y19.1]:List aL)),y19.2)) else (R6 p1 y7)) else (R6 p1 y7)))))))
  partial_fixpoint
end
def zH (p0:List Int) (x3:Int) (x4:Int):Option aB :=
  (some (if (decide (x4<(p0.length:Int)))=true then (decide (x4<4000)) else false))>>=fun y1=>if y1=true then ((idx p0 x4)>>=fun y2=>zH p0 (IntKind.wrap .i64 ((BitVec.ofInt (IntKind.bits .i64) (IntKind.wrap .i64 ((IntKind.wrap .i64 ((IntKind.wrap .i64 (x3 * 131))+(IntKind.wrap .i64 y2)))+7)) &&& BitVec.ofInt (IntKind.bits .i64) 1073741823).toNat:Int)) (IntKind.wrap .i64 (x4+1))) else (some (aB.mk p0 0 x3))
  partial_fixpoint
def aCa (p0:List Int):Option aB :=
  zH p0 (IntKind.wrap .i64 (28322+(p0.length:Int))) 0
def aCw (p0:List Int) (p1:Int):Option Int :=
  if (decide (p1<(IntKind.wrap .i64 (2+(IntKind.wrap .i64 (Int.tdiv (p0.length:Int) 20))))))=true then (some p1) else (some (IntKind.wrap .i64 (2+(IntKind.wrap .i64 (Int.tdiv (p0.length:Int) 20)))))
def qB (y4:aP×bC×aB) (xO:List bI) (vF:Int) (xJ:Int) (yB:Int) (uV:List (List aA)) (vU:List Int) (vM:List aA) (wG:List aA):Option (aP×bC) :=
  some ((aP.mk xO),(bC.mk vF (aL.mk y4.2.1.plan.tables y4.2.1.plan.on_ y4.2.1.plan.where_ y4.2.1.plan.order y4.2.1.plan.items y4.2.1.plan.names y4.2.1.plan.distinct xJ) yB uV vU vM wG))
mutual
def Z4 (y1:Int×aB) (x6:Int) (y3:Int×aB) (x9:Int) (cZ:List bI) (y2:List UInt8) (jY:(List Int)×Int×Int×(List bV)):Option (aP×aB) :=
  R3 y1 x6 y3 cZ y2 (IntKind.wrap .i64 (x9+1)) (jY.2.2.2,jY.1,jY.2.1,jY.2.2.1)
  partial_fixpoint
def aCc (y1:Int×aB) (x6:Int) (y3:Int×aB) (x9:Int) (cZ:List bI) (y2:List UInt8) (nC:List bV) (ky8:(Int×aB)×(List UInt8)×(List Int)×Int×Int):Option (aP×aB) :=
  (rO (bI.mk y2 nC) ky8.2.1)>>=fun y15=>if (decide (y15<0))=true then ((appG 24 nC ([(bV.mk ky8.2.1 ky8.1.1)]:List bV))>>=fun y16=>Z4 y1 x6 y3 x9 cZ y2 (ky8.2.2.1,ky8.2.2.2.1,ky8.2.2.2.2,y16)) else (Z4 y1 x6 y3 x9 cZ y2 (ky8.2.2.1,ky8.2.2.2.1,ky8.2.2.2.2,nC))
  partial_fixpoint
def R3 (y1:Int×aB) (x6:Int) (y3:Int×aB) (cZ:List bI) (y2:List UInt8) (x9:Int) (iV:(List bV)×(List Int)×Int×Int):Option (aP×aB) :=
  if (decide (x9<(IntKind.wrap .i64 (1+y3.1))))=true then ((oP (aB.mk iV.2.1 iV.2.2.1 iV.2.2.2) ([[97],[98],[99],[105,100],[110,97,109,101]]:List (List UInt8)))>>=fun y7=>(xA y7.2 ([1,1,2,3]:List Int))>>=fun y8=>(fC y8.2 20)>>=fun y9=>if y9.1=true then ((vG y9.2)>>=fun y10=>aCc y1 x6 y3 x9 cZ y2 iV.1 (y8,y10.1,y10.2.b,y10.2.i,y10.2.h)) else (aCc y1 x6 y3 x9 cZ y2 iV.1 (y8,y7.1,y9.2.b,y9.2.i,y9.2.h))) else ((appG 40 cZ ([(bI.mk y2 iV.1)]:List bI))>>=fun y14=>zT y1 (IntKind.wrap .i64 (x6+1)) y14 iV.2.1 iV.2.2.1 iV.2.2.2)
  partial_fixpoint
def zT (y1:Int×aB) (x6:Int) (cZ:List bI) (bF:List Int) (bA:Int) (bL:Int):Option (aP×aB) :=
  if (decide (x6<(IntKind.wrap .i64 (1+y1.1))))=true then ((idx ([[116],[117],[118]]:List (List UInt8)) x6)>>=fun y2=>(eD (aB.mk bF bA bL) 3)>>=fun y3=>R3 y1 x6 y3 cZ y2 0 (([]:List bV),y3.2.b,y3.2.i,y3.2.h)) else (some ((aP.mk cZ),(aB.mk bF bA bL)))
  partial_fixpoint
end
def aD1 (p0:aB):Option (aP×aB) :=
  (eD p0 3)>>=fun y1=>zT y1 0 ([]:List bI) y1.2.b y1.2.i y1.2.h
def zG (p0:List Int) (p1:List (List Int)):Option (List (List Int)) :=
  (appG 24 ([p0]:List (List Int)) p1)>>=fun y1=>some y1
def aE6 (y1:Bool×aB) (kU:List bO) (kR:List aA) (fT:List (List UInt8)) (fU:List aA) (fP:List (List aA)) (fQ:List Int) (xC:Int) (vC:List Int) (xZ:Int) (wC:Int):Option (aL×aB) :=
  some ((aL.mk fQ fP kR kU fU fT y1.1 xC),(aB.mk vC xZ wC))
def aC1 (y1:Bool×aB) (kR:List aA) (fT:List (List UInt8)) (fU:List aA) (fP:List (List aA)) (fQ:List Int) (lG:List Int) (lQ:Int) (lU:Int) (kU:List bO):Option (aL×aB) :=
  (fC (aB.mk lG lQ lU) 4)>>=fun y38=>if y38.1=true then ((eD y38.2 4)>>=fun y39=>aE6 y1 kU kR fT fU fP fQ y39.1 y39.2.b y39.2.i y39.2.h) else (aE6 y1 kU kR fT fU fP fQ (-1) y38.2.b y38.2.i y38.2.h)
mutual
def yX (p1:List (List Int)) (p2:Int) (x9:Int) (x10:Int) (pW:Int) (pG:Int) (pQ:Int) (qF:Int) (jM:(List UInt8)×Int×Int×(List Int)×Int×Int):Option (aA×aB) :=
  Y1 p1 p2 x9 pW (IntKind.wrap .i64 (x10+1)) pG pQ qF (jM.1,jM.2.1,jM.2.2.1,jM.2.2.2.1,jM.2.2.2.2.1,jM.2.2.2.2.2)
  partial_fixpoint
def Y1 (p1:List (List Int)) (p2:Int) (x9:Int) (mF:Int) (x10:Int) (nM:Int) (nL:Int) (nJ:Int) (gH:(List UInt8)×Int×Int×(List Int)×Int×Int):Option (aA×aB) :=
  (idx p1 x9)>>=fun y12=>if (decide (x10<(y12.length:Int)))=true then ((idx p1 x9)>>=fun y13=>(idx y13 x10)>>=fun y14=>if (decide (y14=p2))=true then ((fC (aB.mk gH.2.2.2.1 gH.2.2.2.2.1 gH.2.2.2.2.2) (IntKind.wrap .i64 (mF+1)))>>=fun y15=>if y15.1=true then (yX p1 p2 x9 x10 (IntKind.wrap .i64 (mF+1)) 2 0 0 ([],x9,x10,y15.2.b,y15.2.i,y15.2.h)) else (yX p1 p2 x9 x10 (IntKind.wrap .i64 (mF+1)) nM nL nJ (gH.1,gH.2.1,gH.2.2.1,y15.2.b,y15.2.i,y15.2.h))) else (yX p1 p2 x9 x10 mF nM nL nJ (gH.1,gH.2.1,gH.2.2.1,gH.2.2.2.1,gH.2.2.2.2.1,gH.2.2.2.2.2))) else (O5 p1 p2 mF (IntKind.wrap .i64 (x9+1)) nM nL nJ (gH.1,gH.2.1,gH.2.2.1,gH.2.2.2.1,gH.2.2.2.2.1,gH.2.2.2.2.2))
  partial_fixpoint
def O5 (p1:List (List Int)) (p2:Int) (x7:Int) (x9:Int) (nT:Int) (nR:Int) (nN:Int) (gK:(List UInt8)×Int×Int×(List Int)×Int×Int):Option (aA×aB) :=
  if (decide (x9<(p1.length:Int)))=true then (Y1 p1 p2 x9 x7 0 nT nR nN (gK.1,gK.2.1,gK.2.2.1,gK.2.2.2.1,gK.2.2.2.2.1,gK.2.2.2.2.2)) else (some ((aA.mk nT 0 false (bH.mk nR nN gK.1) gK.2.1 gK.2.2.1 ([]:List aA) ([]:List aL)),(aB.mk gK.2.2.2.1 gK.2.2.2.2.1 gK.2.2.2.2.2)))
  partial_fixpoint
end
def aF9 (y1:bH×aB) (yT:Int) (bF:List Int) (bA:Int) (bL:Int):Option (bH×aB) :=
  some ((bH.mk y1.1.kind yT y1.1.text),(aB.mk bF bA bL))
def aDb (p0:aB) (p1:Int):Option (bH×aB) :=
  (fC p0 6)>>=fun y1=>if y1.1=true then (some ((bH.mk 0 0 []),y1.2)) else (if (decide (p1=2))=true then ((oP y1.2 ([[],[97],[98],[97,98]]:List (List UInt8)))>>=fun y2=>(aL8 y2.1)>>=fun y3=>some (y3,y2.2)) else (if (decide (p1=3))=true then ((fC y1.2 2)>>=fun y4=>(aC4 y4.1)>>=fun y5=>some (y5,y4.2)) else ((zU y1.2)>>=fun y6=>(aEt y6.1)>>=fun y7=>some (y7,y6.2))))
def T9 (p0:aB) (p1:Int):Option (bH×aB) :=
  (aDb p0 p1)>>=fun y1=>if (decide (y1.1.kind=1))=true then ((xA y1.2 ([0,1,2,3,5,1,2,9223372036854775807]:List Int))>>=fun y2=>aF9 y1 y2.1 y2.2.b y2.2.i y2.2.h) else (aF9 y1 y1.1.num y1.2.b y1.2.i y1.2.h)
def aA9 (p0:aB) (p1:List (List Int)) (p2:Int):Option (aA×aB) :=
  (T9 p0 p2)>>=fun y1=>O5 p1 p2 0 0 1 y1.1.kind y1.1.num (y1.1.text,0,0,y1.2.b,y1.2.i,y1.2.h)
def fI (p0:Int) (p1:Int) (p2:Int):Option Bool :=
  (some (if (decide (p1≤p0))=true then (decide (p0≤p2)) else false))>>=fun y1=>some y1
def K4 (p0:bI) (x3:List Int) (x4:Int):Option (List Int) :=
  if (decide (x4<(p0.cols.length:Int)))=true then ((idx p0.cols x4)>>=fun y1=>(appG 8 x3 ([y1.type]:List Int))>>=fun y2=>K4 p0 y2 (IntKind.wrap .i64 (x4+1))) else (some x3)
  partial_fixpoint
def wR (p0:bI):Option (List Int) :=
  K4 p0 ([]:List Int) 0
def yN (p1:List Int) (p0:aP) (x6:List Int) (x7:Int):Option ((List Int)×Bool) :=
  if (decide (x7<(p1.length:Int)))=true then ((idx p1 x7)>>=fun y1=>(fI y1 0 (IntKind.wrap .i64 ((p0.tables.length:Int) - 1)))>>=fun y2=>if (!y2)=true then (some (([]:List Int),false)) else ((idx p1 x7)>>=fun y3=>(idx p0.tables y3)>>=fun y4=>(wR y4)>>=fun y5=>(appG 8 x6 y5)>>=fun y6=>yN p1 p0 y6 (IntKind.wrap .i64 (x7+1)))) else (some (x6,true))
  partial_fixpoint
def yE (p0:aP) (p1:List Int):Option ((List Int)×Bool) :=
  yN p1 p0 ([]:List Int) 0
mutual
def uA (p2:List (List Int)) (p3:Int) (p4:Int) (p5:Int) (p1:aP) (x14:Int) (iE:(List Int)×Int×Int×(List aA)):Option ((List aA)×aB) :=
  if (decide (x14<p5))=true then ((mJ (aB.mk iE.1 iE.2.1 iE.2.2.1) p1 p2 p3 (IntKind.wrap .i64 (p4 - 1)))>>=fun y1=>(appG 120 iE.2.2.2 ([y1.1]:List aA))>>=fun y2=>uA p2 p3 p4 p5 p1 (IntKind.wrap .i64 (x14+1)) (y1.2.b,y1.2.i,y1.2.h,y2)) else (some (iE.2.2.2,(aB.mk iE.1 iE.2.1 iE.2.2.1)))
  partial_fixpoint
def lV (p0:aB) (p1:aP) (p2:List (List Int)) (p3:Int) (p4:Int) (p5:Int):Option ((List aA)×aB) :=
  uA p2 p3 p4 p5 p1 0 (p0.b,p0.i,p0.h,([]:List aA))
  partial_fixpoint
def P7 (p2:List (List Int)) (p3:Int) (y1:Int×aB) (p1:aP) (y3:Int×aB):Option (aA×aB) :=
  (eD y3.2 6)>>=fun y14=>(lV y14.2 p1 p2 (IntKind.wrap .i64 (1+y1.1)) p3 2)>>=fun y15=>some ((aA.mk 4 (IntKind.wrap .i64 (3+y14.1)) false (bH.mk 0 0 []) 0 0 y15.1 ([]:List aL)),y15.2)
  partial_fixpoint
def aAs (p2:List (List Int)) (p3:Int) (y1:Int×aB) (y2:Bool×aB) (y3:Int×aB) (p1:aP) (x18:Bool):Option (aA×aB) :=
  if x18=true then ((eD y3.2 2)>>=fun y4=>(lV y4.2 p1 p2 3 p3 2)>>=fun y5=>some ((aA.mk 4 (IntKind.wrap .i64 (1+y4.1)) false (bH.mk 0 0 []) 0 0 y5.1 ([]:List aL)),y5.2)) else (if (decide (y3.1=2))=true then ((lV y3.2 p1 p2 3 p3 1)>>=fun y6=>some ((aA.mk 3 15 false (bH.mk 0 0 []) 0 0 y6.1 ([]:List aL)),y6.2)) else (if (decide (y3.1=3))=true then ((lV y3.2 p1 p2 (IntKind.wrap .i64 (1+y1.1)) p3 1)>>=fun y7=>some ((aA.mk 5 0 y2.1 (bH.mk 0 0 []) 0 0 y7.1 ([]:List aL)),y7.2)) else (if (decide (y3.1=4))=true then ((lV y3.2 p1 p2 (IntKind.wrap .i64 (1+y1.1)) p3 3)>>=fun y8=>some ((aA.mk 6 0 y2.1 (bH.mk 0 0 []) 0 0 y8.1 ([]:List aL)),y8.2)) else (if (decide (y3.1=5))=true then ((eD y3.2 3)>>=fun y9=>(lV y9.2 p1 p2 (IntKind.wrap .i64 (1+y1.1)) p3 (IntKind.wrap .i64 (2+y9.1)))>>=fun y10=>some ((aA.mk 7 0 y2.1 (bH.mk 0 0 []) 0 0 y10.1 ([]:List aL)),y10.2)) else (if (decide (y3.1=6))=true then (if (decide (1<p3))=true then ((lV y3.2 p1 p2 (IntKind.wrap .i64 (1+y1.1)) p3 1)>>=fun y11=>(yL y11.2 p1 p2 ([(IntKind.wrap .i64 (1+y1.1))]:List Int) (IntKind.wrap .i64 (p3 - 2)))>>=fun y12=>some ((aA.mk 8 0 y2.1 (bH.mk 0 0 []) 0 0 y11.1 ([y12.1]:List aL)),y12.2)) else (P7 p2 p3 y1 p1 y3)) else (if (decide (y3.1=7))=true then (if (decide (1<p3))=true then ((yL y3.2 p1 p2 ([(IntKind.wrap .i64 (1+y1.1))]:List Int) (IntKind.wrap .i64 (p3 - 2)))>>=fun y13=>some ((aA.mk 9 0 false (bH.mk 0 0 []) 0 0 ([]:List aA) ([y13.1]:List aL)),y13.2)) else (P7 p2 p3 y1 p1 y3)) else (P7 p2 p3 y1 p1 y3)))))))
  partial_fixpoint
def aHr (p0:aB) (p1:aP) (p2:List (List Int)) (p3:Int):Option (aA×aB) :=
  (eD p0 3)>>=fun y1=>(fC y1.2 3)>>=fun y2=>(eD y2.2 10)>>=fun y3=>if (decide (y3.1=0))=true then (aAs p2 p3 y1 y2 y3 p1 (decide (y3.1=0))) else (aAs p2 p3 y1 y2 y3 p1 (decide (y3.1=1)))
  partial_fixpoint
def mJ (p0:aB) (p1:aP) (p2:List (List Int)) (p3:Int) (p4:Int):Option (aA×aB) :=
  (if (true&&((decide (p4≤0))==false))=true then fC p0 4 else some ((default:Bool),p0))>>=fun y1=>(some (if (decide (p4≤0))=true then true else y1.1))>>=fun y2=>if y2=true then ((fC y1.2 3)>>=fun y3=>if y3.1=true then ((T9 y3.2 p3)>>=fun y4=>some ((aA.mk 1 0 false y4.1 0 0 ([]:List aA) ([]:List aL)),y4.2)) else ((aA9 y3.2 p2 p3)>>=fun y5=>some (y5.1,y5.2))) else (if (decide (p3=1))=true then ((fC y1.2 5)>>=fun y6=>if y6.1=true then ((lV y6.2 p1 p2 p3 p4 1)>>=fun y7=>some ((aA.mk 3 16 false (bH.mk 0 0 []) 0 0 y7.1 ([]:List aL)),y7.2)) else ((eD y6.2 5)>>=fun y8=>(lV y8.2 p1 p2 p3 p4 2)>>=fun y9=>some ((aA.mk 4 (IntKind.wrap .i64 (10+y8.1)) false (bH.mk 0 0 []) 0 0 y9.1 ([]:List aL)),y9.2))) else (if (decide (p3=2))=true then ((lV y1.2 p1 p2 p3 p4 2)>>=fun y10=>some ((aA.mk 4 9 false (bH.mk 0 0 []) 0 0 y10.1 ([]:List aL)),y10.2)) else ((aHr y1.2 p1 p2 p4)>>=fun y11=>some (y11.1,y11.2))))
  partial_fixpoint
def aCf (p4:Int) (y15:List (List Int)) (p1:aP) (y1:Bool×aB) (fT:List (List UInt8)) (fU:List aA) (iL:(List (List aA))×(List Int)×(List Int)×Int×Int×(List aA)):Option (aL×aB) :=
  (fC (aB.mk iL.2.2.1 iL.2.2.2.1 iL.2.2.2.2.1) 3)>>=fun y30=>if y30.1=true then ((eD y30.2 3)>>=fun y31=>(mJ y31.2 p1 y15 (IntKind.wrap .i64 (1+y31.1)) p4)>>=fun y32=>(fC y32.2 2)>>=fun y33=>(appG 128 ([]:List bO) ([(bO.mk y32.1 y33.1)]:List bO))>>=fun y34=>aC1 y1 iL.2.2.2.2.2 fT fU iL.1 iL.2.1 y33.2.b y33.2.i y33.2.h y34) else (aC1 y1 iL.2.2.2.2.2 fT fU iL.1 iL.2.1 y30.2.b y30.2.i y30.2.h ([]:List bO))
  partial_fixpoint
def Y6 (p3:List Int) (p4:Int) (y15:List (List Int)) (p1:aP) (y1:Bool×aB) (fP:List (List aA)) (fQ:List Int) (kx20:Int×(List Int)×Int×Int×(((List (List UInt8))×(List aA)))):Option (aL×aB) :=
  if (decide (kx20.1<(p3.length:Int)))=true then ((idx p3 kx20.1)>>=fun y20=>(mJ (aB.mk kx20.2.1 kx20.2.2.1 kx20.2.2.2.1) p1 y15 y20 p4)>>=fun y21=>(appG 120 kx20.2.2.2.2.2 ([y21.1]:List aA))>>=fun y22=>(oP y21.2 ([[97],[98],[99],[120],[121,32,122],[99,49]]:List (List UInt8)))>>=fun y23=>(appG 16 kx20.2.2.2.2.1 ([y23.1]:List (List UInt8)))>>=fun y24=>Y6 p3 p4 y15 p1 y1 fP fQ ((IntKind.wrap .i64 (kx20.1+1)),y23.2.b,y23.2.i,y23.2.h,y24,y22)) else ((fC (aB.mk kx20.2.1 kx20.2.2.1 kx20.2.2.2.1) 2)>>=fun y25=>if y25.1=true then ((mJ y25.2 p1 y15 3 p4)>>=fun y26=>aCf p4 y15 p1 y1 kx20.2.2.2.2.1 kx20.2.2.2.2.2 (fP,fQ,y26.2.b,y26.2.i,y26.2.h,([y26.1]:List aA))) else (aCf p4 y15 p1 y1 kx20.2.2.2.2.1 kx20.2.2.2.2.2 (fP,fQ,y25.2.b,y25.2.i,y25.2.h,([]:List aA))))
  partial_fixpoint
def aAn (p2:List (List Int)) (p3:List Int) (p4:Int) (y2:Int×aB) (x13:Int) (p1:aP) (y1:Bool×aB) (ky4:(List Int)×(((List (List aA))×(List Int)×Int×Int×(List aA)))):Option (aL×aB) :=
  (appG 24 ky4.2.1 ([ky4.2.2.2.2.2]:List (List aA)))>>=fun y19=>A9 p2 p3 p4 y2 p1 y1 ((IntKind.wrap .i64 (x13+1)),ky4.2.2.1,ky4.2.2.2.1,ky4.2.2.2.2.1,y19,ky4.1)
  partial_fixpoint
def A9 (p2:List (List Int)) (p3:List Int) (p4:Int) (y2:Int×aB) (p1:aP) (y1:Bool×aB) (kx13:Int×(List Int)×Int×Int×(((List (List aA))×(List Int)))):Option (aL×aB) :=
  if (decide (kx13.1<(IntKind.wrap .i64 (1+y2.1))))=true then ((eD (aB.mk kx13.2.1 kx13.2.2.1 kx13.2.2.2.1) (p1.tables.length:Int))>>=fun y3=>(appG 8 kx13.2.2.2.2.2 ([y3.1]:List Int))>>=fun y4=>(yE p1 y4)>>=fun y5=>(if (true&&((decide (0<kx13.1))==true))=true then fC y3.2 2 else some ((default:Bool),y3.2))>>=fun y6=>(some (if (decide (0<kx13.1))=true then y6.1 else false))>>=fun y7=>if y7=true then ((zG y5.1 p2)>>=fun y8=>(mJ y6.2 p1 y8 3 p4)>>=fun y9=>(appG 120 ([]:List aA) ([y9.1]:List aA))>>=fun y10=>aAn p2 p3 p4 y2 kx13.1 p1 y1 (y4,kx13.2.2.2.2.1,y9.2.b,y9.2.i,y9.2.h,y10)) else (aAn p2 p3 p4 y2 kx13.1 p1 y1 (y4,kx13.2.2.2.2.1,y6.2.b,y6.2.i,y6.2.h,([]:List aA)))) else ((yE p1 kx13.2.2.2.2.2)>>=fun y14=>(zG y14.1 p2)>>=fun y15=>Y6 p3 p4 y15 p1 y1 kx13.2.2.2.2.1 kx13.2.2.2.2.2 (0,kx13.2.1,kx13.2.2.1,kx13.2.2.2.1,([]:List (List UInt8)),([]:List aA)))
  partial_fixpoint
def yL (p0:aB) (p1:aP) (p2:List (List Int)) (p3:List Int) (p4:Int):Option (aL×aB) :=
  (fC p0 4)>>=fun y1=>(eD y1.2 2)>>=fun y2=>A9 p2 p3 p4 y2 p1 y1 (0,y2.2.b,y2.2.i,y2.2.h,([]:List (List aA)),([]:List Int))
  partial_fixpoint
end
def aBy (p1:Int) (y1:aP×aB) (x7:List Int) (bF:List Int) (bA:Int) (bL:Int):Option (aP×aL×aB) :=
  (yL (aB.mk bF bA bL) y1.1 ([]:List (List Int)) x7 p1)>>=fun y6=>some (y1.1,y6.1,y6.2)
def aDg (p0:aB) (p1:Int):Option (aP×aL×aB) :=
  (aD1 p0)>>=fun y1=>(eD y1.2 3)>>=fun y2=>(fC y2.2 2)>>=fun y3=>if y3.1=true then ((eD y3.2 3)>>=fun y4=>(appG 8 ([(IntKind.wrap .i64 (1+y2.1))]:List Int) ([(IntKind.wrap .i64 (1+y4.1))]:List Int))>>=fun y5=>aBy p1 y1 y5 y4.2.b y4.2.i y4.2.h) else (aBy p1 y1 ([(IntKind.wrap .i64 (1+y2.1))]:List Int) y3.2.b y3.2.i y3.2.h)
def aC9 (y1:aP×aL×aB) (y2:Int×aB) (y3:Int×aB) (kY:List aA) (kM:List Int) (wF:List Int) (wP:Int) (wM:Int) (vZ:List aA):Option (aP×bC×aB) :=
  some (y1.1,(bC.mk (IntKind.wrap .i64 (1+y2.1)) (aL.mk ([]:List Int) ([]:List (List aA)) ([]:List aA) ([]:List bO) ([]:List aA) ([]:List (List UInt8)) false 0) y3.1 ([]:List (List aA)) kM kY vZ),(aB.mk wF wP wM))
def aA0 (p1:Int) (y5:List Int) (y1:aP×aL×aB) (y2:Int×aB) (y3:Int×aB) (G7:List Int) (yO:Int) (yQ:Int) (kY:List aA) (kM:List Int):Option (aP×bC×aB) :=
  (fC (aB.mk G7 yO yQ) 2)>>=fun y16=>if y16.1=true then ((mJ y16.2 y1.1 ([y5]:List (List Int)) 3 p1)>>=fun y17=>aC9 y1 y2 y3 kY kM y17.2.b y17.2.i y17.2.h ([y17.1]:List aA)) else (aC9 y1 y2 y3 kY kM y16.2.b y16.2.i y16.2.h ([]:List aA))
mutual
def zC (p1:Int) (y5:List Int) (y6:Int×aB) (x12:Int) (y1:aP×aL×aB) (y2:Int×aB) (y3:Int×aB) (gU:List (List aA)) (x14:Int) (mQ:List Int) (nG:Int) (mZ:Int) (kS:List aA):Option (aP×bC×aB) :=
  if (decide (x14<(y5.length:Int)))=true then ((idx y5 x14)>>=fun y21=>(mJ (aB.mk mQ nG mZ) y1.1 ([]:List (List Int)) y21 p1)>>=fun y22=>(appG 120 kS ([y22.1]:List aA))>>=fun y23=>zC p1 y5 y6 x12 y1 y2 y3 gU (IntKind.wrap .i64 (x14+1)) y22.2.b y22.2.i y22.2.h y23) else ((appG 24 gU ([kS]:List (List aA)))>>=fun y24=>yJ p1 y5 y6 y1 y2 y3 (IntKind.wrap .i64 (x12+1)) mQ nG mZ y24)
  partial_fixpoint
def yJ (p1:Int) (y5:List Int) (y6:Int×aB) (y1:aP×aL×aB) (y2:Int×aB) (y3:Int×aB) (x12:Int) (bF:List Int) (bA:Int) (bL:Int) (gU:List (List aA)):Option (aP×bC×aB) :=
  if (decide (x12<(IntKind.wrap .i64 (1+y6.1))))=true then (zC p1 y5 y6 x12 y1 y2 y3 gU 0 bF bA bL ([]:List aA)) else (some (y1.1,(bC.mk (IntKind.wrap .i64 (1+y2.1)) (aL.mk ([]:List Int) ([]:List (List aA)) ([]:List aA) ([]:List bO) ([]:List aA) ([]:List (List UInt8)) false 0) y3.1 gU ([]:List Int) ([]:List aA) ([]:List aA)),(aB.mk bF bA bL)))
  partial_fixpoint
end
def aBc (p0:aB) (p1:Int):Option (aP×bC×aB) :=
  (aDg p0 p1)>>=fun y1=>(eD y1.2.2 4)>>=fun y2=>if (decide ((IntKind.wrap .i64 (1+y2.1))=1))=true then (some (y1.1,(bC.mk (IntKind.wrap .i64 (1+y2.1)) y1.2.1 0 ([]:List (List aA)) ([]:List Int) ([]:List aA) ([]:List aA)),y2.2)) else ((eD y2.2 (y1.1.tables.length:Int))>>=fun y3=>(idx y1.1.tables y3.1)>>=fun y4=>(wR y4)>>=fun y5=>if (decide ((IntKind.wrap .i64 (1+y2.1))=2))=true then ((eD y3.2 2)>>=fun y6=>yJ p1 y5 y6 y1 y2 y3 0 y6.2.b y6.2.i y6.2.h ([]:List (List aA))) else (if (decide ((IntKind.wrap .i64 (1+y2.1))=3))=true then ((eD y3.2 (y5.length:Int))>>=fun y7=>(idx y5 y7.1)>>=fun y8=>(mJ y7.2 y1.1 ([y5]:List (List Int)) y8 p1)>>=fun y9=>aA0 p1 y5 y1 y2 y3 y9.2.b y9.2.i y9.2.h ([y9.1]:List aA) ([y7.1]:List Int)) else (aA0 p1 y5 y1 y2 y3 y3.2.b y3.2.i y3.2.h ([]:List aA) ([]:List Int))))
def aB3 (p0:List Int):Option (aP×bC) :=
  (aCa p0)>>=fun y1=>(aCw p0 3)>>=fun y2=>(eD y1 y2)>>=fun y3=>(aBc y3.2 y3.1)>>=fun y4=>(eD y4.2.2 16)>>=fun y5=>if (decide (y5.1=0))=true then ((eD y5.2 7)>>=fun y6=>qB y4 y4.1.tables (IntKind.wrap .i64 (y6.1 - 1)) y4.2.1.plan.limit y4.2.1.table y4.2.1.rows y4.2.1.cols y4.2.1.sets y4.2.1.where_) else (if (decide (y5.1=1))=true then ((zU y5.2)>>=fun y7=>qB y4 y4.1.tables y4.2.1.kind y4.2.1.plan.limit y7.1 y4.2.1.rows y4.2.1.cols y4.2.1.sets y4.2.1.where_) else (if (decide (y5.1=2))=true then ((eD y5.2 3)>>=fun y8=>(appG 8 y4.2.1.cols ([y8.1]:List Int))>>=fun y9=>qB y4 y4.1.tables y4.2.1.kind y4.2.1.plan.limit y4.2.1.table y4.2.1.rows y9 y4.2.1.sets y4.2.1.where_) else (if (decide (y5.1=3))=true then ((mM y5.2 2)>>=fun y10=>(appG 120 y4.2.1.where_ ([y10.1]:List aA))>>=fun y11=>qB y4 y4.1.tables y4.2.1.kind y4.2.1.plan.limit y4.2.1.table y4.2.1.rows y4.2.1.cols y4.2.1.sets y11) else (if (decide (y5.1=4))=true then ((appG 24 y4.2.1.rows ([([]:List aA)]:List (List aA)))>>=fun y12=>qB y4 y4.1.tables y4.2.1.kind y4.2.1.plan.limit y4.2.1.table y12 y4.2.1.cols y4.2.1.sets y4.2.1.where_) else (if (decide (y5.1=5))=true then ((mM y5.2 1)>>=fun y13=>(appG 120 y4.2.1.sets ([y13.1]:List aA))>>=fun y14=>qB y4 y4.1.tables y4.2.1.kind y4.2.1.plan.limit y4.2.1.table y4.2.1.rows y4.2.1.cols y14 y4.2.1.where_) else (if (decide (y5.1=6))=true then ((aFs y5.2)>>=fun y15=>qB y4 y15.1.tables y4.2.1.kind y4.2.1.plan.limit y4.2.1.table y4.2.1.rows y4.2.1.cols y4.2.1.sets y4.2.1.where_) else (if (decide (y5.1=7))=true then ((eD y5.2 3)>>=fun y16=>qB y4 y4.1.tables y4.2.1.kind (IntKind.wrap .i64 (y16.1 - 1)) y4.2.1.table y4.2.1.rows y4.2.1.cols y4.2.1.sets y4.2.1.where_) else (qB y4 y4.1.tables y4.2.1.kind y4.2.1.plan.limit y4.2.1.table y4.2.1.rows y4.2.1.cols y4.2.1.sets y4.2.1.where_))))))))
def aFk (p0:List Int):Option (aP×bC) :=
  (aB3 p0)>>=fun y1=>some (y1.1,y1.2)
def X0 (y1:aP×bC) (uX:Int) (wQ:Bool) (xR:Int) (xH:Int) (xL:List Int) (uY:List (List aA)) (yG:List aA) (wS:List bO) (wJ:List aA) (yF:List (List UInt8)) (vW:List (List aA)) (xK:List Int) (vK:List aA) (vT:List aA):Option (bC×bC) :=
  some (y1.2,(bC.mk uX (aL.mk xL uY yG wS wJ yF wQ xR) xH vW xK vK vT))
mutual
def vE (p0:aL) (iC:List (List aA)) (y4:List (List UInt8)) (y3:List aA) (y2:List aA) (y1:List Int) (kx5:Int×(List bO)):Option aL :=
  if (decide (kx5.1<(p0.order.length:Int)))=true then ((idx p0.order kx5.1)>>=fun y8=>(vX y8.expr)>>=fun y9=>(idx p0.order kx5.1)>>=fun y10=>(appG 128 kx5.2 ([(bO.mk y9 y10.desc)]:List bO))>>=fun y11=>vE p0 iC y4 y3 y2 y1 ((IntKind.wrap .i64 (kx5.1+1)),y11)) else (some (aL.mk y1 iC y2 kx5.2 y3 y4 p0.distinct p0.limit))
  partial_fixpoint
def aBx (p0:aL) (y4:List (List UInt8)) (y3:List aA) (y2:List aA) (y1:List Int) (x4:Int) (iC:List (List aA)):Option aL :=
  if (decide (x4<(p0.on_.length:Int)))=true then ((idx p0.on_ x4)>>=fun y5=>(pR y5)>>=fun y6=>(appG 24 iC ([y6]:List (List aA)))>>=fun y7=>aBx p0 y4 y3 y2 y1 (IntKind.wrap .i64 (x4+1)) y7) else (vE p0 iC y4 y3 y2 y1 (0,([]:List bO)))
  partial_fixpoint
def yI (p0:aL):Option aL :=
  (appG 8 ([]:List Int) p0.tables)>>=fun y1=>(pR p0.where_)>>=fun y2=>(pR p0.items)>>=fun y3=>(appG 16 ([]:List (List UInt8)) p0.names)>>=fun y4=>aBx p0 y4 y3 y2 y1 0 ([]:List (List aA))
  partial_fixpoint
def aB4 (p0:aA) (y1:List aA) (x4:Int) (nE:List aL):Option aA :=
  if (decide (x4<(p0.sub.length:Int)))=true then ((idx p0.sub x4)>>=fun y2=>(yI y2)>>=fun y3=>(appG 160 nE ([y3]:List aL))>>=fun y4=>aB4 p0 y1 (IntKind.wrap .i64 (x4+1)) y4) else (some (aA.mk p0.kind p0.op p0.not_ p0.value p0.up p0.at_ y1 nE))
  partial_fixpoint
def vX (p0:aA):Option aA :=
  (pR p0.kids)>>=fun y1=>aB4 p0 y1 0 ([]:List aL)
  partial_fixpoint
def aA8 (p0:List aA) (x4:Int) (gQ:List aA):Option (List aA) :=
  if (decide (x4<(p0.length:Int)))=true then ((idx p0 x4)>>=fun y1=>(vX y1)>>=fun y2=>(appG 120 gQ ([y2]:List aA))>>=fun y3=>aA8 p0 (IntKind.wrap .i64 (x4+1)) y3) else (some gQ)
  partial_fixpoint
def pR (p0:List aA):Option (List aA) :=
  aA8 p0 0 ([]:List aA)
  partial_fixpoint
end
def U2 (p0:bC) (y1:aL) (y4:List aA) (y3:List aA) (y2:List Int) (x4:Int) (mX:List (List aA)):Option bC :=
  if (decide (x4<(p0.rows.length:Int)))=true then ((idx p0.rows x4)>>=fun y5=>(pR y5)>>=fun y6=>(appG 24 mX ([y6]:List (List aA)))>>=fun y7=>U2 p0 y1 y4 y3 y2 (IntKind.wrap .i64 (x4+1)) y7) else (some (bC.mk p0.kind y1 p0.table mX y2 y3 y4))
  partial_fixpoint
def aFt (p0:bC):Option bC :=
  (yI p0.plan)>>=fun y1=>(appG 8 ([]:List Int) p0.cols)>>=fun y2=>(pR p0.sets)>>=fun y3=>(pR p0.where_)>>=fun y4=>U2 p0 y1 y4 y3 y2 0 ([]:List (List aA))
def aEx (p0:List Int):Option (bC×bC) :=
  (aB3 p0)>>=fun y1=>(aCa p0)>>=fun y2=>(aFt y1.2)>>=fun y3=>(eD y2 5)>>=fun y4=>if (decide (y4.1=0))=true then ((aBc y4.2 1)>>=fun y5=>X0 y1 y5.2.1.kind y5.2.1.plan.distinct y5.2.1.plan.limit y5.2.1.table y5.2.1.plan.tables y5.2.1.plan.on_ y5.2.1.plan.where_ y5.2.1.plan.order y5.2.1.plan.items y5.2.1.plan.names y5.2.1.rows y5.2.1.cols y5.2.1.sets y5.2.1.where_) else (if (decide (y4.1=1))=true then (X0 y1 y3.kind y3.plan.distinct y3.plan.limit (IntKind.wrap .i64 (y3.table+1)) y3.plan.tables y3.plan.on_ y3.plan.where_ y3.plan.order y3.plan.items y3.plan.names y3.rows y3.cols y3.sets y3.where_) else (if (decide (y4.1=2))=true then ((appG 24 y3.rows ([([]:List aA)]:List (List aA)))>>=fun y6=>X0 y1 y3.kind y3.plan.distinct y3.plan.limit y3.table y3.plan.tables y3.plan.on_ y3.plan.where_ y3.plan.order y3.plan.items y3.plan.names y6 y3.cols y3.sets y3.where_) else (X0 y1 y3.kind y3.plan.distinct y3.plan.limit y3.table y3.plan.tables y3.plan.on_ y3.plan.where_ y3.plan.order y3.plan.items y3.plan.names y3.rows y3.cols y3.sets y3.where_)))
def lY (p0:List UInt8):Option Bool :=
  (fI (p0.length:Int) 1 20)>>=fun y1=>some y1
def zV (p1:List UInt8) (p0:aP) (x5:Int):Option Int :=
  if (decide (x5<(p0.tables.length:Int)))=true then ((idx p0.tables x5)>>=fun y1=>if (decide (y1.name=p1))=true then (some x5) else (zV p1 p0 (IntKind.wrap .i64 (x5+1)))) else (some (-1))
  partial_fixpoint
def rG (p0:aP) (p1:List UInt8):Option Int :=
  zV p1 p0 0
mutual
def wU (x3:Int) (p0:aP) (y1:bI) (x5:Int):Option Bool :=
  if (decide (x5<(y1.cols.length:Int)))=true then ((idx y1.cols x5)>>=fun y7=>(lY y7.name)>>=fun y8=>(if (true&&((!y8)==false))=true then idx y1.cols x5 else some default)>>=fun y9=>(if (true&&((!y8)==false))=true then rO y1 y9.name else some default)>>=fun y10=>(some (if (!y8)=true then true else (!decide (y10=x5))))>>=fun y11=>(if (true&&(y11==false))=true then idx y1.cols x5 else some default)>>=fun y12=>(if (true&&(y11==false))=true then fI y12.type 1 3 else some default)>>=fun y13=>(some (if y11=true then true else (!y13)))>>=fun y14=>if y14=true then (some false) else (wU x3 p0 y1 (IntKind.wrap .i64 (x5+1)))) else (E8 p0 (IntKind.wrap .i64 (x3+1)))
  partial_fixpoint
def E8 (p0:aP) (x3:Int):Option Bool :=
  if (decide (x3<(p0.tables.length:Int)))=true then ((idx p0.tables x3)>>=fun y1=>(lY y1.name)>>=fun y2=>(if (true&&((!y2)==false))=true then rG p0 y1.name else some default)>>=fun y3=>(some (if (!y2)=true then true else (!decide (y3=x3))))>>=fun y4=>(if (true&&(y4==false))=true then fI (y1.cols.length:Int) 1 4 else some default)>>=fun y5=>(some (if y4=true then true else (!y5)))>>=fun y6=>if y6=true then (some false) else (wU x3 p0 y1 0)) else (some true)
  partial_fixpoint
end
def aBw (p0:aP):Option Bool :=
  if (decide (4<(p0.tables.length:Int)))=true then (some false) else (E8 p0 0)
def F5 (p0:Int):Option Bool :=
  (some (if (decide (p0=0))=true then true else (decide (p0=3))))>>=fun y1=>some y1
def G6 (p0:bH):Option Bool :=
  if (decide (p0.kind=0))=true then ((some (if (decide (p0.num=0))=true then (decide (p0.text=[])) else false))>>=fun y1=>some y1) else (if (decide (p0.kind=1))=true then (some (decide (p0.text=[]))) else (if (decide (p0.kind=2))=true then ((some (if (decide (p0.num=0))=true then (decide ((p0.text.length:Int)≤200)) else false))>>=fun y2=>some y2) else (if (decide (p0.kind=3))=true then ((fI p0.num 0 1)>>=fun y3=>(some (if y3=true then (decide (p0.text=[])) else false))>>=fun y4=>some y4) else (some false))))
def zP (p0:bH):Option Bool :=
  (G6 p0)>>=fun y1=>(if (true&&(y1==true))=true then some (if (!decide (p0.kind=1))=true then true else (decide (0≤p0.num))) else some default)>>=fun y2=>(some (if y1=true then y2 else false))>>=fun y3=>(some (if y3=true then (decide ((p0.text.length:Int)≤40)) else false))>>=fun y4=>some y4
def xW (p0:List UInt8):Option Bool :=
  (if (true&&((decide (p0=[]))==false))=true then lY p0 else some default)>>=fun y1=>(some (if (decide (p0=[]))=true then true else y1))>>=fun y2=>some y2
def X8 (p0:eO):Option Bool :=
  (if (true&&((!decide (p0.kind=2))==true))=true then some (if (!decide (p0.qual=[]))=true then true else (!decide (p0.name=[]))) else some default)>>=fun y1=>(some (if (!decide (p0.kind=2))=true then y1 else false))>>=fun y2=>(if (true&&(y2==false))=true then some (if (!decide (p0.kind=1))=true then (!((decide (p0.value.kind=0))&&((decide (p0.value.num=0))&&((decide (p0.value.text=[]))&&true)))) else false) else some default)>>=fun y3=>(some (if y2=true then true else y3))>>=fun y4=>if y4=true then (some false) else ((some (if (!decide (p0.kind=3))=true then (!decide (p0.kind=4)) else false))>>=fun y5=>(some (if y5=true then (!decide (p0.op=0)) else false))>>=fun y6=>(if ((true&&(y6==false))&&(p0.not_==true))=true then fI p0.kind 5 8 else some default)>>=fun y7=>(if (true&&(y6==false))=true then some (if p0.not_=true then (!y7) else false) else some default)>>=fun y8=>(some (if y6=true then true else y8))>>=fun y9=>if y9=true then (some false) else (if (decide (p0.kind=1))=true then ((zP p0.value)>>=fun y10=>(some (if y10=true then (decide ((IntKind.wrap .i64 ((p0.kids.length:Int)+(p0.sub.length:Int)))=0)) else false))>>=fun y11=>some y11) else (if (decide (p0.kind=2))=true then ((lY p0.name)>>=fun y12=>(if (true&&(y12==true))=true then xW p0.qual else some default)>>=fun y13=>(some (if y12=true then y13 else false))>>=fun y14=>(some (if y14=true then (decide ((IntKind.wrap .i64 ((p0.kids.length:Int)+(p0.sub.length:Int)))=0)) else false))>>=fun y15=>some y15) else (if (decide (p0.kind=3))=true then ((some (if (decide (p0.op=15))=true then true else (decide (p0.op=16))))>>=fun y16=>(some (if y16=true then (decide ((p0.kids.length:Int)=1)) else false))>>=fun y17=>(some (if y17=true then (decide ((p0.sub.length:Int)=0)) else false))>>=fun y18=>some y18) else (if (decide (p0.kind=4))=true then ((fI p0.op 1 14)>>=fun y19=>(some (if y19=true then (decide ((p0.kids.length:Int)=2)) else false))>>=fun y20=>(some (if y20=true then (decide ((p0.sub.length:Int)=0)) else false))>>=fun y21=>some y21) else (if (decide (p0.kind=5))=true then ((some (if (decide ((p0.kids.length:Int)=1))=true then (decide ((p0.sub.length:Int)=0)) else false))>>=fun y22=>some y22) else (if (decide (p0.kind=6))=true then ((some (if (decide ((p0.kids.length:Int)=3))=true then (decide ((p0.sub.length:Int)=0)) else false))>>=fun y23=>some y23) else (if (decide (p0.kind=7))=true then ((fI (p0.kids.length:Int) 2 9)>>=fun y24=>(some (if y24=true then (decide ((p0.sub.length:Int)=0)) else false))>>=fun y25=>some y25) else (if (decide (p0.kind=8))=true then ((some (if (decide ((p0.kids.length:Int)=1))=true then (decide ((p0.sub.length:Int)=1)) else false))>>=fun y26=>some y26) else (if (decide (p0.kind=9))=true then ((some (if (decide ((p0.kids.length:Int)=0))=true then (decide ((p0.sub.length:Int)=1)) else false))>>=fun y27=>some y27) else (some false)))))))))))
def aCs (p0:aA) (y3:List eO) (y4:List iJ) (F9:List UInt8):Option Bool :=
  (X8 (eO.mk p0.kind p0.op p0.not_ p0.value [] F9 y3 y4))>>=fun y5=>some y5
def aBt (p0:aA):Option Bool :=
  (if (true&&((!decide (p0.kind=2))==true))=true then some (if (!decide (p0.up=0))=true then true else (!decide (p0.at_=0))) else some default)>>=fun y1=>(some (if (!decide (p0.kind=2))=true then y1 else false))>>=fun y2=>if y2=true then (some false) else ((mkG 136 (p0.kids.length:Int) ((eO.mk 0 0 false (bH.mk 0 0 []) [] [] ([]:List eO) ([]:List iJ)):eO))>>=fun y3=>(mkG 112 (p0.sub.length:Int) ((iJ.mk false ([]:List nD) ([]:List mK) ([]:List eO) ([]:List mV) 0):iJ))>>=fun y4=>if (decide (p0.kind=2))=true then (aCs p0 y3 y4 [97]) else (aCs p0 y3 y4 []))
def oQ (p0:Int) (p1:Bool):Option (Int×Bool) :=
  if (!p1)=true then (some (0,false)) else (some (p0,true))
def X5 (p0:Int) (p1:Int):Option Bool :=
  (some (if (decide (p0=0))=true then true else (decide (p0=p1))))>>=fun y1=>some y1
def aFa (p1:Int) (p2:Int) (x10:Int):Option (Int×Bool) :=
  (X5 p1 x10)>>=fun y12=>(if (true&&(y12==true))=true then X5 p2 x10 else some default)>>=fun y13=>(some (if y12=true then y13 else false))>>=fun y14=>(oQ x10 y14)>>=fun y15=>some (y15.1,y15.2)
def yC (p0:Int):Option Bool :=
  (fI p0 0 3)>>=fun y1=>some y1
def vV (p0:Int) (p1:Int):Option (Int×Bool) :=
  (yC p0)>>=fun y1=>(if (true&&((!y1)==false))=true then yC p1 else some default)>>=fun y2=>(some (if (!y1)=true then true else (!y2)))>>=fun y3=>if y3=true then (some (0,false)) else (if (decide (p0=0))=true then (some (p1,true)) else ((some (if (decide (p1=0))=true then true else (decide (p0=p1))))>>=fun y4=>if y4=true then (some (p0,true)) else (some (0,false))))
def aF4 (p0:Int) (p1:Int) (p2:Int):Option (Int×Bool) :=
  (fI p0 1 14)>>=fun y1=>(if (true&&((!y1)==false))=true then yC p1 else some default)>>=fun y2=>(some (if (!y1)=true then true else (!y2)))>>=fun y3=>(if (true&&(y3==false))=true then yC p2 else some default)>>=fun y4=>(some (if y3=true then true else (!y4)))>>=fun y5=>if y5=true then (some (0,false)) else (if (decide (p0≤2))=true then ((F5 p1)>>=fun y6=>(if (true&&(y6==true))=true then F5 p2 else some default)>>=fun y7=>(some (if y6=true then y7 else false))>>=fun y8=>(oQ 3 y8)>>=fun y9=>some (y9.1,y9.2)) else (if (decide (p0≤8))=true then ((vV p1 p2)>>=fun y10=>(oQ 3 y10.2)>>=fun y11=>some (y11.1,y11.2)) else (if (decide (p0=9))=true then (aFa p1 p2 2) else (aFa p1 p2 1))))
def wT (p0:aP) (p1:aL) (x6:Int):Option Bool :=
  if (decide (x6<(p1.names.length:Int)))=true then ((idx p1.names x6)>>=fun y12=>(lY y12)>>=fun y13=>if (!y13)=true then (some false) else (wT p0 p1 (IntKind.wrap .i64 (x6+1)))) else ((yE p0 p1.tables)>>=fun y14=>some y14.2)
  partial_fixpoint
def wO (p0:aP) (p1:aL) (x5:Int):Option Bool :=
  if (decide (x5<(p1.on_.length:Int)))=true then ((idx p1.on_ x5)>>=fun y11=>if (decide (1<(y11.length:Int)))=true then (some false) else (wO p0 p1 (IntKind.wrap .i64 (x5+1)))) else (wT p0 p1 0)
  partial_fixpoint
def aFn (p0:aP) (p1:aL):Option Bool :=
  (fI (p1.tables.length:Int) 1 3)>>=fun y1=>(some (if (!y1)=true then true else (!decide ((p1.on_.length:Int)=(p1.tables.length:Int)))))>>=fun y2=>(if (true&&(y2==false))=true then idx p1.on_ 0 else some default)>>=fun y3=>(some (if y2=true then true else (decide (0<(y3.length:Int)))))>>=fun y4=>(some (if y4=true then true else (decide (1<(p1.where_.length:Int)))))>>=fun y5=>(some (if y5=true then true else (decide (12<(p1.order.length:Int)))))>>=fun y6=>(if (true&&(y6==false))=true then fI (p1.items.length:Int) 1 12 else some default)>>=fun y7=>(some (if y6=true then true else (!y7)))>>=fun y8=>(some (if y8=true then true else (!decide ((p1.names.length:Int)=(p1.items.length:Int)))))>>=fun y9=>(some (if y9=true then true else (decide (p1.limit<(-1)))))>>=fun y10=>if y10=true then (some false) else (wO p0 p1 0)
def xY (p0:List Int) (x3:Int) (x4:Int):Option Bool :=
  if (decide (x4<(p0.length:Int)))=true then ((idx p0 x4)>>=fun y1=>(vV x3 y1)>>=fun y2=>if (!y2.2)=true then (some false) else (xY p0 y2.1 (IntKind.wrap .i64 (x4+1)))) else (some true)
  partial_fixpoint
def F6 (p0:List Int):Option Bool :=
  xY p0 0 0
def tH (p2:aA) (zF:List Int):Option (Int×Bool) :=
  if (decide (p2.kind=5))=true then (some (3,true)) else ((F6 zF)>>=fun y23=>(oQ 3 y23)>>=fun y24=>some (y24.1,y24.2))
def aEh (p0:Int) (p1:Int):Option (Int×Bool) :=
  if (decide (p0=15))=true then ((F5 p1)>>=fun y1=>(oQ 3 y1)>>=fun y2=>some (y2.1,y2.2)) else (if (decide (p0=16))=true then ((X5 p1 1)>>=fun y3=>(oQ 1 y3)>>=fun y4=>some (y4.1,y4.2)) else (some (0,false)))
mutual
def vQ (y8:List (List Int)) (p0:aP) (p2:aL) (x17:List Int) (x18:Int):Option ((List Int)×Bool) :=
  if (decide (x18<(p2.items.length:Int)))=true then ((idx p2.items x18)>>=fun y12=>(uZ p0 y8 y12)>>=fun y13=>if (!y13.2)=true then (some (([]:List Int),false)) else ((appG 8 x17 ([y13.1]:List Int))>>=fun y14=>vQ y8 p0 p2 y14 (IntKind.wrap .i64 (x18+1)))) else (some (x17,true))
  partial_fixpoint
def H8 (y8:List (List Int)) (p0:aP) (p2:aL) (x14:Int):Option ((List Int)×Bool) :=
  if (decide (x14<(p2.order.length:Int)))=true then ((idx p2.order x14)>>=fun y10=>(uZ p0 y8 y10.expr)>>=fun y11=>if (!y11.2)=true then (some (([]:List Int),false)) else (H8 y8 p0 p2 (IntKind.wrap .i64 (x14+1)))) else (vQ y8 p0 p2 ([]:List Int) 0)
  partial_fixpoint
def Z8 (p1:List (List Int)) (p0:aP) (p2:aL) (x8:Int):Option ((List Int)×Bool) :=
  if (decide (x8<(p2.on_.length:Int)))=true then ((pY p2.tables 0 (IntKind.wrap .i64 (x8+1)))>>=fun y2=>(yE p0 y2)>>=fun y3=>(zG y3.1 p1)>>=fun y4=>(idx p2.on_ x8)>>=fun y5=>(U0 p0 y4 y5)>>=fun y6=>if (!y6)=true then (some (([]:List Int),false)) else (Z8 p1 p0 p2 (IntKind.wrap .i64 (x8+1)))) else ((yE p0 p2.tables)>>=fun y7=>(zG y7.1 p1)>>=fun y8=>(U0 p0 y8 p2.where_)>>=fun y9=>if (!y9)=true then (some (([]:List Int),false)) else (H8 y8 p0 p2 0))
  partial_fixpoint
def aBe (p0:aP) (p1:List (List Int)) (p2:aL):Option ((List Int)×Bool) :=
  (aFn p0 p2)>>=fun y1=>if (!y1)=true then (some (([]:List Int),false)) else (Z8 p1 p0 p2 0)
  partial_fixpoint
def nU (p1:List (List Int)) (p0:aP) (p2:aA) (x8:List Int) (x9:Int):Option (Int×Bool) :=
  if (decide (x9<(p2.kids.length:Int)))=true then ((idx p2.kids x9)>>=fun y2=>(uZ p0 p1 y2)>>=fun y3=>if (!y3.2)=true then (some (0,false)) else ((appG 8 x8 ([y3.1]:List Int))>>=fun y4=>nU p1 p0 p2 y4 (IntKind.wrap .i64 (x9+1)))) else (if (decide (p2.kind=1))=true then (some (p2.value.kind,true)) else (if (decide (p2.kind=2))=true then ((fI p2.up 0 (IntKind.wrap .i64 ((p1.length:Int) - 1)))>>=fun y5=>(if (true&&((!y5)==false))=true then idx p1 p2.up else some default)>>=fun y6=>(if (true&&((!y5)==false))=true then fI p2.at_ 0 (IntKind.wrap .i64 ((y6.length:Int) - 1)) else some default)>>=fun y7=>(some (if (!y5)=true then true else (!y7)))>>=fun y8=>if y8=true then (some (0,false)) else ((idx p1 p2.up)>>=fun y9=>(idx y9 p2.at_)>>=fun y10=>some (y10,true))) else (if (decide (p2.kind=3))=true then ((idx x8 0)>>=fun y11=>(aEh p2.op y11)>>=fun y12=>some (y12.1,y12.2)) else (if (decide (p2.kind=4))=true then ((idx x8 0)>>=fun y13=>(idx x8 1)>>=fun y14=>(aF4 p2.op y13 y14)>>=fun y15=>some (y15.1,y15.2)) else (if (decide (0<(p2.sub.length:Int)))=true then ((idx p2.sub 0)>>=fun y16=>(aBe p0 p1 y16)>>=fun y17=>(if (true&&((!y17.2)==false))=true then some (if (decide (p2.kind=8))=true then (!decide ((y17.1.length:Int)=1)) else false) else some default)>>=fun y18=>(some (if (!y17.2)=true then true else y18))>>=fun y19=>if y19=true then (some (0,false)) else (if (decide (p2.kind=8))=true then ((idx y17.1 0)>>=fun y20=>(appG 8 x8 ([y20]:List Int))>>=fun y21=>tH p2 y21) else (tH p2 x8))) else (tH p2 x8))))))
  partial_fixpoint
def uZ (p0:aP) (p1:List (List Int)) (p2:aA):Option (Int×Bool) :=
  (aBt p2)>>=fun y1=>if (!y1)=true then (some (0,false)) else (nU p1 p0 p2 ([]:List Int) 0)
  partial_fixpoint
def U1 (p1:List (List Int)) (p2:List aA) (p0:aP) (x7:Int):Option Bool :=
  if (decide (x7<(p2.length:Int)))=true then ((idx p2 x7)>>=fun y1=>(uZ p0 p1 y1)>>=fun y2=>(if (true&&((!y2.2)==false))=true then F5 y2.1 else some default)>>=fun y3=>(some (if (!y2.2)=true then true else (!y3)))>>=fun y4=>if y4=true then (some false) else (U1 p1 p2 p0 (IntKind.wrap .i64 (x7+1)))) else (some true)
  partial_fixpoint
def U0 (p0:aP) (p1:List (List Int)) (p2:List aA):Option Bool :=
  U1 p1 p2 p0 0
  partial_fixpoint
end
def tY (p0:Int) (p1:Int):Option Int :=
  if (decide (p1<p0))=true then (some p0) else (some p1)
def xM (p0:aL) (eY:List aA) (x5:Int):Option (List aA) :=
  if (decide (x5<(p0.order.length:Int)))=true then ((idx p0.order x5)>>=fun y5=>(appG 120 eY ([y5.expr]:List aA))>>=fun y6=>xM p0 y6 (IntKind.wrap .i64 (x5+1))) else ((appG 120 eY p0.items)>>=fun y7=>some y7)
  partial_fixpoint
def X6 (p0:aL) (x3:List aA) (x4:Int):Option (List aA) :=
  if (decide (x4<(p0.on_.length:Int)))=true then ((idx p0.on_ x4)>>=fun y1=>(appG 120 x3 y1)>>=fun y2=>X6 p0 y2 (IntKind.wrap .i64 (x4+1))) else ((appG 120 x3 p0.where_)>>=fun y3=>xM p0 y3 0)
  partial_fixpoint
def aCe (p0:aL):Option (List aA) :=
  X6 p0 ([]:List aA) 0
mutual
def zQ (y1:List aA) (x3:Int) (x5:Int):Option Int :=
  if (decide (x5<(y1.length:Int)))=true then ((idx y1 x5)>>=fun y2=>(uK y2)>>=fun y3=>(tY x3 y3)>>=fun y4=>zQ y1 y4 (IntKind.wrap .i64 (x5+1))) else (some x3)
  partial_fixpoint
def Z0 (p0:aL):Option Int :=
  (aCe p0)>>=fun y1=>zQ y1 0 0
  partial_fixpoint
def Y0 (p0:aA) (eY:Int) (x5:Int):Option Int :=
  if (decide (x5<(p0.sub.length:Int)))=true then ((idx p0.sub x5)>>=fun y5=>(Z0 y5)>>=fun y6=>(tY eY y6)>>=fun y7=>Y0 p0 y7 (IntKind.wrap .i64 (x5+1))) else (some (IntKind.wrap .i64 (eY+1)))
  partial_fixpoint
def aB0 (p0:aA) (x3:Int) (x4:Int):Option Int :=
  if (decide (x4<(p0.kids.length:Int)))=true then ((idx p0.kids x4)>>=fun y1=>(uK y1)>>=fun y2=>(tY x3 y2)>>=fun y3=>aB0 p0 y3 (IntKind.wrap .i64 (x4+1))) else (Y0 p0 x3 0)
  partial_fixpoint
def uK (p0:aA):Option Int :=
  aB0 p0 0 0
  partial_fixpoint
end
mutual
def zJ (y1:List aA) (x3:Int) (x5:Int):Option Int :=
  if (decide (x5<(y1.length:Int)))=true then ((idx y1 x5)>>=fun y2=>(tQ y2)>>=fun y3=>zJ y1 (IntKind.wrap .i64 (x3+y3)) (IntKind.wrap .i64 (x5+1))) else (some x3)
  partial_fixpoint
def Y9 (p0:aL):Option Int :=
  (aCe p0)>>=fun y1=>zJ y1 0 0
  partial_fixpoint
def R7 (p0:aA) (oC:Int) (x5:Int):Option Int :=
  if (decide (x5<(p0.sub.length:Int)))=true then ((idx p0.sub x5)>>=fun y4=>(Y9 y4)>>=fun y5=>R7 p0 (IntKind.wrap .i64 (oC+y5)) (IntKind.wrap .i64 (x5+1))) else (some oC)
  partial_fixpoint
def aAy (p0:aA) (x3:Int) (x4:Int):Option Int :=
  if (decide (x4<(p0.kids.length:Int)))=true then ((idx p0.kids x4)>>=fun y1=>(tQ y1)>>=fun y2=>aAy p0 (IntKind.wrap .i64 (x3+y2)) (IntKind.wrap .i64 (x4+1))) else (R7 p0 x3 0)
  partial_fixpoint
def tQ (p0:aA):Option Int :=
  aAy p0 1 0
  partial_fixpoint
end
def xB (y1:List aA) (x4:Int) (x5:Int):Option Bool :=
  if (decide (x5<(y1.length:Int)))=true then ((idx y1 x5)>>=fun y2=>(tQ y2)>>=fun y3=>(idx y1 x5)>>=fun y4=>(uK y4)>>=fun y5=>if (decide (24<y5))=true then (some false) else (xB y1 (IntKind.wrap .i64 (x4+y3)) (IntKind.wrap .i64 (x5+1)))) else (some (decide (x4≤200)))
  partial_fixpoint
def O7 (p0:bC) (x3:List aA) (x4:Int):Option (List aA) :=
  if (decide (x4<(p0.rows.length:Int)))=true then ((idx p0.rows x4)>>=fun y1=>(appG 120 x3 y1)>>=fun y2=>O7 p0 y2 (IntKind.wrap .i64 (x4+1))) else ((appG 120 x3 p0.sets)>>=fun y3=>(appG 120 y3 p0.where_)>>=fun y4=>some y4)
  partial_fixpoint
def aDa (p0:bC):Option (List aA) :=
  O7 p0 ([]:List aA) 0
def aDh (p0:bC):Option Bool :=
  (aDa p0)>>=fun y1=>xB y1 0 0
def aC5 (p0:aP) (p1:List (List Int)) (p2:aA) (p3:Int):Option Bool :=
  (uZ p0 p1 p2)>>=fun y1=>(vV y1.1 p3)>>=fun y2=>(some (if y1.2=true then y2.2 else false))>>=fun y3=>some y3
mutual
def K9 (y2:List Int) (x6:Int) (p0:aP) (p1:bC) (x7:Int):Option Bool :=
  if (decide (x7<(y2.length:Int)))=true then ((idx p1.rows x6)>>=fun y6=>(idx y6 x7)>>=fun y7=>(idx y2 x7)>>=fun y8=>(aC5 p0 ([]:List (List Int)) y7 y8)>>=fun y9=>if (!y9)=true then (some false) else (K9 y2 x6 p0 p1 (IntKind.wrap .i64 (x7+1)))) else (yZ y2 p0 p1 (IntKind.wrap .i64 (x6+1)))
  partial_fixpoint
def yZ (y2:List Int) (p0:aP) (p1:bC) (x6:Int):Option Bool :=
  if (decide (x6<(p1.rows.length:Int)))=true then ((idx p1.rows x6)>>=fun y3=>if (!decide ((y3.length:Int)=(y2.length:Int)))=true then (some false) else (K9 y2 x6 p0 p1 0)) else ((fI (p1.rows.length:Int) 1 5)>>=fun y4=>(some (if y4=true then (decide ((IntKind.wrap .i64 ((IntKind.wrap .i64 ((p1.cols.length:Int)+(p1.sets.length:Int)))+(p1.where_.length:Int)))=0)) else false))>>=fun y5=>some y5)
  partial_fixpoint
end
def aF7 (p0:aP) (p1:bC):Option Bool :=
  (idx p0.tables p1.table)>>=fun y1=>(wR y1)>>=fun y2=>yZ y2 p0 p1 0
def I6 (p0:List Int) (p1:Int) (x5:Int):Option Bool :=
  if (decide (x5<(p0.length:Int)))=true then ((idx p0 x5)>>=fun y1=>if (decide (y1=p1))=true then (some true) else (I6 p0 p1 (IntKind.wrap .i64 (x5+1)))) else (some false)
  partial_fixpoint
def aD8 (p0:List Int) (p1:Int):Option Bool :=
  I6 p0 p1 0
def xQ (p2:List (List Int)) (y2:List Int) (p0:aP) (p1:bC) (x8:Int):Option Bool :=
  if (decide (x8<(p1.cols.length:Int)))=true then ((idx p1.cols x8)>>=fun y3=>(fI y3 0 (IntKind.wrap .i64 ((y2.length:Int) - 1)))>>=fun y4=>(if (true&&((!y4)==false))=true then pY p1.cols 0 x8 else some default)>>=fun y5=>(if (true&&((!y4)==false))=true then idx p1.cols x8 else some default)>>=fun y6=>(if (true&&((!y4)==false))=true then aD8 y5 y6 else some default)>>=fun y7=>(some (if (!y4)=true then true else y7))>>=fun y8=>(if (true&&(y8==false))=true then idx p1.sets x8 else some default)>>=fun y9=>(if (true&&(y8==false))=true then idx p1.cols x8 else some default)>>=fun y10=>(if (true&&(y8==false))=true then idx y2 y10 else some default)>>=fun y11=>(if (true&&(y8==false))=true then aC5 p0 p2 y9 y11 else some default)>>=fun y12=>(some (if y8=true then true else (!y12)))>>=fun y13=>if y13=true then (some false) else (xQ p2 y2 p0 p1 (IntKind.wrap .i64 (x8+1)))) else (some true)
  partial_fixpoint
def aM5 (p0:aP) (p1:bC) (p2:List (List Int)):Option Bool :=
  (idx p0.tables p1.table)>>=fun y1=>(wR y1)>>=fun y2=>if (!decide ((p1.cols.length:Int)=(p1.sets.length:Int)))=true then (some false) else (xQ p2 y2 p0 p1 0)
def zW (p0:List Int) (p1:List Int) (x5:Int):Option Bool :=
  if (decide (x5<(p0.length:Int)))=true then ((idx p0 x5)>>=fun y1=>(idx p1 x5)>>=fun y2=>if (!decide (y1=y2))=true then (some false) else (zW p0 p1 (IntKind.wrap .i64 (x5+1)))) else (some true)
  partial_fixpoint
def H6 (p0:List Int) (p1:List Int):Option Bool :=
  if (!decide ((p0.length:Int)=(p1.length:Int)))=true then (some false) else (zW p0 p1 0)
def zR (p0:List (List UInt8)) (p1:List (List UInt8)) (x5:Int):Option Bool :=
  if (decide (x5<(p0.length:Int)))=true then ((idx p0 x5)>>=fun y1=>(idx p1 x5)>>=fun y2=>if (!decide (y1=y2))=true then (some false) else (zR p0 p1 (IntKind.wrap .i64 (x5+1)))) else (some true)
  partial_fixpoint
def O8 (p0:List (List UInt8)) (p1:List (List UInt8)):Option Bool :=
  if (!decide ((p0.length:Int)=(p1.length:Int)))=true then (some false) else (zR p0 p1 0)
mutual
def uN (p0:aL) (p1:aL) (x6:Int):Option Bool :=
  if (decide (x6<(p0.order.length:Int)))=true then ((idx p0.order x6)>>=fun y15=>(idx p1.order x6)>>=fun y16=>(if (true&&((!(y15.desc==y16.desc))==false))=true then idx p0.order x6 else some default)>>=fun y17=>(if (true&&((!(y15.desc==y16.desc))==false))=true then idx p1.order x6 else some default)>>=fun y18=>(if (true&&((!(y15.desc==y16.desc))==false))=true then xU y17.expr y18.expr else some default)>>=fun y19=>(some (if (!(y15.desc==y16.desc))=true then true else (!y19)))>>=fun y20=>if y20=true then (some false) else (uN p0 p1 (IntKind.wrap .i64 (x6+1)))) else (some true)
  partial_fixpoint
def F4 (p0:aL) (p1:aL) (x5:Int):Option Bool :=
  if (decide (x5<(p0.on_.length:Int)))=true then ((idx p0.on_ x5)>>=fun y12=>(idx p1.on_ x5)>>=fun y13=>(nV y12 y13)>>=fun y14=>if (!y14)=true then (some false) else (F4 p0 p1 (IntKind.wrap .i64 (x5+1)))) else (uN p0 p1 0)
  partial_fixpoint
def Z6 (p0:aA) (p1:aA) (x5:Int):Option Bool :=
  if (decide (x5<(p0.sub.length:Int)))=true then ((idx p0.sub x5)>>=fun y9=>(idx p1.sub x5)>>=fun y10=>(uH y9 y10)>>=fun y11=>if (!y11)=true then (some false) else (Z6 p0 p1 (IntKind.wrap .i64 (x5+1)))) else (some true)
  partial_fixpoint
def xU (p0:aA) (p1:aA):Option Bool :=
  (some (if (!decide (p0.kind=p1.kind))=true then true else (!decide (p0.op=p1.op))))>>=fun y1=>(some (if y1=true then true else (!(p0.not_==p1.not_))))>>=fun y2=>(some (if y2=true then true else (!((decide (p0.value.kind=p1.value.kind))&&((decide (p0.value.num=p1.value.num))&&((decide (p0.value.text=p1.value.text))&&true))))))>>=fun y3=>(some (if y3=true then true else (!decide (p0.up=p1.up))))>>=fun y4=>(some (if y4=true then true else (!decide (p0.at_=p1.at_))))>>=fun y5=>(some (if y5=true then true else (!decide ((p0.sub.length:Int)=(p1.sub.length:Int)))))>>=fun y6=>(if (true&&(y6==false))=true then nV p0.kids p1.kids else some default)>>=fun y7=>(some (if y6=true then true else (!y7)))>>=fun y8=>if y8=true then (some false) else (Z6 p0 p1 0)
  partial_fixpoint
def Y3 (p0:List aA) (p1:List aA) (x5:Int):Option Bool :=
  if (decide (x5<(p0.length:Int)))=true then ((idx p0 x5)>>=fun y1=>(idx p1 x5)>>=fun y2=>(xU y1 y2)>>=fun y3=>if (!y3)=true then (some false) else (Y3 p0 p1 (IntKind.wrap .i64 (x5+1)))) else (some true)
  partial_fixpoint
def nV (p0:List aA) (p1:List aA):Option Bool :=
  if (!decide ((p0.length:Int)=(p1.length:Int)))=true then (some false) else (Y3 p0 p1 0)
  partial_fixpoint
def uH (p0:aL) (p1:aL):Option Bool :=
  (some (if (!(p0.distinct==p1.distinct))=true then true else (!decide (p0.limit=p1.limit))))>>=fun y1=>(if (true&&(y1==false))=true then H6 p0.tables p1.tables else some default)>>=fun y2=>(some (if y1=true then true else (!y2)))>>=fun y3=>(some (if y3=true then true else (!decide ((p0.on_.length:Int)=(p1.on_.length:Int)))))>>=fun y4=>(if (true&&(y4==false))=true then nV p0.where_ p1.where_ else some default)>>=fun y5=>(some (if y4=true then true else (!y5)))>>=fun y6=>(some (if y6=true then true else (!decide ((p0.order.length:Int)=(p1.order.length:Int)))))>>=fun y7=>(if (true&&(y7==false))=true then nV p0.items p1.items else some default)>>=fun y8=>(some (if y7=true then true else (!y8)))>>=fun y9=>(if (true&&(y9==false))=true then O8 p0.names p1.names else some default)>>=fun y10=>(some (if y9=true then true else (!y10)))>>=fun y11=>if y11=true then (some false) else (F4 p0 p1 0)
  partial_fixpoint
end
def aDf (p0:aP) (p1:aL):Option Bool :=
  (aBw p0)>>=fun y1=>(if (true&&((!y1)==false))=true then Z0 p1 else some default)>>=fun y2=>(some (if (!y1)=true then true else (decide (24<y2))))>>=fun y3=>(if (true&&(y3==false))=true then Y9 p1 else some default)>>=fun y4=>(some (if y3=true then true else (decide (200<y4))))>>=fun y5=>if y5=true then (some false) else ((aBe p0 ([]:List (List Int)) p1)>>=fun y6=>some y6.2)
def R5 (p0:aP) (p1:bC):Option Bool :=
  if (decide (p1.kind=1))=true then ((aDf p0 p1.plan)>>=fun y1=>(some (if y1=true then (decide (p1.table=0)) else false))>>=fun y2=>(some (if y2=true then (decide ((IntKind.wrap .i64 ((IntKind.wrap .i64 ((IntKind.wrap .i64 ((p1.rows.length:Int)+(p1.cols.length:Int)))+(p1.sets.length:Int)))+(p1.where_.length:Int)))=0)) else false))>>=fun y3=>some y3) else ((aBw p0)>>=fun y4=>(if (true&&((!y4)==false))=true then fI p1.kind 2 4 else some default)>>=fun y5=>(some (if (!y4)=true then true else (!y5)))>>=fun y6=>(if (true&&(y6==false))=true then fI p1.table 0 (IntKind.wrap .i64 ((p0.tables.length:Int) - 1)) else some default)>>=fun y7=>(some (if y6=true then true else (!y7)))>>=fun y8=>(if (true&&(y8==false))=true then uH p1.plan (aL.mk ([]:List Int) ([]:List (List aA)) ([]:List aA) ([]:List bO) ([]:List aA) ([]:List (List UInt8)) false 0) else some default)>>=fun y9=>(some (if y8=true then true else (!y9)))>>=fun y10=>(if (true&&(y10==false))=true then aDh p1 else some default)>>=fun y11=>(some (if y10=true then true else (!y11)))>>=fun y12=>if y12=true then (some false) else (if (decide (p1.kind=2))=true then ((aF7 p0 p1)>>=fun y13=>some y13) else ((idx p0.tables p1.table)>>=fun y14=>(wR y14)>>=fun y15=>(some (if (decide (0<(p1.rows.length:Int)))=true then true else (decide (1<(p1.where_.length:Int)))))>>=fun y16=>(if (true&&(y16==false))=true then U0 p0 ([y15]:List (List Int)) p1.where_ else some default)>>=fun y17=>(some (if y16=true then true else (!y17)))>>=fun y18=>if y18=true then (some false) else (if (decide (p1.kind=4))=true then (some (decide ((IntKind.wrap .i64 ((p1.cols.length:Int)+(p1.sets.length:Int)))=0))) else ((if (true&&((decide (0<(p1.cols.length:Int)))==true))=true then aM5 p0 p1 ([y15]:List (List Int)) else some default)>>=fun y19=>(some (if (decide (0<(p1.cols.length:Int)))=true then y19 else false))>>=fun y20=>some y20)))))
def D8 (p0:bC) (p1:bC) (x5:Int):Option Bool :=
  if (decide (x5<(p0.rows.length:Int)))=true then ((idx p0.rows x5)>>=fun y11=>(idx p1.rows x5)>>=fun y12=>(nV y11 y12)>>=fun y13=>if (!y13)=true then (some false) else (D8 p0 p1 (IntKind.wrap .i64 (x5+1)))) else (some true)
  partial_fixpoint
def aEp (p0:bC) (p1:bC):Option Bool :=
  (some (if (!decide (p0.kind=p1.kind))=true then true else (!decide (p0.table=p1.table))))>>=fun y1=>(if (true&&(y1==false))=true then uH p0.plan p1.plan else some default)>>=fun y2=>(some (if y1=true then true else (!y2)))>>=fun y3=>(some (if y3=true then true else (!decide ((p0.rows.length:Int)=(p1.rows.length:Int)))))>>=fun y4=>(if (true&&(y4==false))=true then H6 p0.cols p1.cols else some default)>>=fun y5=>(some (if y4=true then true else (!y5)))>>=fun y6=>(if (true&&(y6==false))=true then nV p0.sets p1.sets else some default)>>=fun y7=>(some (if y6=true then true else (!y7)))>>=fun y8=>(if (true&&(y8==false))=true then nV p0.where_ p1.where_ else some default)>>=fun y9=>(some (if y8=true then true else (!y9)))>>=fun y10=>if y10=true then (some false) else (D8 p0 p1 0)
def aJn (p0:List Int):Option Bool :=
  some (decide (1048576<(p0.length:Int)))
def aF5 (p0:List Int):Option Bool :=
  (aJn p0)>>=fun y1=>if y1=true then (some true) else ((aEx p0)>>=fun y2=>(aFk p0)>>=fun y3=>(aE4 y3.1 y3.2)>>=fun y4=>(R5 y3.1 y3.2)>>=fun y5=>(if (true&&((!(y4==y5))==false))=true then Z7 y3.2 y3.2 else some default)>>=fun y6=>(some (if (!(y4==y5))=true then true else (!y6)))>>=fun y7=>if y7=true then (some false) else ((Z7 y2.1 y2.2)>>=fun y8=>(Z7 y2.2 y2.1)>>=fun y9=>(if (true&&((y8==y9)==true))=true then aEp y2.1 y2.2 else some default)>>=fun y10=>(some (if (y8==y9)=true then (y8==y10) else false))>>=fun y11=>(if ((true&&(y11==true))&&((!y8)==false))=true then R5 y3.1 y2.1 else some default)>>=fun y12=>(if ((true&&(y11==true))&&((!y8)==false))=true then R5 y3.1 y2.2 else some default)>>=fun y13=>(if (true&&(y11==true))=true then some (if (!y8)=true then true else (y12==y13)) else some default)>>=fun y14=>(some (if y11=true then y14 else false))>>=fun y15=>some y15))
end Go.Ab
