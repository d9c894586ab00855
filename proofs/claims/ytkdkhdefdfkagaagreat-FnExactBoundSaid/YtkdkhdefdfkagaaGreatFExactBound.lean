/- The functions of the program,as Lean functions (printed by a program). -/
import Derived.Test.YtkdkhdefdfkagaaGreatAbF0
namespace Go.Ab
open Go
structure eG where
  name:(List UInt8)
  type:Int
instance:Inhabited eG:=⟨(eG.mk [] 0)⟩
structure bO where
  name:(List UInt8)
  cols:(List eG)
instance:Inhabited bO:=⟨(bO.mk [] [])⟩
structure bB where
  tables:(List bO)
instance:Inhabited bB:=⟨(bB.mk [])⟩
structure fT where
  kind:Int
  num:Int
  text:(List UInt8)
instance:Inhabited fT:=⟨(fT.mk 0 0 [])⟩
mutual
structure aA where
  kind:Int
  op:Int
  not_:Bool
  value:fT
  qual:(List UInt8)
  name:(List UInt8)
  kids:(List aA)
  sub:(List aJ)
structure bR where
  star:Bool
  qual:(List UInt8)
  expr:aA
  as_:(List UInt8)
structure aJ where
  distinct:Bool
  items:(List bR)
  from_:(List bD)
  where_:(List aA)
  order:(List bX)
  limit:Int
structure bX where
  expr:aA
  desc:Bool
structure bD where
  table:(List UInt8)
  as_:(List UInt8)
  on_:(List aA)
end
instance:Inhabited aA:=⟨(aA.mk 0 0 false (fT.mk 0 0 []) [] [] [] [])⟩
instance:Inhabited bR:=⟨(bR.mk false [] (aA.mk 0 0 false (fT.mk 0 0 []) [] [] [] []) [])⟩
instance:Inhabited aJ:=⟨(aJ.mk false [] [] [] [] 0)⟩
instance:Inhabited bX:=⟨(bX.mk (aA.mk 0 0 false (fT.mk 0 0 []) [] [] [] []) false)⟩
instance:Inhabited bD:=⟨(bD.mk [] [] [])⟩
structure aB where
  qual:(List UInt8)
  name:(List UInt8)
  count:Int
  up:Int
  at_:Int
instance:Inhabited aB:=⟨(aB.mk [] [] 0 0 0)⟩
structure dR where
  qual:(List UInt8)
  name:(List UInt8)
  type:Int
instance:Inhabited dR:=⟨(dR.mk [] [] 0)⟩
structure aL where
  names:(List dR)
instance:Inhabited aL:=⟨(aL.mk [])⟩
structure bF where
  c:bB
  list:(List aB)
  failed:Bool
instance:Inhabited bF:=⟨(bF.mk (bB.mk []) [] false)⟩
structure gQ where
  op:Bool
  not_:Bool
  value:Bool
  name:Bool
  least:Int
  most:Int
  subs:Int
instance:Inhabited gQ:=⟨(gQ.mk false false false false 0 0 0)⟩
def okGCol (x:eG):Prop:=okS x.name∧okI x.type
def okGTable (x:bO):Prop:=okS x.name∧(okL okGCol) x.cols
def okGCatalog (x:bB):Prop:=(okL okGTable) x.tables
def okGValue (x:fT):Prop:=okI x.kind∧okI x.num∧okS x.text
mutual
def okGExpr:aA→Prop
  | ⟨a0,a1,a2,a3,a4,a5,a6,a7⟩=>okI a0∧okI a1∧okB a2∧okGValue a3∧okS a4∧okS a5∧(a6.length≤9223372036854775807∧okLGExpr a6)∧(a7.length≤9223372036854775807∧okLGQuery a7)
def okGItem:bR→Prop
  | ⟨a0,a1,a2,a3⟩=>okB a0∧okS a1∧okGExpr a2∧okS a3
def okGQuery:aJ→Prop
  | ⟨a0,a1,a2,a3,a4,a5⟩=>okB a0∧(a1.length≤9223372036854775807∧okLGItem a1)∧(a2.length≤9223372036854775807∧okLGSource a2)∧(a3.length≤9223372036854775807∧okLGExpr a3)∧(a4.length≤9223372036854775807∧okLGSortKey a4)∧okI a5
def okGSortKey:bX→Prop
  | ⟨a0,a1⟩=>okGExpr a0∧okB a1
def okGSource:bD→Prop
  | ⟨a0,a1,a2⟩=>okS a0∧okS a1∧(a2.length≤9223372036854775807∧okLGExpr a2)
def okLGExpr:List aA→Prop
  | []=>True
  | x::l=>okGExpr x∧okLGExpr l
def okLGItem:List bR→Prop
  | []=>True
  | x::l=>okGItem x∧okLGItem l
def okLGQuery:List aJ→Prop
  | []=>True
  | x::l=>okGQuery x∧okLGQuery l
def okLGSortKey:List bX→Prop
  | []=>True
  | x::l=>okGSortKey x∧okLGSortKey l
def okLGSource:List bD→Prop
  | []=>True
  | x::l=>okGSource x∧okLGSource l
end
def okGUse (x:aB):Prop:=okS x.qual∧okS x.name∧okI x.count∧okI x.up∧okI x.at_
def okGNamed (x:dR):Prop:=okS x.qual∧okS x.name∧okI x.type
def okGScope (x:aL):Prop:=(okL okGNamed) x.names
def okGUser (x:bF):Prop:=okGCatalog x.c∧(okL okGUse) x.list∧okB x.failed
def okGForm (x:gQ):Prop:=okB x.op∧okB x.not_∧okB x.value∧okB x.name∧okI x.least∧okI x.most∧okI x.subs
def aGy (p0:aB):Option Bool :=
  some (!decide (p0.count=1))
def uN (p0:(List aB)) (x8:Int):Option Int :=
  if (decide (x8<(p0.length:Int)))=true then ((idx p0 x8)>>=fun y1=>(aGy y1)>>=fun y2=>if y2=true then (some x8) else (uN p0 (IntKind.wrap .i64 (x8+1)))) else (some (-1))
  partial_fixpoint
def aMu (p0:(List aB)):Option Int :=
  uN p0 0
def aIr (p0:(List aB)):Option Bool :=
  (aMu p0)>>=fun y1=>some (decide (0≤y1))
def aEj (p0:eG) (c0_0:(List UInt8)):Option Bool :=
  some (decide (p0.name=c0_0))
def xZ (p0:(List eG)) (c0_0:(List UInt8)) (x8:Int):Option Int :=
  if (decide (x8<(p0.length:Int)))=true then ((idx p0 x8)>>=fun y1=>(aEj y1 c0_0)>>=fun y2=>if y2=true then (some x8) else (xZ p0 c0_0 (IntKind.wrap .i64 (x8+1)))) else (some (-1))
  partial_fixpoint
def aH5 (p0:(List eG)) (c0_0:(List UInt8)):Option Int :=
  xZ p0 c0_0 0
def aAz (p0:bO) (p1:(List UInt8)):Option Int :=
  (aH5 p0.cols p1)>>=fun y1=>some y1
def oL (p0:(List UInt8)):Option Bool :=
  (some (if (decide (1≤(p0.length:Int)))=true then (decide ((p0.length:Int)≤20)) else false))>>=fun y1=>some y1
def yD (p0:bO) (x8:Int):Option Bool :=
  if (decide (x8<(p0.cols.length:Int)))=true then ((idx p0.cols x8)>>=fun y1=>(oL y1.name)>>=fun y2=>(some (if (!y2)=true then true else (decide (y1.type<1))))>>=fun y3=>(some (if y3=true then true else (decide (3<y1.type))))>>=fun y4=>(if (true&&(y4==false))=true then aAz p0 y1.name else some default)>>=fun y5=>(some (if y4=true then true else (!decide (y5=x8))))>>=fun y6=>if y6=true then (some false) else (yD p0 (IntKind.wrap .i64 (x8+1)))) else ((oL p0.name)>>=fun y7=>(some (if y7=true then (decide (1≤(p0.cols.length:Int))) else false))>>=fun y8=>(some (if y8=true then (decide ((p0.cols.length:Int)≤4)) else false))>>=fun y9=>some y9)
  partial_fixpoint
def aJ1 (p0:bO):Option Bool :=
  yD p0 0
def aFl (p0:bO) (c0_0:(List UInt8)):Option Bool :=
  some (decide (p0.name=c0_0))
def xV (p0:(List bO)) (c0_0:(List UInt8)) (x8:Int):Option Int :=
  if (decide (x8<(p0.length:Int)))=true then ((idx p0 x8)>>=fun y1=>(aFl y1 c0_0)>>=fun y2=>if y2=true then (some x8) else (xV p0 c0_0 (IntKind.wrap .i64 (x8+1)))) else (some (-1))
  partial_fixpoint
def aHq (p0:(List bO)) (c0_0:(List UInt8)):Option Int :=
  xV p0 c0_0 0
def wM (p0:bB) (p1:(List UInt8)):Option Int :=
  (aHq p0.tables p1)>>=fun y1=>some y1
def yG (p0:bB) (x8:Int):Option Bool :=
  if (decide (x8<(p0.tables.length:Int)))=true then ((idx p0.tables x8)>>=fun y1=>(aJ1 y1)>>=fun y2=>(if (true&&((!y2)==false))=true then wM p0 y1.name else some default)>>=fun y3=>(some (if (!y2)=true then true else (!decide (y3=x8))))>>=fun y4=>if y4=true then (some false) else (yG p0 (IntKind.wrap .i64 (x8+1)))) else (some (decide ((p0.tables.length:Int)≤4)))
  partial_fixpoint
def aFz (p0:bB):Option Bool :=
  yG p0 0
def sS (p0:(List UInt8)):Option Bool :=
  (if (true&&((decide (p0=[]))==false))=true then oL p0 else some default)>>=fun y1=>(some (if (decide (p0=[]))=true then true else y1))>>=fun y2=>some y2
def aH9 (p0:fT):Option Bool :=
  if (decide (p0.kind=0))=true then ((some (if (decide (p0.num=0))=true then (decide (p0.text=[])) else false))>>=fun y1=>some y1) else (if (decide (p0.kind=1))=true then (some (decide (p0.text=[]))) else (if (decide (p0.kind=2))=true then ((some (if (decide (p0.num=0))=true then (decide ((p0.text.length:Int)≤200)) else false))>>=fun y2=>some y2) else (if (decide (p0.kind=3))=true then ((some (if (decide (p0.num=0))=true then true else (decide (p0.num=1))))>>=fun y3=>(some (if y3=true then (decide (p0.text=[])) else false))>>=fun y4=>some y4) else (some false))))
def aAj (p0:fT):Option Bool :=
  (aH9 p0)>>=fun y1=>(if (true&&(y1==true))=true then some (if (!decide (p0.kind=1))=true then true else (decide (0≤p0.num))) else some default)>>=fun y2=>(some (if y1=true then y2 else false))>>=fun y3=>(some (if y3=true then (decide ((p0.text.length:Int)≤40)) else false))>>=fun y4=>some y4
def J8 (p0:aA):Option (gQ×Bool) :=
  if (decide (p0.kind=1))=true then ((aAj p0.value)>>=fun y1=>some ((gQ.mk false false true false 0 0 0),y1)) else (if (decide (p0.kind=2))=true then ((oL p0.name)>>=fun y2=>(if ((true&&(y2==true))&&((decide (p0.qual=[]))==false))=true then oL p0.qual else some default)>>=fun y3=>(if (true&&(y2==true))=true then some (if (decide (p0.qual=[]))=true then true else y3) else some default)>>=fun y4=>(some (if y2=true then y4 else false))>>=fun y5=>some ((gQ.mk false false false true 0 0 0),y5)) else (if (decide (p0.kind=3))=true then ((some (if (decide (p0.op=15))=true then true else (decide (p0.op=16))))>>=fun y6=>some ((gQ.mk true false false false 1 1 0),y6)) else (if (decide (p0.kind=4))=true then ((some (if (decide (1≤p0.op))=true then (decide (p0.op≤14)) else false))>>=fun y7=>some ((gQ.mk true false false false 2 2 0),y7)) else (if (decide (p0.kind=5))=true then (some ((gQ.mk false true false false 1 1 0),true)) else (if (decide (p0.kind=6))=true then (some ((gQ.mk false true false false 3 3 0),true)) else (if (decide (p0.kind=7))=true then (some ((gQ.mk false true false false 2 9 0),true)) else (if (decide (p0.kind=8))=true then (some ((gQ.mk false true false false 1 1 1),true)) else (if (decide (p0.kind=9))=true then (some ((gQ.mk false false false false 0 0 1),true)) else (some ((gQ.mk false false false false 0 0 0),false))))))))))
def yC (p0:aJ) (kU:(List aA)) (x46:Int):Option (List aA) :=
  if (decide (x46<(p0.order.length:Int)))=true then ((idx p0.order x46)>>=fun y9=>(appG 136 kU ([y9.expr]:List aA))>>=fun y10=>yC p0 y10 (IntKind.wrap .i64 (x46+1))) else (some kU)
  partial_fixpoint
def yA (p0:aJ) (fH:(List aA)) (x30:Int):Option (List aA) :=
  if (decide (x30<(p0.from_.length:Int)))=true then ((idx p0.from_ x30)>>=fun y5=>(appG 136 fH y5.on_)>>=fun y6=>yA p0 y6 (IntKind.wrap .i64 (x30+1))) else ((appG 136 fH p0.where_)>>=fun y7=>yC p0 y7 0)
  partial_fixpoint
mutual
def aCp (p0:aJ) (x14:Int) (dW:(List aA)):Option (List aA) :=
  aCm p0 dW (IntKind.wrap .i64 (x14+1))
  partial_fixpoint
def aCm (p0:aJ) (x3:(List aA)) (x14:Int):Option (List aA) :=
  if (decide (x14<(p0.items.length:Int)))=true then ((idx p0.items x14)>>=fun y1=>if (!y1.star)=true then ((appG 136 x3 ([y1.expr]:List aA))>>=fun y2=>aCp p0 x14 y2) else (aCp p0 x14 x3)) else (yA p0 x3 0)
  partial_fixpoint
end
def tL (p0:aJ):Option (List aA) :=
  aCm p0 ([]:List aA) 0
mutual
def V8 (p1:(List aA)) (p0:(List aA)) (x17:Int):Option Bool :=
  if (decide (x17<(p0.length:Int)))=true then ((idx p0 x17)>>=fun y1=>(idx p1 x17)>>=fun y2=>(G9 y1 y2)>>=fun y3=>if (!y3)=true then (some false) else (V8 p1 p0 (IntKind.wrap .i64 (x17+1)))) else (some true)
  partial_fixpoint
def aM9 (p0:(List aA)) (p1:(List aA)):Option Bool :=
  if (!decide ((p0.length:Int)=(p1.length:Int)))=true then (some false) else (V8 p1 p0 0)
  partial_fixpoint
def J5 (p0:(List aA)) (p1:(List aA)):Option Bool :=
  (aM9 p0 p1)>>=fun y1=>some y1
  partial_fixpoint
def aUk (p0:bD) (p1:bD):Option Bool :=
  (some (if (decide (p0.table=p1.table))=true then (decide (p0.as_=p1.as_)) else false))>>=fun y1=>(if (true&&(y1==true))=true then J5 p0.on_ p1.on_ else some default)>>=fun y2=>(some (if y1=true then y2 else false))>>=fun y3=>some y3
  partial_fixpoint
def aK6 (p1:(List bD)) (p0:(List bD)) (x17:Int):Option Bool :=
  if (decide (x17<(p0.length:Int)))=true then ((idx p0 x17)>>=fun y1=>(idx p1 x17)>>=fun y2=>(aUk y1 y2)>>=fun y3=>if (!y3)=true then (some false) else (aK6 p1 p0 (IntKind.wrap .i64 (x17+1)))) else (some true)
  partial_fixpoint
def aWi (p0:(List bD)) (p1:(List bD)):Option Bool :=
  if (!decide ((p0.length:Int)=(p1.length:Int)))=true then (some false) else (aK6 p1 p0 0)
  partial_fixpoint
def aSp (p0:bX) (p1:bX):Option Bool :=
  (if (true&&((p0.desc==p1.desc)==true))=true then G9 p0.expr p1.expr else some default)>>=fun y1=>(some (if (p0.desc==p1.desc)=true then y1 else false))>>=fun y2=>some y2
  partial_fixpoint
def aLw (p1:(List bX)) (p0:(List bX)) (x17:Int):Option Bool :=
  if (decide (x17<(p0.length:Int)))=true then ((idx p0 x17)>>=fun y1=>(idx p1 x17)>>=fun y2=>(aSp y1 y2)>>=fun y3=>if (!y3)=true then (some false) else (aLw p1 p0 (IntKind.wrap .i64 (x17+1)))) else (some true)
  partial_fixpoint
def aUq (p0:(List bX)) (p1:(List bX)):Option Bool :=
  if (!decide ((p0.length:Int)=(p1.length:Int)))=true then (some false) else (aLw p1 p0 0)
  partial_fixpoint
def aWe (p0:bR) (p1:bR):Option Bool :=
  (some (if (p0.star==p1.star)=true then (decide (p0.qual=p1.qual)) else false))>>=fun y1=>(some (if y1=true then (decide (p0.as_=p1.as_)) else false))>>=fun y2=>(if (true&&(y2==true))=true then G9 p0.expr p1.expr else some default)>>=fun y3=>(some (if y2=true then y3 else false))>>=fun y4=>some y4
  partial_fixpoint
def aJy (p1:(List bR)) (p0:(List bR)) (x17:Int):Option Bool :=
  if (decide (x17<(p0.length:Int)))=true then ((idx p0 x17)>>=fun y1=>(idx p1 x17)>>=fun y2=>(aWe y1 y2)>>=fun y3=>if (!y3)=true then (some false) else (aJy p1 p0 (IntKind.wrap .i64 (x17+1)))) else (some true)
  partial_fixpoint
def aQc (p0:(List bR)) (p1:(List bR)):Option Bool :=
  if (!decide ((p0.length:Int)=(p1.length:Int)))=true then (some false) else (aJy p1 p0 0)
  partial_fixpoint
def aRc (p0:aJ) (p1:aJ):Option Bool :=
  (some (if (p0.distinct==p1.distinct)=true then (decide (p0.limit=p1.limit)) else false))>>=fun y1=>(if (true&&(y1==true))=true then aQc p0.items p1.items else some default)>>=fun y2=>(some (if y1=true then y2 else false))>>=fun y3=>(if (true&&(y3==true))=true then aWi p0.from_ p1.from_ else some default)>>=fun y4=>(some (if y3=true then y4 else false))>>=fun y5=>(if (true&&(y5==true))=true then J5 p0.where_ p1.where_ else some default)>>=fun y6=>(some (if y5=true then y6 else false))>>=fun y7=>(if (true&&(y7==true))=true then aUq p0.order p1.order else some default)>>=fun y8=>(some (if y7=true then y8 else false))>>=fun y9=>some y9
  partial_fixpoint
def aFj (p1:(List aJ)) (p0:(List aJ)) (x17:Int):Option Bool :=
  if (decide (x17<(p0.length:Int)))=true then ((idx p0 x17)>>=fun y1=>(idx p1 x17)>>=fun y2=>(aRc y1 y2)>>=fun y3=>if (!y3)=true then (some false) else (aFj p1 p0 (IntKind.wrap .i64 (x17+1)))) else (some true)
  partial_fixpoint
def aGo (p0:(List aJ)) (p1:(List aJ)):Option Bool :=
  if (!decide ((p0.length:Int)=(p1.length:Int)))=true then (some false) else (aFj p1 p0 0)
  partial_fixpoint
def G9 (p0:aA) (p1:aA):Option Bool :=
  (some (if (decide (p0.kind=p1.kind))=true then (decide (p0.op=p1.op)) else false))>>=fun y1=>(some (if y1=true then (p0.not_==p1.not_) else false))>>=fun y2=>(some (if y2=true then ((decide (p0.value.kind=p1.value.kind))&&((decide (p0.value.num=p1.value.num))&&((decide (p0.value.text=p1.value.text))&&true))) else false))>>=fun y3=>(some (if y3=true then (decide (p0.qual=p1.qual)) else false))>>=fun y4=>(some (if y4=true then (decide (p0.name=p1.name)) else false))>>=fun y5=>(if (true&&(y5==true))=true then J5 p0.kids p1.kids else some default)>>=fun y6=>(some (if y5=true then y6 else false))>>=fun y7=>(if (true&&(y7==true))=true then aGo p0.sub p1.sub else some default)>>=fun y8=>(some (if y7=true then y8 else false))>>=fun y9=>some y9
  partial_fixpoint
end
def J7 (p0:aA):Option Bool :=
  (G9 p0 (aA.mk 0 0 false (fT.mk 0 0 []) [] [] ([]:List aA) ([]:List aJ)))>>=fun y1=>some y1
mutual
def aHb (p0:aJ):Option Bool :=
  (wV p0)>>=fun y1=>some (!y1)
  partial_fixpoint
def J4 (p0:(List aJ)) (x8:Int):Option Int :=
  if (decide (x8<(p0.length:Int)))=true then ((idx p0 x8)>>=fun y1=>(aHb y1)>>=fun y2=>if y2=true then (some x8) else (J4 p0 (IntKind.wrap .i64 (x8+1)))) else (some (-1))
  partial_fixpoint
def aIk (p0:(List aJ)):Option Int :=
  J4 p0 0
  partial_fixpoint
def zZ (p0:(List aJ)):Option Bool :=
  (aIk p0)>>=fun y1=>some (decide (0≤y1))
  partial_fixpoint
def qY (p0:aA):Option Bool :=
  (J8 p0)>>=fun y1=>(if (true&&((!y1.2)==false))=true then some (if (!y1.1.op)=true then (!decide (p0.op=0)) else false) else some default)>>=fun y2=>(some (if (!y1.2)=true then true else y2))>>=fun y3=>(if (true&&(y3==false))=true then some (if (!y1.1.not_)=true then p0.not_ else false) else some default)>>=fun y4=>(some (if y3=true then true else y4))>>=fun y5=>(if (true&&(y5==false))=true then some (if (!y1.1.value)=true then (!((decide (p0.value.kind=0))&&((decide (p0.value.num=0))&&((decide (p0.value.text=[]))&&true)))) else false) else some default)>>=fun y6=>(some (if y5=true then true else y6))>>=fun y7=>(if ((true&&(y7==false))&&((!y1.1.name)==true))=true then some (if (!decide (p0.qual=[]))=true then true else (!decide (p0.name=[]))) else some default)>>=fun y8=>(if (true&&(y7==false))=true then some (if (!y1.1.name)=true then y8 else false) else some default)>>=fun y9=>(some (if y7=true then true else y9))>>=fun y10=>if y10=true then (some false) else ((some (if (decide ((p0.kids.length:Int)<y1.1.least))=true then true else (decide (y1.1.most<(p0.kids.length:Int)))))>>=fun y11=>(some (if y11=true then true else (!decide ((p0.sub.length:Int)=y1.1.subs))))>>=fun y12=>if y12=true then (some false) else ((xX p0.kids)>>=fun y13=>(if (true&&(y13==true))=true then zZ p0.sub else some default)>>=fun y14=>(some (if y13=true then (!y14) else false))>>=fun y15=>some y15))
  partial_fixpoint
def aJg (p0:aA):Option Bool :=
  (qY p0)>>=fun y1=>some (!y1)
  partial_fixpoint
def zG (p0:(List aA)) (x8:Int):Option Int :=
  if (decide (x8<(p0.length:Int)))=true then ((idx p0 x8)>>=fun y1=>(aJg y1)>>=fun y2=>if y2=true then (some x8) else (zG p0 (IntKind.wrap .i64 (x8+1)))) else (some (-1))
  partial_fixpoint
def aMn (p0:(List aA)):Option Int :=
  zG p0 0
  partial_fixpoint
def aN0 (p0:(List aA)):Option Bool :=
  (aMn p0)>>=fun y1=>some (decide (0≤y1))
  partial_fixpoint
def xX (p0:(List aA)):Option Bool :=
  (aN0 p0)>>=fun y1=>some (!y1)
  partial_fixpoint
def K5 (p0:aJ) (x92:Int):Option Bool :=
  if (decide (x92<(p0.from_.length:Int)))=true then ((idx p0.from_ x92)>>=fun y17=>(oL y17.table)>>=fun y18=>(if (true&&((!y18)==false))=true then sS y17.as_ else some default)>>=fun y19=>(some (if (!y18)=true then true else (!y19)))>>=fun y20=>(some (if y20=true then true else (decide (1<(y17.on_.length:Int)))))>>=fun y21=>(if (true&&(y21==false))=true then some (if (decide (x92=0))=true then (decide (0<(y17.on_.length:Int))) else false) else some default)>>=fun y22=>(some (if y21=true then true else y22))>>=fun y23=>if y23=true then (some false) else (K5 p0 (IntKind.wrap .i64 (x92+1)))) else ((tL p0)>>=fun y24=>(xX y24)>>=fun y25=>some y25)
  partial_fixpoint
def F4 (p0:aJ) (x49:Int):Option Bool :=
  if (decide (x49<(p0.items.length:Int)))=true then ((idx p0.items x49)>>=fun y7=>(if (true&&(y7.star==true))=true then sS y7.qual else some default)>>=fun y8=>(if (true&&(y7.star==true))=true then some (if (!y8)=true then true else (!decide (y7.as_=[]))) else some default)>>=fun y9=>(if ((true&&(y7.star==true))&&(y9==false))=true then J7 y7.expr else some default)>>=fun y10=>(if (true&&(y7.star==true))=true then some (if y9=true then true else (!y10)) else some default)>>=fun y11=>(some (if y7.star=true then y11 else false))>>=fun y12=>(if (((true&&(y12==false))&&((!y7.star)==true))&&((!decide (y7.qual=[]))==false))=true then sS y7.as_ else some default)>>=fun y13=>(if ((true&&(y12==false))&&((!y7.star)==true))=true then some (if (!decide (y7.qual=[]))=true then true else (!y13)) else some default)>>=fun y14=>(if (true&&(y12==false))=true then some (if (!y7.star)=true then y14 else false) else some default)>>=fun y15=>(some (if y12=true then true else y15))>>=fun y16=>if y16=true then (some false) else (F4 p0 (IntKind.wrap .i64 (x49+1)))) else (K5 p0 0)
  partial_fixpoint
def wV (p0:aJ):Option Bool :=
  (some (if (decide ((p0.items.length:Int)<1))=true then true else (decide (12<(p0.items.length:Int)))))>>=fun y1=>(some (if y1=true then true else (decide ((p0.from_.length:Int)<1))))>>=fun y2=>(some (if y2=true then true else (decide (3<(p0.from_.length:Int)))))>>=fun y3=>(some (if y3=true then true else (decide (1<(p0.where_.length:Int)))))>>=fun y4=>(some (if y4=true then true else (decide (12<(p0.order.length:Int)))))>>=fun y5=>(some (if y5=true then true else (decide (p0.limit<(-1)))))>>=fun y6=>if y6=true then (some false) else (F4 p0 0)
  partial_fixpoint
end
def aIq (p0:Int) (p1:Int):Option Bool :=
  (some (if (decide (p0≤24))=true then (decide (p1≤200)) else false))>>=fun y1=>some y1
mutual
def xD (p0:aA) (dW:Int) (x23:Int):Option Int :=
  if (decide (x23<(p0.sub.length:Int)))=true then ((idx p0.sub x23)>>=fun y4=>(vG y4)>>=fun y5=>xD p0 (if y5 > dW then y5 else dW) (IntKind.wrap .i64 (x23+1))) else (some (IntKind.wrap .i64 (1+dW)))
  partial_fixpoint
def aAu (p0:aA) (x3:Int) (x11:Int):Option Int :=
  if (decide (x11<(p0.kids.length:Int)))=true then ((idx p0.kids x11)>>=fun y1=>(qZ y1)>>=fun y2=>aAu p0 (if y2 > x3 then y2 else x3) (IntKind.wrap .i64 (x11+1))) else (xD p0 x3 0)
  partial_fixpoint
def qZ (p0:aA):Option Int :=
  aAu p0 0 0
  partial_fixpoint
def N7 (p0:(List aA)) (x3:Int) (x8:Int):Option Int :=
  if (decide (x8<(p0.length:Int)))=true then ((idx p0 x8)>>=fun y1=>(qZ y1)>>=fun y2=>N7 p0 (if y2 > x3 then y2 else x3) (IntKind.wrap .i64 (x8+1))) else (some x3)
  partial_fixpoint
def aMa (p0:(List aA)):Option Int :=
  N7 p0 0 0
  partial_fixpoint
def vG (p0:aJ):Option Int :=
  (tL p0)>>=fun y1=>(aMa y1)>>=fun y2=>some y2
  partial_fixpoint
end
mutual
def yO (p0:aA) (x3:Int) (x13:Int):Option Int :=
  if (decide (x13<(p0.sub.length:Int)))=true then ((idx p0.sub x13)>>=fun y2=>(uQ y2)>>=fun y3=>yO p0 (IntKind.wrap .i64 (x3+y3)) (IntKind.wrap .i64 (x13+1))) else (some x3)
  partial_fixpoint
def sN (p0:aA):Option Int :=
  (X8 p0.kids)>>=fun y1=>yO p0 (IntKind.wrap .i64 (1+y1)) 0
  partial_fixpoint
def Y3 (p0:(List aA)) (x3:Int) (x8:Int):Option Int :=
  if (decide (x8<(p0.length:Int)))=true then ((idx p0 x8)>>=fun y1=>(sN y1)>>=fun y2=>Y3 p0 (IntKind.wrap .i64 (x3+y2)) (IntKind.wrap .i64 (x8+1))) else (some x3)
  partial_fixpoint
def X8 (p0:(List aA)):Option Int :=
  Y3 p0 0 0
  partial_fixpoint
def uQ (p0:aJ):Option Int :=
  (tL p0)>>=fun y1=>(X8 y1)>>=fun y2=>some y2
  partial_fixpoint
end
def zM (p0:aJ):Option Bool :=
  (vG p0)>>=fun y1=>(uQ p0)>>=fun y2=>(aIq y1 y2)>>=fun y3=>(if (true&&(y3==true))=true then wV p0 else some default)>>=fun y4=>(some (if y3=true then y4 else false))>>=fun y5=>some y5
def yI (p0:aL) (p1:(List aL)):Option (List aL) :=
  (appG 24 ([p0]:List aL) p1)>>=fun y1=>some y1
mutual
def yU (p1:(List UInt8)) (p2:(List UInt8)) (p0:aL) (x14:Int) (oD:(List Int)):Option (List Int) :=
  I5 p1 p2 p0 oD (IntKind.wrap .i64 (x14+1))
  partial_fixpoint
def I5 (p1:(List UInt8)) (p2:(List UInt8)) (p0:aL) (x7:(List Int)) (x14:Int):Option (List Int) :=
  if (decide (x14<(p0.names.length:Int)))=true then ((idx p0.names x14)>>=fun y1=>(if (true&&((decide (y1.name=p2))==true))=true then some (if (decide (p1=[]))=true then true else (decide (y1.qual=p1))) else some default)>>=fun y2=>(some (if (decide (y1.name=p2))=true then y2 else false))>>=fun y3=>if y3=true then ((appG 8 x7 ([x14]:List Int))>>=fun y4=>yU p1 p2 p0 x14 y4) else (yU p1 p2 p0 x14 x7)) else (some x7)
  partial_fixpoint
end
def aAg (p0:aL) (p1:(List UInt8)) (p2:(List UInt8)):Option (List Int) :=
  I5 p1 p2 p0 ([]:List Int) 0
def yZ (p2:aA) (p0:bF) (oI:Int) (oC:Int) (oJ:Int):Option bF :=
  (appG 56 p0.list ([(aB.mk p2.qual p2.name oI oC oJ)]:List aB))>>=fun y4=>some (bF.mk p0.c y4 p0.failed)
def xN (p1:(List aL)) (p2:aA) (p0:bF) (x17:Int):Option bF :=
  if (decide (x17<(p1.length:Int)))=true then ((idx p1 x17)>>=fun y1=>(aAg y1 p2.qual p2.name)>>=fun y2=>if (decide (0<(y2.length:Int)))=true then (if (decide ((y2.length:Int)=1))=true then ((idx y2 0)>>=fun y3=>yZ p2 p0 (y2.length:Int) x17 y3) else (yZ p2 p0 (y2.length:Int) 0 0)) else (xN p1 p2 p0 (IntKind.wrap .i64 (x17+1)))) else (yZ p2 p0 0 0 0)
  partial_fixpoint
def vM (p0:bF) (p1:(List aL)) (p2:aA):Option bF :=
  xN p1 p2 p0 0
mutual
def zJ (p1:(List UInt8)) (p0:aL) (x12:Int) (jG:(List Int)):Option (List Int) :=
  C8 p1 p0 jG (IntKind.wrap .i64 (x12+1))
  partial_fixpoint
def C8 (p1:(List UInt8)) (p0:aL) (x5:(List Int)) (x12:Int):Option (List Int) :=
  if (decide (x12<(p0.names.length:Int)))=true then ((idx p0.names x12)>>=fun y1=>(some (if (decide (p1=[]))=true then true else (decide (y1.qual=p1))))>>=fun y2=>if y2=true then ((appG 8 x5 ([x12]:List Int))>>=fun y3=>zJ p1 p0 x12 y3) else (zJ p1 p0 x12 x5)) else (some x5)
  partial_fixpoint
end
def aD4 (p0:aL) (p1:(List UInt8)):Option (List Int) :=
  C8 p1 p0 ([]:List Int) 0
def aBi (p0:bD):Option (List UInt8) :=
  if (decide (p0.as_=[]))=true then (some p0.table) else (some p0.as_)
mutual
def tZ (p1:(List bD)) (y3:(List UInt8)) (x19:Int) (y7:bO) (p0:bB) (x57:Int) (lQ:(List dR)):Option (aL×Int×(List UInt8)) :=
  if (decide (x57<(y7.cols.length:Int)))=true then ((idx y7.cols x57)>>=fun y9=>(appG 40 lQ ([(dR.mk y3 y9.name y9.type)]:List dR))>>=fun y10=>tZ p1 y3 x19 y7 p0 (IntKind.wrap .i64 (x57+1)) y10) else (wK p1 p0 (IntKind.wrap .i64 (x19+1)) lQ)
  partial_fixpoint
def yB (p1:(List bD)) (y2:Int) (y3:(List UInt8)) (x19:Int) (y4:(List bD)) (p0:bB) (aR:(List dR)) (x39:Int):Option (aL×Int×(List UInt8)) :=
  if (decide (x39<(y4.length:Int)))=true then ((idx y4 x39)>>=fun y5=>(aBi y5)>>=fun y6=>if (decide (y6=y3))=true then (some ((aL.mk ([]:List dR)),2,y3)) else (yB p1 y2 y3 x19 y4 p0 aR (IntKind.wrap .i64 (x39+1)))) else ((idx p0.tables y2)>>=fun y7=>tZ p1 y3 x19 y7 p0 0 aR)
  partial_fixpoint
def wK (p1:(List bD)) (p0:bB) (x19:Int) (aR:(List dR)):Option (aL×Int×(List UInt8)) :=
  if (decide (x19<(p1.length:Int)))=true then ((idx p1 x19)>>=fun y1=>(wM p0 y1.table)>>=fun y2=>if (decide (y2<0))=true then (some ((aL.mk ([]:List dR)),1,y1.table)) else ((aBi y1)>>=fun y3=>(oM p1 0 x19)>>=fun y4=>yB p1 y2 y3 x19 y4 p0 aR 0)) else (some ((aL.mk aR),0,[]))
  partial_fixpoint
end
def aEr (p0:bB) (p1:(List bD)):Option (aL×Int×(List UInt8)) :=
  wK p1 p0 0 ([]:List dR)
def xH (p0:bF) (p1:(List bD)):Option (aL×bF) :=
  (aEr p0.c p1)>>=fun y1=>(some (if p0.failed=true then true else (!decide (y1.2.1=0))))>>=fun y2=>some (y1.1,(bF.mk p0.c p0.list y2))
mutual
def I9 (y7:(List aL)) (p2:aJ) (x66:Int) (y23:(List Int)) (gZ:(List bO)) (iA:Bool) (kx86:(Int×(List aB))):Option bF :=
  if (decide (kx86.1<(y23.length:Int)))=true then ((idx y23 kx86.1)>>=fun y25=>(idx y7 0)>>=fun y26=>(idx y26.names y25)>>=fun y27=>(appG 56 kx86.2 ([(aB.mk y27.qual y27.name 1 0 y25)]:List aB))>>=fun y28=>I9 y7 p2 x66 y23 gZ iA ((IntKind.wrap .i64 (kx86.1+1)),y28)) else (I6 y7 p2 x66 gZ kx86.2 iA)
  partial_fixpoint
def I6 (y7:(List aL)) (p2:aJ) (x66:Int) (nV:(List bO)) (nT:(List aB)) (nS:Bool):Option bF :=
  zX y7 p2 (IntKind.wrap .i64 (x66+1)) nV nT nS
  partial_fixpoint
def zX (y7:(List aL)) (p2:aJ) (x66:Int) (gZ:(List bO)) (lU:(List aB)) (iA:Bool):Option bF :=
  if (decide (x66<(p2.items.length:Int)))=true then ((idx p2.items x66)>>=fun y17=>if (!y17.star)=true then ((mH (bF.mk (bB.mk gZ) lU iA) y7 ([y17.expr]:List aA))>>=fun y18=>I6 y7 p2 x66 y18.c.tables y18.list y18.failed) else ((idx y7 0)>>=fun y22=>(aD4 y22 y17.qual)>>=fun y23=>I9 y7 p2 x66 y23 gZ iA (0,lU))) else (some (bF.mk (bB.mk gZ) lU iA))
  partial_fixpoint
def G5 (y7:(List aL)) (p2:aJ) (x52:Int) (mV:(List bO)) (mR:(List aB)) (mP:Bool):Option bF :=
  if (decide (x52<(p2.order.length:Int)))=true then ((idx p2.order x52)>>=fun y12=>(mH (bF.mk (bB.mk mV) mR mP) y7 ([y12.expr]:List aA))>>=fun y13=>G5 y7 p2 (IntKind.wrap .i64 (x52+1)) y13.c.tables y13.list y13.failed) else (zX y7 p2 0 mV mR mP)
  partial_fixpoint
def pQ (p1:(List aL)) (p2:(List aA)) (x12:Int) (y1:aA) (x31:Int) (mX:(List bO)) (jO:((List aB)×Bool)):Option bF :=
  if (decide (x31<(y1.sub.length:Int)))=true then ((idx y1.sub x31)>>=fun y10=>(qB (bF.mk (bB.mk mX) jO.1 jO.2) p1 y10)>>=fun y11=>pQ p1 p2 x12 y1 (IntKind.wrap .i64 (x31+1)) y11.c.tables (y11.list,y11.failed)) else (mQ p1 p2 (IntKind.wrap .i64 (x12+1)) mX jO.1 jO.2)
  partial_fixpoint
def tJ (p1:(List aL)) (p2:(List aA)) (x12:Int) (y1:aA) (oG:(List bO)) (oW:(List aB)) (oO:Bool):Option bF :=
  (mH (bF.mk (bB.mk oG) oW oO) p1 y1.kids)>>=fun y6=>pQ p1 p2 x12 y1 0 y6.c.tables (y6.list,y6.failed)
  partial_fixpoint
def mQ (p1:(List aL)) (p2:(List aA)) (x12:Int) (iG:(List bO)) (iI:(List aB)) (iL:Bool):Option bF :=
  if (decide (x12<(p2.length:Int)))=true then ((idx p2 x12)>>=fun y1=>if (decide (y1.kind=2))=true then ((vM (bF.mk (bB.mk iG) iI iL) p1 y1)>>=fun y2=>tJ p1 p2 x12 y1 y2.c.tables y2.list y2.failed) else (tJ p1 p2 x12 y1 iG iI iL)) else (some (bF.mk (bB.mk iG) iI iL))
  partial_fixpoint
def mH (p0:bF) (p1:(List aL)) (p2:(List aA)):Option bF :=
  mQ p1 p2 0 p0.c.tables p0.list p0.failed
  partial_fixpoint
def xR (p1:(List aL)) (p2:aJ) (x19:Int) (iG:(List bO)) (iI:(List aB)) (iL:Bool):Option bF :=
  if (decide (x19<(p2.from_.length:Int)))=true then ((idx p2.from_ x19)>>=fun y1=>(oM p2.from_ 0 (IntKind.wrap .i64 (x19+1)))>>=fun y2=>(xH (bF.mk (bB.mk iG) iI iL) y2)>>=fun y3=>(yI y3.1 p1)>>=fun y4=>(mH y3.2 y4 y1.on_)>>=fun y5=>xR p1 p2 (IntKind.wrap .i64 (x19+1)) y5.c.tables y5.list y5.failed) else ((xH (bF.mk (bB.mk iG) iI iL) p2.from_)>>=fun y6=>(yI y6.1 p1)>>=fun y7=>(mH y6.2 y7 p2.where_)>>=fun y8=>G5 y7 p2 0 y8.c.tables y8.list y8.failed)
  partial_fixpoint
def qB (p0:bF) (p1:(List aL)) (p2:aJ):Option bF :=
  xR p1 p2 0 p0.c.tables p0.list p0.failed
  partial_fixpoint
end
def M4 (p0:bB) (p1:aJ):Option ((List aB)×Bool) :=
  (aFz p0)>>=fun y1=>(if (true&&((!y1)==false))=true then zM p1 else some default)>>=fun y2=>(some (if (!y1)=true then true else (!y2)))>>=fun y3=>if y3=true then (some (([]:List aB),false)) else ((qB (bF.mk p0 ([]:List aB) false) ([]:List aL) p1)>>=fun y4=>if y4.failed=true then (some (([]:List aB),false)) else (some (y4.list,true)))
def aEl (p0:bB) (p1:aJ):Option Bool :=
  (M4 p0 p1)>>=fun y1=>(if (true&&(y1.2==true))=true then aIr y1.1 else some default)>>=fun y2=>(some (if y1.2=true then (!y2) else false))>>=fun y3=>some y3
def yM (y1:(List aB)×Bool) (x6:Bool) (x7:Int):Option Bool :=
  if (decide (x7<(y1.1.length:Int)))=true then ((if (true&&(x6==true))=true then idx y1.1 x7 else some default)>>=fun y2=>(some (if x6=true then (decide (y2.count=1)) else false))>>=fun y3=>yM y1 y3 (IntKind.wrap .i64 (x7+1))) else (some x6)
  partial_fixpoint
def wW (p1:(List UInt8)) (p0:bO) (x5:Int):Option Int :=
  if (decide (x5<(p0.cols.length:Int)))=true then ((idx p0.cols x5)>>=fun y1=>if (decide (y1.name=p1))=true then (some x5) else (wW p1 p0 (IntKind.wrap .i64 (x5+1)))) else (some (-1))
  partial_fixpoint
def xJ (p0:bO) (p1:(List UInt8)):Option Int :=
  wW p1 p0 0
def mJ (p0:Int) (p1:Int) (p2:Int):Option Bool :=
  (some (if (decide (p1≤p0))=true then (decide (p0≤p2)) else false))>>=fun y1=>some y1
def nJ (p0:(List UInt8)):Option Bool :=
  (mJ (p0.length:Int) 1 20)>>=fun y1=>some y1
def rV (p1:(List UInt8)) (p0:bB) (x5:Int):Option Int :=
  if (decide (x5<(p0.tables.length:Int)))=true then ((idx p0.tables x5)>>=fun y1=>if (decide (y1.name=p1))=true then (some x5) else (rV p1 p0 (IntKind.wrap .i64 (x5+1)))) else (some (-1))
  partial_fixpoint
def nQ (p0:bB) (p1:(List UInt8)):Option Int :=
  rV p1 p0 0
mutual
def vU (x3:Int) (p0:bB) (y1:bO) (x5:Int):Option Bool :=
  if (decide (x5<(y1.cols.length:Int)))=true then ((idx y1.cols x5)>>=fun y7=>(nJ y7.name)>>=fun y8=>(if (true&&((!y8)==false))=true then idx y1.cols x5 else some default)>>=fun y9=>(if (true&&((!y8)==false))=true then xJ y1 y9.name else some default)>>=fun y10=>(some (if (!y8)=true then true else (!decide (y10=x5))))>>=fun y11=>(if (true&&(y11==false))=true then idx y1.cols x5 else some default)>>=fun y12=>(if (true&&(y11==false))=true then mJ y12.type 1 3 else some default)>>=fun y13=>(some (if y11=true then true else (!y13)))>>=fun y14=>if y14=true then (some false) else (vU x3 p0 y1 (IntKind.wrap .i64 (x5+1)))) else (wJ p0 (IntKind.wrap .i64 (x3+1)))
  partial_fixpoint
def wJ (p0:bB) (x3:Int):Option Bool :=
  if (decide (x3<(p0.tables.length:Int)))=true then ((idx p0.tables x3)>>=fun y1=>(nJ y1.name)>>=fun y2=>(if (true&&((!y2)==false))=true then nQ p0 y1.name else some default)>>=fun y3=>(some (if (!y2)=true then true else (!decide (y3=x3))))>>=fun y4=>(if (true&&(y4==false))=true then mJ (y1.cols.length:Int) 1 4 else some default)>>=fun y5=>(some (if y4=true then true else (!y5)))>>=fun y6=>if y6=true then (some false) else (vU x3 p0 y1 0)) else (some true)
  partial_fixpoint
end
def aHk (p0:bB):Option Bool :=
  if (decide (4<(p0.tables.length:Int)))=true then (some false) else (wJ p0 0)
def qD (p0:aL) (p1:(List aL)):Option (List aL) :=
  (appG 24 ([p0]:List aL) p1)>>=fun y1=>some y1
mutual
def A9 (p1:(List UInt8)) (x6:Int) (p0:aL) (jG:(List Int)):Option (List Int) :=
  zF p1 p0 jG (IntKind.wrap .i64 (x6+1))
  partial_fixpoint
def zF (p1:(List UInt8)) (p0:aL) (x5:(List Int)) (x6:Int):Option (List Int) :=
  if (decide (x6<(p0.names.length:Int)))=true then ((if (true&&((decide (p1=[]))==false))=true then idx p0.names x6 else some default)>>=fun y1=>(some (if (decide (p1=[]))=true then true else (decide (y1.qual=p1))))>>=fun y2=>if y2=true then ((appG 8 x5 ([x6]:List Int))>>=fun y3=>A9 p1 x6 p0 y3) else (A9 p1 x6 p0 x5)) else (some x5)
  partial_fixpoint
end
def vK (p0:aL) (p1:(List UInt8)):Option (List Int) :=
  zF p1 p0 ([]:List Int) 0
def aGc (p0:bD):Option (List UInt8) :=
  if (!decide (p0.as_=[]))=true then (some p0.as_) else (some p0.table)
def yN (p0:(List (List UInt8))) (p1:(List UInt8)) (x5:Int):Option Bool :=
  if (decide (x5<(p0.length:Int)))=true then ((idx p0 x5)>>=fun y1=>if (decide (y1=p1))=true then (some true) else (yN p0 p1 (IntKind.wrap .i64 (x5+1)))) else (some false)
  partial_fixpoint
def aEw (p0:(List (List UInt8))) (p1:(List UInt8)):Option Bool :=
  yN p0 p1 0
mutual
def zT (p1:(List bD)) (y7:(List (List UInt8))) (x9:Int) (y4:(List UInt8)) (y8:bO) (p0:bB) (x13:Int) (lX:(List dR)):Option (aL×Int×(List UInt8)) :=
  if (decide (x13<(y8.cols.length:Int)))=true then ((idx y8.cols x13)>>=fun y10=>(idx y8.cols x13)>>=fun y11=>(appG 40 lX ([(dR.mk y4 y10.name y11.type)]:List dR))>>=fun y12=>zT p1 y7 x9 y4 y8 p0 (IntKind.wrap .i64 (x13+1)) y12) else (xK p1 p0 y7 (IntKind.wrap .i64 (x9+1)) lX)
  partial_fixpoint
def xK (p1:(List bD)) (p0:bB) (x8:(List (List UInt8))) (x9:Int) (aR:(List dR)):Option (aL×Int×(List UInt8)) :=
  if (decide (x9<(p1.length:Int)))=true then ((idx p1 x9)>>=fun y1=>(nQ p0 y1.table)>>=fun y2=>(idx p1 x9)>>=fun y3=>(aGc y3)>>=fun y4=>if (decide (y2<0))=true then ((idx p1 x9)>>=fun y5=>some ((aL.mk ([]:List dR)),1,y5.table)) else ((aEw x8 y4)>>=fun y6=>if y6=true then (some ((aL.mk ([]:List dR)),2,y4)) else ((appG 16 x8 ([y4]:List (List UInt8)))>>=fun y7=>(idx p0.tables y2)>>=fun y8=>zT p1 y7 x9 y4 y8 p0 0 aR))) else (some ((aL.mk aR),0,[]))
  partial_fixpoint
end
def qW (p0:bB) (p1:(List bD)):Option (aL×Int×(List UInt8)) :=
  xK p1 p0 ([]:List (List UInt8)) 0 ([]:List dR)
def zW (p1:aA) (jY:Int) (sF:Int) (sQ:Int):Option aB :=
  some (aB.mk p1.qual p1.name jY sF sQ)
def xG (p1:aA) (jY:Int) (vE:Int) (uG:Int):Option aB :=
  if (!decide (jY=1))=true then (zW p1 jY 0 0) else (zW p1 jY vE uG)
mutual
def G6 (p0:(List aL)) (x6:Int) (x7:Int) (p1:aA) (oV:Int) (oH:Int) (nY:Int):Option aB :=
  F8 p0 x6 p1 (IntKind.wrap .i64 (x7+1)) oV oH nY
  partial_fixpoint
def F8 (p0:(List aL)) (x6:Int) (p1:aA) (x7:Int) (jC:Int) (lH:Int) (kZ:Int):Option aB :=
  (idx p0 x6)>>=fun y7=>if (decide (x7<(y7.names.length:Int)))=true then ((idx p0 x6)>>=fun y8=>(idx y8.names x7)>>=fun y9=>(if (true&&((decide (y9.name=p1.name))==true))=true then some (if (decide (p1.qual=[]))=true then true else (decide (y9.qual=p1.qual))) else some default)>>=fun y10=>(some (if (decide (y9.name=p1.name))=true then y10 else false))>>=fun y11=>if y11=true then (G6 p0 x6 x7 p1 (IntKind.wrap .i64 (jC+1)) x6 x7) else (G6 p0 x6 x7 p1 jC lH kZ)) else (if (decide (0<jC))=true then (xG p1 jC lH kZ) else (xO p0 p1 (IntKind.wrap .i64 (x6+1)) jC lH kZ))
  partial_fixpoint
def xO (p0:(List aL)) (p1:aA) (x6:Int) (nG:Int) (nH:Int) (nI:Int):Option aB :=
  if (decide (x6<(p0.length:Int)))=true then (F8 p0 x6 p1 0 nG nH nI) else (xG p1 nG nH nI)
  partial_fixpoint
end
def Q8 (p0:(List aL)) (p1:aA):Option aB :=
  xO p0 p1 0 0 0 0
mutual
def K4 (dC:Bool) (x18:(List aL)) (x20:Int) (y26:(List Int)) (p0:bB) (p2:aJ) (y1:aL×Int×(List UInt8)) (gG:((List aB)×Int)):Option ((List aB)×Bool) :=
  if (decide (gG.2<(y26.length:Int)))=true then ((idx y26 gG.2)>>=fun y28=>(idx y1.1.names y28)>>=fun y29=>(idx y26 gG.2)>>=fun y30=>(appG 56 gG.1 ([(aB.mk y29.qual y29.name 1 0 y30)]:List aB))>>=fun y31=>K4 dC x18 x20 y26 p0 p2 y1 (y31,(IntKind.wrap .i64 (gG.2+1)))) else (Y9 x18 x20 p0 p2 y1 gG.1 dC)
  partial_fixpoint
def Y9 (x18:(List aL)) (x20:Int) (p0:bB) (p2:aJ) (y1:aL×Int×(List UInt8)) (jA:(List aB)) (iZ:Bool):Option ((List aB)×Bool) :=
  aCj x18 p0 p2 y1 jA iZ (IntKind.wrap .i64 (x20+1))
  partial_fixpoint
def aCj (x18:(List aL)) (p0:bB) (p2:aJ) (y1:aL×Int×(List UInt8)) (fJ:(List aB)) (dC:Bool) (x20:Int):Option ((List aB)×Bool) :=
  (some (if (decide (x20<(p2.items.length:Int)))=true then dC else false))>>=fun y19=>if y19=true then ((idx p2.items x20)>>=fun y20=>if (!y20.star)=true then ((idx p2.items x20)>>=fun y21=>(nL p0 x18 y21.expr fJ)>>=fun y22=>Y9 x18 x20 p0 p2 y1 y22.1 y22.2) else ((idx p2.items x20)>>=fun y25=>(vK y1.1 y25.qual)>>=fun y26=>K4 dC x18 x20 y26 p0 p2 y1 (fJ,0))) else (some (fJ,dC))
  partial_fixpoint
def aAe (x18:(List aL)) (p0:bB) (p2:aJ) (y1:aL×Int×(List UInt8)) (gL:(List aB)) (gN:Bool) (x19:Int):Option ((List aB)×Bool) :=
  (some (if (decide (x19<(p2.order.length:Int)))=true then gN else false))>>=fun y14=>if y14=true then ((idx p2.order x19)>>=fun y15=>(nL p0 x18 y15.expr gL)>>=fun y16=>aAe x18 p0 p2 y1 y16.1 y16.2 (IntKind.wrap .i64 (x19+1))) else (aCj x18 p0 p2 y1 gL gN 0)
  partial_fixpoint
def O3 (p0:bB) (p2:aJ) (y1:aL×Int×(List UInt8)) (jS:(List aB)) (jX:Bool) (x18:(List aL)):Option ((List aB)×Bool) :=
  aAe x18 p0 p2 y1 jS jX 0
  partial_fixpoint
def aAv (p1:(List aL)) (p0:bB) (p2:aJ) (y1:aL×Int×(List UInt8)) (x3:(List aB)) (x13:Bool) (x14:Int):Option ((List aB)×Bool) :=
  (some (if (decide (x14<(p2.from_.length:Int)))=true then x13 else false))>>=fun y2=>if y2=true then ((oM p2.from_ 0 (IntKind.wrap .i64 (x14+1)))>>=fun y3=>(qW p0 y3)>>=fun y4=>(qD y4.1 p1)>>=fun y5=>(idx p2.from_ x14)>>=fun y6=>(qA p0 y5 y6.on_ x3)>>=fun y7=>aAv p1 p0 p2 y1 y7.1 y7.2 (IntKind.wrap .i64 (x14+1))) else ((qD y1.1 p1)>>=fun y8=>if x13=true then ((qA p0 y8 p2.where_ x3)>>=fun y9=>O3 p0 p2 y1 y9.1 y9.2 y8) else (O3 p0 p2 y1 x3 x13 y8))
  partial_fixpoint
def D7 (p0:bB) (p1:(List aL)) (p2:aJ) (p3:(List aB)):Option ((List aB)×Bool) :=
  (qW p0 p2.from_)>>=fun y1=>if (!decide (y1.2.1=0))=true then (some (p3,false)) else (aAv p1 p0 p2 y1 p3 true 0)
  partial_fixpoint
def vR (p1:(List aL)) (p0:bB) (p2:aA) (kN:(List aB)) (kM:Bool) (x12:Int):Option ((List aB)×Bool) :=
  (some (if (decide (x12<(p2.sub.length:Int)))=true then kM else false))>>=fun y9=>if y9=true then ((idx p2.sub x12)>>=fun y10=>(D7 p0 p1 y10 kN)>>=fun y11=>vR p1 p0 p2 y11.1 y11.2 (IntKind.wrap .i64 (x12+1))) else (some (kN,kM))
  partial_fixpoint
def wF (p1:(List aL)) (p0:bB) (p2:aA) (dW:(List aB)) (x10:Bool) (x11:Int):Option ((List aB)×Bool) :=
  (some (if (decide (x11<(p2.kids.length:Int)))=true then x10 else false))>>=fun y4=>if y4=true then ((idx p2.kids x11)>>=fun y5=>(nL p0 p1 y5 dW)>>=fun y6=>wF p1 p0 p2 y6.1 y6.2 (IntKind.wrap .i64 (x11+1))) else (vR p1 p0 p2 dW x10 0)
  partial_fixpoint
def Y0 (p1:(List aL)) (p0:bB) (p2:aA) (x3:(List aB)):Option ((List aB)×Bool) :=
  wF p1 p0 p2 x3 true 0
  partial_fixpoint
def nL (p0:bB) (p1:(List aL)) (p2:aA) (p3:(List aB)):Option ((List aB)×Bool) :=
  if (decide (p2.kind=2))=true then ((Q8 p1 p2)>>=fun y1=>(appG 56 p3 ([y1]:List aB))>>=fun y2=>Y0 p1 p0 p2 y2) else (Y0 p1 p0 p2 p3)
  partial_fixpoint
def xQ (p2:(List aA)) (p0:bB) (x1:(List aL)) (x3:(List aB)) (x10:Bool) (x11:Int):Option ((List aB)×Bool) :=
  (some (if (decide (x11<(p2.length:Int)))=true then x10 else false))>>=fun y1=>if y1=true then ((idx p2 x11)>>=fun y2=>(nL p0 x1 y2 x3)>>=fun y3=>xQ p2 p0 x1 y3.1 y3.2 (IntKind.wrap .i64 (x11+1))) else (some (x3,x10))
  partial_fixpoint
def qA (p0:bB) (p1:(List aL)) (p2:(List aA)) (p3:(List aB)):Option ((List aB)×Bool) :=
  xQ p2 p0 p1 p3 true 0
  partial_fixpoint
end
mutual
def zU (dC:Bool) (x18:(List aL)) (x20:Int) (y26:(List Int)) (p0:bB) (p2:aJ) (y1:aL×Int×(List UInt8)) (jU:(List aB)) (x22:Int):Option ((List aB)×Bool) :=
  if (decide (x22<(y26.length:Int)))=true then ((idx y26 x22)>>=fun y28=>(idx y1.1.names y28)>>=fun y29=>(idx y26 x22)>>=fun y30=>(appG 56 jU ([(aB.mk y29.qual y29.name 1 0 y30)]:List aB))>>=fun y31=>zU dC x18 x20 y26 p0 p2 y1 y31 (IntKind.wrap .i64 (x22+1))) else (aBy x18 x20 p0 p2 y1 jU dC)
  partial_fixpoint
def aBy (x18:(List aL)) (x20:Int) (p0:bB) (p2:aJ) (y1:aL×Int×(List UInt8)) (jA:(List aB)) (iZ:Bool):Option ((List aB)×Bool) :=
  aAb x18 p0 p2 y1 jA iZ (IntKind.wrap .i64 (x20+1))
  partial_fixpoint
def aAb (x18:(List aL)) (p0:bB) (p2:aJ) (y1:aL×Int×(List UInt8)) (fJ:(List aB)) (dC:Bool) (x20:Int):Option ((List aB)×Bool) :=
  (some (if (decide (x20<(p2.items.length:Int)))=true then dC else false))>>=fun y19=>if y19=true then ((idx p2.items x20)>>=fun y20=>if (!y20.star)=true then ((idx p2.items x20)>>=fun y21=>(nL p0 x18 y21.expr fJ)>>=fun y22=>aBy x18 x20 p0 p2 y1 y22.1 y22.2) else ((idx p2.items x20)>>=fun y25=>(vK y1.1 y25.qual)>>=fun y26=>zU dC x18 x20 y26 p0 p2 y1 fJ 0)) else (some (fJ,dC))
  partial_fixpoint
end
def J2 (x18:(List aL)) (p0:bB) (p2:aJ) (y1:aL×Int×(List UInt8)) (gL:(List aB)) (gN:Bool) (x19:Int):Option ((List aB)×Bool) :=
  (some (if (decide (x19<(p2.order.length:Int)))=true then gN else false))>>=fun y14=>if y14=true then ((idx p2.order x19)>>=fun y15=>(nL p0 x18 y15.expr gL)>>=fun y16=>J2 x18 p0 p2 y1 y16.1 y16.2 (IntKind.wrap .i64 (x19+1))) else (aAb x18 p0 p2 y1 gL gN 0)
  partial_fixpoint
def aCf (p0:bB) (p2:aJ) (y1:aL×Int×(List UInt8)) (jS:(List aB)) (jX:Bool) (x18:(List aL)):Option ((List aB)×Bool) :=
  J2 x18 p0 p2 y1 jS jX 0
def E9 (p1:(List aL)) (p0:bB) (p2:aJ) (y1:aL×Int×(List UInt8)) (x3:(List aB)) (x13:Bool) (x14:Int):Option ((List aB)×Bool) :=
  (some (if (decide (x14<(p2.from_.length:Int)))=true then x13 else false))>>=fun y2=>if y2=true then ((oM p2.from_ 0 (IntKind.wrap .i64 (x14+1)))>>=fun y3=>(qW p0 y3)>>=fun y4=>(qD y4.1 p1)>>=fun y5=>(idx p2.from_ x14)>>=fun y6=>(qA p0 y5 y6.on_ x3)>>=fun y7=>E9 p1 p0 p2 y1 y7.1 y7.2 (IntKind.wrap .i64 (x14+1))) else ((qD y1.1 p1)>>=fun y8=>if x13=true then ((qA p0 y8 p2.where_ x3)>>=fun y9=>aCf p0 p2 y1 y9.1 y9.2 y8) else (aCf p0 p2 y1 x3 x13 y8))
  partial_fixpoint
def wN (p0:bB) (p1:(List aL)) (p2:aJ) (p3:(List aB)):Option ((List aB)×Bool) :=
  (qW p0 p2.from_)>>=fun y1=>if (!decide (y1.2.1=0))=true then (some (p3,false)) else (E9 p1 p0 p2 y1 p3 true 0)
def nR (p0:(List UInt8)):Option Bool :=
  (if (true&&((decide (p0=[]))==false))=true then nJ p0 else some default)>>=fun y1=>(some (if (decide (p0=[]))=true then true else y1))>>=fun y2=>some y2
def wO (p0:aJ) (kR:(List aA)) (x6:Int):Option (List aA) :=
  if (decide (x6<(p0.order.length:Int)))=true then ((idx p0.order x6)>>=fun y10=>(appG 136 kR ([y10.expr]:List aA))>>=fun y11=>wO p0 y11 (IntKind.wrap .i64 (x6+1))) else (some kR)
  partial_fixpoint
def xU (p0:aJ) (kH:(List aA)) (x5:Int):Option (List aA) :=
  if (decide (x5<(p0.from_.length:Int)))=true then ((idx p0.from_ x5)>>=fun y6=>(appG 136 kH y6.on_)>>=fun y7=>xU p0 y7 (IntKind.wrap .i64 (x5+1))) else ((appG 136 kH p0.where_)>>=fun y8=>wO p0 y8 0)
  partial_fixpoint
mutual
def aBj (x4:Int) (p0:aJ) (fH:(List aA)):Option (List aA) :=
  Q9 p0 fH (IntKind.wrap .i64 (x4+1))
  partial_fixpoint
def Q9 (p0:aJ) (x3:(List aA)) (x4:Int):Option (List aA) :=
  if (decide (x4<(p0.items.length:Int)))=true then ((idx p0.items x4)>>=fun y1=>if (!y1.star)=true then ((idx p0.items x4)>>=fun y2=>(appG 136 x3 ([y2.expr]:List aA))>>=fun y3=>aBj x4 p0 y3) else (aBj x4 p0 x3)) else (xU p0 x3 0)
  partial_fixpoint
end
def uE (p0:aJ):Option (List aA) :=
  Q9 p0 ([]:List aA) 0
def aCg (p0:fT):Option Bool :=
  if (decide (p0.kind=0))=true then ((some (if (decide (p0.num=0))=true then (decide (p0.text=[])) else false))>>=fun y1=>some y1) else (if (decide (p0.kind=1))=true then (some (decide (p0.text=[]))) else (if (decide (p0.kind=2))=true then ((some (if (decide (p0.num=0))=true then (decide ((p0.text.length:Int)≤200)) else false))>>=fun y2=>some y2) else (if (decide (p0.kind=3))=true then ((mJ p0.num 0 1)>>=fun y3=>(some (if y3=true then (decide (p0.text=[])) else false))>>=fun y4=>some y4) else (some false))))
def aA4 (p0:fT):Option Bool :=
  (aCg p0)>>=fun y1=>(if (true&&(y1==true))=true then some (if (!decide (p0.kind=1))=true then true else (decide (0≤p0.num))) else some default)>>=fun y2=>(some (if y1=true then y2 else false))>>=fun y3=>(some (if y3=true then (decide ((p0.text.length:Int)≤40)) else false))>>=fun y4=>some y4
def aA1 (p0:aA):Option Bool :=
  (if (true&&((!decide (p0.kind=2))==true))=true then some (if (!decide (p0.qual=[]))=true then true else (!decide (p0.name=[]))) else some default)>>=fun y1=>(some (if (!decide (p0.kind=2))=true then y1 else false))>>=fun y2=>(if (true&&(y2==false))=true then some (if (!decide (p0.kind=1))=true then (!((decide (p0.value.kind=0))&&((decide (p0.value.num=0))&&((decide (p0.value.text=[]))&&true)))) else false) else some default)>>=fun y3=>(some (if y2=true then true else y3))>>=fun y4=>if y4=true then (some false) else ((some (if (!decide (p0.kind=3))=true then (!decide (p0.kind=4)) else false))>>=fun y5=>(some (if y5=true then (!decide (p0.op=0)) else false))>>=fun y6=>(if ((true&&(y6==false))&&(p0.not_==true))=true then mJ p0.kind 5 8 else some default)>>=fun y7=>(if (true&&(y6==false))=true then some (if p0.not_=true then (!y7) else false) else some default)>>=fun y8=>(some (if y6=true then true else y8))>>=fun y9=>if y9=true then (some false) else (if (decide (p0.kind=1))=true then ((aA4 p0.value)>>=fun y10=>(some (if y10=true then (decide ((IntKind.wrap .i64 ((p0.kids.length:Int)+(p0.sub.length:Int)))=0)) else false))>>=fun y11=>some y11) else (if (decide (p0.kind=2))=true then ((nJ p0.name)>>=fun y12=>(if (true&&(y12==true))=true then nR p0.qual else some default)>>=fun y13=>(some (if y12=true then y13 else false))>>=fun y14=>(some (if y14=true then (decide ((IntKind.wrap .i64 ((p0.kids.length:Int)+(p0.sub.length:Int)))=0)) else false))>>=fun y15=>some y15) else (if (decide (p0.kind=3))=true then ((some (if (decide (p0.op=15))=true then true else (decide (p0.op=16))))>>=fun y16=>(some (if y16=true then (decide ((p0.kids.length:Int)=1)) else false))>>=fun y17=>(some (if y17=true then (decide ((p0.sub.length:Int)=0)) else false))>>=fun y18=>some y18) else (if (decide (p0.kind=4))=true then ((mJ p0.op 1 14)>>=fun y19=>(some (if y19=true then (decide ((p0.kids.length:Int)=2)) else false))>>=fun y20=>(some (if y20=true then (decide ((p0.sub.length:Int)=0)) else false))>>=fun y21=>some y21) else (if (decide (p0.kind=5))=true then ((some (if (decide ((p0.kids.length:Int)=1))=true then (decide ((p0.sub.length:Int)=0)) else false))>>=fun y22=>some y22) else (if (decide (p0.kind=6))=true then ((some (if (decide ((p0.kids.length:Int)=3))=true then (decide ((p0.sub.length:Int)=0)) else false))>>=fun y23=>some y23) else (if (decide (p0.kind=7))=true then ((mJ (p0.kids.length:Int) 2 9)>>=fun y24=>(some (if y24=true then (decide ((p0.sub.length:Int)=0)) else false))>>=fun y25=>some y25) else (if (decide (p0.kind=8))=true then ((some (if (decide ((p0.kids.length:Int)=1))=true then (decide ((p0.sub.length:Int)=1)) else false))>>=fun y26=>some y26) else (if (decide (p0.kind=9))=true then ((some (if (decide ((p0.kids.length:Int)=0))=true then (decide ((p0.sub.length:Int)=1)) else false))>>=fun y27=>some y27) else (some false)))))))))))
mutual
def aE0 (p0:aJ) (p1:aJ) (x11:Int):Option Bool :=
  if (decide (x11<(p0.order.length:Int)))=true then ((idx p0.order x11)>>=fun y18=>(idx p1.order x11)>>=fun y19=>(if (true&&((!(y18.desc==y19.desc))==false))=true then idx p0.order x11 else some default)>>=fun y20=>(if (true&&((!(y18.desc==y19.desc))==false))=true then idx p1.order x11 else some default)>>=fun y21=>(if (true&&((!(y18.desc==y19.desc))==false))=true then rO y20.expr y21.expr else some default)>>=fun y22=>(some (if (!(y18.desc==y19.desc))=true then true else (!y22)))>>=fun y23=>if y23=true then (some false) else (aE0 p0 p1 (IntKind.wrap .i64 (x11+1)))) else (some true)
  partial_fixpoint
def aLt (p0:aJ) (p1:aJ) (x8:Int):Option Bool :=
  if (decide (x8<(p0.from_.length:Int)))=true then ((idx p0.from_ x8)>>=fun y13=>(idx p1.from_ x8)>>=fun y14=>(some (if (!decide (y13.table=y14.table))=true then true else (!decide (y13.as_=y14.as_))))>>=fun y15=>(if (true&&(y15==false))=true then zC y13.on_ y14.on_ else some default)>>=fun y16=>(some (if y15=true then true else (!y16)))>>=fun y17=>if y17=true then (some false) else (aLt p0 p1 (IntKind.wrap .i64 (x8+1)))) else (aE0 p0 p1 0)
  partial_fixpoint
def aKd (p0:aJ) (p1:aJ) (x5:Int):Option Bool :=
  if (decide (x5<(p0.items.length:Int)))=true then ((idx p0.items x5)>>=fun y7=>(idx p1.items x5)>>=fun y8=>(some (if (!(y7.star==y8.star))=true then true else (!decide (y7.qual=y8.qual))))>>=fun y9=>(some (if y9=true then true else (!decide (y7.as_=y8.as_))))>>=fun y10=>(if (true&&(y10==false))=true then rO y7.expr y8.expr else some default)>>=fun y11=>(some (if y10=true then true else (!y11)))>>=fun y12=>if y12=true then (some false) else (aKd p0 p1 (IntKind.wrap .i64 (x5+1)))) else (aLt p0 p1 0)
  partial_fixpoint
def aXo (p0:aJ) (p1:aJ):Option Bool :=
  (some (if (!(p0.distinct==p1.distinct))=true then true else (!decide (p0.limit=p1.limit))))>>=fun y1=>(some (if y1=true then true else (!decide ((p0.items.length:Int)=(p1.items.length:Int)))))>>=fun y2=>(some (if y2=true then true else (!decide ((p0.from_.length:Int)=(p1.from_.length:Int)))))>>=fun y3=>(some (if y3=true then true else (!decide ((p0.order.length:Int)=(p1.order.length:Int)))))>>=fun y4=>(if (true&&(y4==false))=true then zC p0.where_ p1.where_ else some default)>>=fun y5=>(some (if y4=true then true else (!y5)))>>=fun y6=>if y6=true then (some false) else (aKd p0 p1 0)
  partial_fixpoint
def aCi (p0:aA) (p1:aA) (x5:Int):Option Bool :=
  if (decide (x5<(p0.sub.length:Int)))=true then ((idx p0.sub x5)>>=fun y9=>(idx p1.sub x5)>>=fun y10=>(aXo y9 y10)>>=fun y11=>if (!y11)=true then (some false) else (aCi p0 p1 (IntKind.wrap .i64 (x5+1)))) else (some true)
  partial_fixpoint
def aGt (p0:(List aA)) (p1:(List aA)) (x5:Int):Option Bool :=
  if (decide (x5<(p0.length:Int)))=true then ((idx p0 x5)>>=fun y1=>(idx p1 x5)>>=fun y2=>(rO y1 y2)>>=fun y3=>if (!y3)=true then (some false) else (aGt p0 p1 (IntKind.wrap .i64 (x5+1)))) else (some true)
  partial_fixpoint
def zC (p0:(List aA)) (p1:(List aA)):Option Bool :=
  if (!decide ((p0.length:Int)=(p1.length:Int)))=true then (some false) else (aGt p0 p1 0)
  partial_fixpoint
def rO (p0:aA) (p1:aA):Option Bool :=
  (some (if (!decide (p0.kind=p1.kind))=true then true else (!decide (p0.op=p1.op))))>>=fun y1=>(some (if y1=true then true else (!(p0.not_==p1.not_))))>>=fun y2=>(some (if y2=true then true else (!((decide (p0.value.kind=p1.value.kind))&&((decide (p0.value.num=p1.value.num))&&((decide (p0.value.text=p1.value.text))&&true))))))>>=fun y3=>(some (if y3=true then true else (!decide (p0.qual=p1.qual))))>>=fun y4=>(some (if y4=true then true else (!decide (p0.name=p1.name))))>>=fun y5=>(some (if y5=true then true else (!decide ((p0.sub.length:Int)=(p1.sub.length:Int)))))>>=fun y6=>(if (true&&(y6==false))=true then zC p0.kids p1.kids else some default)>>=fun y7=>(some (if y6=true then true else (!y7)))>>=fun y8=>if y8=true then (some false) else (aCi p0 p1 0)
  partial_fixpoint
end
mutual
def wT (p0:aA) (x3:Int):Option Bool :=
  if (decide (x3<(p0.kids.length:Int)))=true then ((idx p0.kids x3)>>=fun y2=>(qP y2)>>=fun y3=>if (!y3)=true then (some false) else (wT p0 (IntKind.wrap .i64 (x3+1)))) else ((if (true&&((decide ((p0.sub.length:Int)=0))==false))=true then idx p0.sub 0 else some default)>>=fun y4=>(if (true&&((decide ((p0.sub.length:Int)=0))==false))=true then uC y4 else some default)>>=fun y5=>(some (if (decide ((p0.sub.length:Int)=0))=true then true else y5))>>=fun y6=>some y6)
  partial_fixpoint
def qP (p0:aA):Option Bool :=
  (aA1 p0)>>=fun y1=>if (!y1)=true then (some false) else (wT p0 0)
  partial_fixpoint
def wG (y24:(List aA)) (x8:Int):Option Bool :=
  if (decide (x8<(y24.length:Int)))=true then ((idx y24 x8)>>=fun y25=>(qP y25)>>=fun y26=>if (!y26)=true then (some false) else (wG y24 (IntKind.wrap .i64 (x8+1)))) else (some true)
  partial_fixpoint
def yF (p0:aJ) (x5:Int):Option Bool :=
  if (decide (x5<(p0.from_.length:Int)))=true then ((idx p0.from_ x5)>>=fun y17=>(nJ y17.table)>>=fun y18=>(if (true&&((!y18)==false))=true then nR y17.as_ else some default)>>=fun y19=>(some (if (!y18)=true then true else (!y19)))>>=fun y20=>(some (if y20=true then true else (decide (1<(y17.on_.length:Int)))))>>=fun y21=>(if (true&&(y21==false))=true then some (if (decide (x5=0))=true then (decide (0<(y17.on_.length:Int))) else false) else some default)>>=fun y22=>(some (if y21=true then true else y22))>>=fun y23=>if y23=true then (some false) else (yF p0 (IntKind.wrap .i64 (x5+1)))) else ((uE p0)>>=fun y24=>wG y24 0)
  partial_fixpoint
def yH (p0:aJ) (x3:Int):Option Bool :=
  if (decide (x3<(p0.items.length:Int)))=true then ((idx p0.items x3)>>=fun y7=>(if (true&&(y7.star==true))=true then nR y7.qual else some default)>>=fun y8=>(if (true&&(y7.star==true))=true then some (if (!y8)=true then true else (!decide (y7.as_=[]))) else some default)>>=fun y9=>(if ((true&&(y7.star==true))&&(y9==false))=true then rO y7.expr (aA.mk 0 0 false (fT.mk 0 0 []) [] [] ([]:List aA) ([]:List aJ)) else some default)>>=fun y10=>(if (true&&(y7.star==true))=true then some (if y9=true then true else (!y10)) else some default)>>=fun y11=>(some (if y7.star=true then y11 else false))>>=fun y12=>(if (((true&&(y12==false))&&((!y7.star)==true))&&((!decide (y7.qual=[]))==false))=true then nR y7.as_ else some default)>>=fun y13=>(if ((true&&(y12==false))&&((!y7.star)==true))=true then some (if (!decide (y7.qual=[]))=true then true else (!y13)) else some default)>>=fun y14=>(if (true&&(y12==false))=true then some (if (!y7.star)=true then y14 else false) else some default)>>=fun y15=>(some (if y12=true then true else y15))>>=fun y16=>if y16=true then (some false) else (yH p0 (IntKind.wrap .i64 (x3+1)))) else (yF p0 0)
  partial_fixpoint
def uC (p0:aJ):Option Bool :=
  (mJ (p0.items.length:Int) 1 12)>>=fun y1=>(if (true&&((!y1)==false))=true then mJ (p0.from_.length:Int) 1 3 else some default)>>=fun y2=>(some (if (!y1)=true then true else (!y2)))>>=fun y3=>(some (if y3=true then true else (decide (1<(p0.where_.length:Int)))))>>=fun y4=>(some (if y4=true then true else (decide (12<(p0.order.length:Int)))))>>=fun y5=>(some (if y5=true then true else (decide (p0.limit<(-1)))))>>=fun y6=>if y6=true then (some false) else (yH p0 0)
  partial_fixpoint
end
def tV (p0:Int) (p1:Int):Option Int :=
  if (decide (p1<p0))=true then (some p0) else (some p1)
mutual
def wQ (p0:aA) (fH:Int) (x5:Int):Option Int :=
  if (decide (x5<(p0.sub.length:Int)))=true then ((idx p0.sub x5)>>=fun y5=>(vL y5)>>=fun y6=>(tV fH y6)>>=fun y7=>wQ p0 y7 (IntKind.wrap .i64 (x5+1))) else (some (IntKind.wrap .i64 (fH+1)))
  partial_fixpoint
def Q3 (p0:aA) (x3:Int) (x4:Int):Option Int :=
  if (decide (x4<(p0.kids.length:Int)))=true then ((idx p0.kids x4)>>=fun y1=>(qG y1)>>=fun y2=>(tV x3 y2)>>=fun y3=>Q3 p0 y3 (IntKind.wrap .i64 (x4+1))) else (wQ p0 x3 0)
  partial_fixpoint
def qG (p0:aA):Option Int :=
  Q3 p0 0 0
  partial_fixpoint
def Y4 (y1:(List aA)) (x3:Int) (x5:Int):Option Int :=
  if (decide (x5<(y1.length:Int)))=true then ((idx y1 x5)>>=fun y2=>(qG y2)>>=fun y3=>(tV x3 y3)>>=fun y4=>Y4 y1 y4 (IntKind.wrap .i64 (x5+1))) else (some x3)
  partial_fixpoint
def vL (p0:aJ):Option Int :=
  (uE p0)>>=fun y1=>Y4 y1 0 0
  partial_fixpoint
end
mutual
def yJ (p0:aA) (dW:Int) (x5:Int):Option Int :=
  if (decide (x5<(p0.sub.length:Int)))=true then ((idx p0.sub x5)>>=fun y4=>(uO y4)>>=fun y5=>yJ p0 (IntKind.wrap .i64 (dW+y5)) (IntKind.wrap .i64 (x5+1))) else (some dW)
  partial_fixpoint
def aDm (p0:aA) (x3:Int) (x4:Int):Option Int :=
  if (decide (x4<(p0.kids.length:Int)))=true then ((idx p0.kids x4)>>=fun y1=>(qC y1)>>=fun y2=>aDm p0 (IntKind.wrap .i64 (x3+y2)) (IntKind.wrap .i64 (x4+1))) else (yJ p0 x3 0)
  partial_fixpoint
def qC (p0:aA):Option Int :=
  aDm p0 1 0
  partial_fixpoint
def Y1 (y1:(List aA)) (x3:Int) (x5:Int):Option Int :=
  if (decide (x5<(y1.length:Int)))=true then ((idx y1 x5)>>=fun y2=>(qC y2)>>=fun y3=>Y1 y1 (IntKind.wrap .i64 (x3+y3)) (IntKind.wrap .i64 (x5+1))) else (some x3)
  partial_fixpoint
def uO (p0:aJ):Option Int :=
  (uE p0)>>=fun y1=>Y1 y1 0 0
  partial_fixpoint
end
def F5 (p0:aJ):Option Bool :=
  (uC p0)>>=fun y1=>(if (true&&(y1==true))=true then vL p0 else some default)>>=fun y2=>(some (if y1=true then (decide (y2≤24)) else false))>>=fun y3=>(if (true&&(y3==true))=true then uO p0 else some default)>>=fun y4=>(some (if y3=true then (decide (y4≤200)) else false))>>=fun y5=>some y5
def U3 (p0:bB) (p1:aJ):Option ((List aB)×Bool) :=
  (aHk p0)>>=fun y1=>(if (true&&((!y1)==false))=true then F5 p1 else some default)>>=fun y2=>(some (if (!y1)=true then true else (!y2)))>>=fun y3=>if y3=true then (some (([]:List aB),false)) else ((wN p0 ([]:List aL) p1 ([]:List aB))>>=fun y4=>if (!y4.2)=true then (some (([]:List aB),false)) else (some (y4.1,true)))
def aB6 (p0:bB) (p1:aJ):Option Bool :=
  (U3 p0 p1)>>=fun y1=>yM y1 y1.2 0
def yQ (p0:eG) (p1:eG):Option Bool :=
  if (!decide (p0.name=p1.name))=true then (some false) else (if (!decide (p0.type=p1.type))=true then (some false) else (some true))
def aAk (p0:(List eG)) (p1:(List eG)) (x5:Int):Option Bool :=
  if (decide (x5<(p0.length:Int)))=true then ((idx p0 x5)>>=fun y1=>(idx p1 x5)>>=fun y2=>(yQ y1 y2)>>=fun y3=>if (!y3)=true then (some false) else (aAk p0 p1 (IntKind.wrap .i64 (x5+1)))) else (some true)
  partial_fixpoint
def O0 (p0:(List eG)) (p1:(List eG)):Option Bool :=
  if (!decide ((p0.length:Int)=(p1.length:Int)))=true then (some false) else (aAk p0 p1 0)
def K3 (p0:bO) (p1:bO):Option Bool :=
  if (!decide (p0.name=p1.name))=true then (some false) else ((O0 p0.cols p1.cols)>>=fun y1=>if (!y1)=true then (some false) else (some true))
def aCh (p0:(List bO)) (p1:(List bO)) (x5:Int):Option Bool :=
  if (decide (x5<(p0.length:Int)))=true then ((idx p0 x5)>>=fun y1=>(idx p1 x5)>>=fun y2=>(K3 y1 y2)>>=fun y3=>if (!y3)=true then (some false) else (aCh p0 p1 (IntKind.wrap .i64 (x5+1)))) else (some true)
  partial_fixpoint
def aD6 (p0:(List bO)) (p1:(List bO)):Option Bool :=
  if (!decide ((p0.length:Int)=(p1.length:Int)))=true then (some false) else (aCh p0 p1 0)
def R5 (p0:bB) (p1:bB):Option Bool :=
  (aD6 p0.tables p1.tables)>>=fun y1=>if (!y1)=true then (some false) else (some true)
def aD3 (p0:fT) (p1:fT):Option Bool :=
  if (!decide (p0.kind=p1.kind))=true then (some false) else (if (!decide (p0.num=p1.num))=true then (some false) else (if (!decide (p0.text=p1.text))=true then (some false) else (some true)))
mutual
def xL (p0:bD) (p1:bD):Option Bool :=
  if (!decide (p0.table=p1.table))=true then (some false) else (if (!decide (p0.as_=p1.as_))=true then (some false) else ((rJ p0.on_ p1.on_)>>=fun y1=>if (!y1)=true then (some false) else (some true)))
  partial_fixpoint
def aH2 (p0:(List bD)) (p1:(List bD)) (x5:Int):Option Bool :=
  if (decide (x5<(p0.length:Int)))=true then ((idx p0 x5)>>=fun y1=>(idx p1 x5)>>=fun y2=>(xL y1 y2)>>=fun y3=>if (!y3)=true then (some false) else (aH2 p0 p1 (IntKind.wrap .i64 (x5+1)))) else (some true)
  partial_fixpoint
def aI6 (p0:(List bD)) (p1:(List bD)):Option Bool :=
  if (!decide ((p0.length:Int)=(p1.length:Int)))=true then (some false) else (aH2 p0 p1 0)
  partial_fixpoint
def D9 (p0:bX) (p1:bX):Option Bool :=
  (qU p0.expr p1.expr)>>=fun y1=>if (!y1)=true then (some false) else (if (!(p0.desc==p1.desc))=true then (some false) else (some true))
  partial_fixpoint
def aI8 (p0:(List bX)) (p1:(List bX)) (x5:Int):Option Bool :=
  if (decide (x5<(p0.length:Int)))=true then ((idx p0 x5)>>=fun y1=>(idx p1 x5)>>=fun y2=>(D9 y1 y2)>>=fun y3=>if (!y3)=true then (some false) else (aI8 p0 p1 (IntKind.wrap .i64 (x5+1)))) else (some true)
  partial_fixpoint
def aFc (p0:(List bX)) (p1:(List bX)):Option Bool :=
  if (!decide ((p0.length:Int)=(p1.length:Int)))=true then (some false) else (aI8 p0 p1 0)
  partial_fixpoint
def F7 (p0:bR) (p1:bR):Option Bool :=
  if (!(p0.star==p1.star))=true then (some false) else (if (!decide (p0.qual=p1.qual))=true then (some false) else ((qU p0.expr p1.expr)>>=fun y1=>if (!y1)=true then (some false) else (if (!decide (p0.as_=p1.as_))=true then (some false) else (some true))))
  partial_fixpoint
def aHp (p0:(List bR)) (p1:(List bR)) (x5:Int):Option Bool :=
  if (decide (x5<(p0.length:Int)))=true then ((idx p0 x5)>>=fun y1=>(idx p1 x5)>>=fun y2=>(F7 y1 y2)>>=fun y3=>if (!y3)=true then (some false) else (aHp p0 p1 (IntKind.wrap .i64 (x5+1)))) else (some true)
  partial_fixpoint
def aF9 (p0:(List bR)) (p1:(List bR)):Option Bool :=
  if (!decide ((p0.length:Int)=(p1.length:Int)))=true then (some false) else (aHp p0 p1 0)
  partial_fixpoint
def aH8 (p0:(List aJ)) (p1:(List aJ)) (x5:Int):Option Bool :=
  if (decide (x5<(p0.length:Int)))=true then ((idx p0 x5)>>=fun y1=>(idx p1 x5)>>=fun y2=>(uZ y1 y2)>>=fun y3=>if (!y3)=true then (some false) else (aH8 p0 p1 (IntKind.wrap .i64 (x5+1)))) else (some true)
  partial_fixpoint
def aEp (p0:(List aJ)) (p1:(List aJ)):Option Bool :=
  if (!decide ((p0.length:Int)=(p1.length:Int)))=true then (some false) else (aH8 p0 p1 0)
  partial_fixpoint
def qU (p0:aA) (p1:aA):Option Bool :=
  if (!decide (p0.kind=p1.kind))=true then (some false) else (if (!decide (p0.op=p1.op))=true then (some false) else (if (!(p0.not_==p1.not_))=true then (some false) else ((aD3 p0.value p1.value)>>=fun y1=>if (!y1)=true then (some false) else (if (!decide (p0.qual=p1.qual))=true then (some false) else (if (!decide (p0.name=p1.name))=true then (some false) else ((rJ p0.kids p1.kids)>>=fun y2=>if (!y2)=true then (some false) else ((aEp p0.sub p1.sub)>>=fun y3=>if (!y3)=true then (some false) else (some true))))))))
  partial_fixpoint
def H5 (p0:(List aA)) (p1:(List aA)) (x5:Int):Option Bool :=
  if (decide (x5<(p0.length:Int)))=true then ((idx p0 x5)>>=fun y1=>(idx p1 x5)>>=fun y2=>(qU y1 y2)>>=fun y3=>if (!y3)=true then (some false) else (H5 p0 p1 (IntKind.wrap .i64 (x5+1)))) else (some true)
  partial_fixpoint
def rJ (p0:(List aA)) (p1:(List aA)):Option Bool :=
  if (!decide ((p0.length:Int)=(p1.length:Int)))=true then (some false) else (H5 p0 p1 0)
  partial_fixpoint
def uZ (p0:aJ) (p1:aJ):Option Bool :=
  if (!(p0.distinct==p1.distinct))=true then (some false) else ((aF9 p0.items p1.items)>>=fun y1=>if (!y1)=true then (some false) else ((aI6 p0.from_ p1.from_)>>=fun y2=>if (!y2)=true then (some false) else ((rJ p0.where_ p1.where_)>>=fun y3=>if (!y3)=true then (some false) else ((aFc p0.order p1.order)>>=fun y4=>if (!y4)=true then (some false) else (if (!decide (p0.limit=p1.limit))=true then (some false) else (some true))))))
  partial_fixpoint
end
def Q4 (p0:eG) (p1:Int):Option Int :=
  if (decide ((IntKind.wrap .i64 (p1 - (p0.name.length:Int)))<0))=true then (some (-1)) else (some (IntKind.wrap .i64 (p1 - (p0.name.length:Int))))
def aDs (p0:(List eG)) (x1:Int) (x5:Int):Option Int :=
  if (decide (x5<(p0.length:Int)))=true then ((idx p0 x5)>>=fun y1=>(Q4 y1 x1)>>=fun y2=>if (decide (y2<0))=true then (some (-1)) else (aDs p0 y2 (IntKind.wrap .i64 (x5+1)))) else (some x1)
  partial_fixpoint
def aBm (p0:(List eG)) (p1:Int):Option Int :=
  if (decide ((IntKind.wrap .i64 (p1 - (p0.length:Int)))<0))=true then (some (-1)) else (aDs p0 (IntKind.wrap .i64 (p1 - (p0.length:Int))) 0)
def aCc (p0:bO) (p1:Int):Option Int :=
  if (decide ((IntKind.wrap .i64 (p1 - (p0.name.length:Int)))<0))=true then (some (-1)) else ((aBm p0.cols (IntKind.wrap .i64 (p1 - (p0.name.length:Int))))>>=fun y1=>if (decide (y1<0))=true then (some (-1)) else (some y1))
def aAs (p0:(List bO)) (x1:Int) (x5:Int):Option Int :=
  if (decide (x5<(p0.length:Int)))=true then ((idx p0 x5)>>=fun y1=>(aCc y1 x1)>>=fun y2=>if (decide (y2<0))=true then (some (-1)) else (aAs p0 y2 (IntKind.wrap .i64 (x5+1)))) else (some x1)
  partial_fixpoint
def P5 (p0:(List bO)) (p1:Int):Option Int :=
  if (decide ((IntKind.wrap .i64 (p1 - (p0.length:Int)))<0))=true then (some (-1)) else (aAs p0 (IntKind.wrap .i64 (p1 - (p0.length:Int))) 0)
def aIu (p0:bB) (p1:Int):Option Int :=
  (P5 p0.tables p1)>>=fun y1=>if (decide (y1<0))=true then (some (-1)) else (some y1)
def aBc (p0:fT) (p1:Int):Option Int :=
  if (decide ((IntKind.wrap .i64 (p1 - (p0.text.length:Int)))<0))=true then (some (-1)) else (some (IntKind.wrap .i64 (p1 - (p0.text.length:Int))))
mutual
def wH (p0:bD) (p1:Int):Option Int :=
  if (decide ((IntKind.wrap .i64 (p1 - (p0.table.length:Int)))<0))=true then (some (-1)) else (if (decide ((IntKind.wrap .i64 ((IntKind.wrap .i64 (p1 - (p0.table.length:Int))) - (p0.as_.length:Int)))<0))=true then (some (-1)) else ((rQ p0.on_ (IntKind.wrap .i64 ((IntKind.wrap .i64 (p1 - (p0.table.length:Int))) - (p0.as_.length:Int))))>>=fun y1=>if (decide (y1<0))=true then (some (-1)) else (some y1)))
  partial_fixpoint
def aFr (p0:(List bD)) (x1:Int) (x5:Int):Option Int :=
  if (decide (x5<(p0.length:Int)))=true then ((idx p0 x5)>>=fun y1=>(wH y1 x1)>>=fun y2=>if (decide (y2<0))=true then (some (-1)) else (aFr p0 y2 (IntKind.wrap .i64 (x5+1)))) else (some x1)
  partial_fixpoint
def aIc (p0:(List bD)) (p1:Int):Option Int :=
  if (decide ((IntKind.wrap .i64 (p1 - (p0.length:Int)))<0))=true then (some (-1)) else (aFr p0 (IntKind.wrap .i64 (p1 - (p0.length:Int))) 0)
  partial_fixpoint
def I4 (p0:bX) (p1:Int):Option Int :=
  (qV p0.expr p1)>>=fun y1=>if (decide (y1<0))=true then (some (-1)) else (some y1)
  partial_fixpoint
def aGz (p0:(List bX)) (x1:Int) (x5:Int):Option Int :=
  if (decide (x5<(p0.length:Int)))=true then ((idx p0 x5)>>=fun y1=>(I4 y1 x1)>>=fun y2=>if (decide (y2<0))=true then (some (-1)) else (aGz p0 y2 (IntKind.wrap .i64 (x5+1)))) else (some x1)
  partial_fixpoint
def aE5 (p0:(List bX)) (p1:Int):Option Int :=
  if (decide ((IntKind.wrap .i64 (p1 - (p0.length:Int)))<0))=true then (some (-1)) else (aGz p0 (IntKind.wrap .i64 (p1 - (p0.length:Int))) 0)
  partial_fixpoint
def D8 (p0:bR) (p1:Int):Option Int :=
  if (decide ((IntKind.wrap .i64 (p1 - (p0.qual.length:Int)))<0))=true then (some (-1)) else ((qV p0.expr (IntKind.wrap .i64 (p1 - (p0.qual.length:Int))))>>=fun y1=>if (decide (y1<0))=true then (some (-1)) else (if (decide ((IntKind.wrap .i64 (y1 - (p0.as_.length:Int)))<0))=true then (some (-1)) else (some (IntKind.wrap .i64 (y1 - (p0.as_.length:Int))))))
  partial_fixpoint
def aHx (p0:(List bR)) (x1:Int) (x5:Int):Option Int :=
  if (decide (x5<(p0.length:Int)))=true then ((idx p0 x5)>>=fun y1=>(D8 y1 x1)>>=fun y2=>if (decide (y2<0))=true then (some (-1)) else (aHx p0 y2 (IntKind.wrap .i64 (x5+1)))) else (some x1)
  partial_fixpoint
def aFq (p0:(List bR)) (p1:Int):Option Int :=
  if (decide ((IntKind.wrap .i64 (p1 - (p0.length:Int)))<0))=true then (some (-1)) else (aHx p0 (IntKind.wrap .i64 (p1 - (p0.length:Int))) 0)
  partial_fixpoint
def aJb (p0:(List aJ)) (x1:Int) (x5:Int):Option Int :=
  if (decide (x5<(p0.length:Int)))=true then ((idx p0 x5)>>=fun y1=>(wZ y1 x1)>>=fun y2=>if (decide (y2<0))=true then (some (-1)) else (aJb p0 y2 (IntKind.wrap .i64 (x5+1)))) else (some x1)
  partial_fixpoint
def aIh (p0:(List aJ)) (p1:Int):Option Int :=
  if (decide ((IntKind.wrap .i64 (p1 - (p0.length:Int)))<0))=true then (some (-1)) else (aJb p0 (IntKind.wrap .i64 (p1 - (p0.length:Int))) 0)
  partial_fixpoint
def qV (p0:aA) (p1:Int):Option Int :=
  (aBc p0.value p1)>>=fun y1=>if (decide (y1<0))=true then (some (-1)) else (if (decide ((IntKind.wrap .i64 (y1 - (p0.qual.length:Int)))<0))=true then (some (-1)) else (if (decide ((IntKind.wrap .i64 ((IntKind.wrap .i64 (y1 - (p0.qual.length:Int))) - (p0.name.length:Int)))<0))=true then (some (-1)) else ((rQ p0.kids (IntKind.wrap .i64 ((IntKind.wrap .i64 (y1 - (p0.qual.length:Int))) - (p0.name.length:Int))))>>=fun y2=>if (decide (y2<0))=true then (some (-1)) else ((aIh p0.sub y2)>>=fun y3=>if (decide (y3<0))=true then (some (-1)) else (some y3)))))
  partial_fixpoint
def F6 (p0:(List aA)) (x1:Int) (x5:Int):Option Int :=
  if (decide (x5<(p0.length:Int)))=true then ((idx p0 x5)>>=fun y1=>(qV y1 x1)>>=fun y2=>if (decide (y2<0))=true then (some (-1)) else (F6 p0 y2 (IntKind.wrap .i64 (x5+1)))) else (some x1)
  partial_fixpoint
def rQ (p0:(List aA)) (p1:Int):Option Int :=
  if (decide ((IntKind.wrap .i64 (p1 - (p0.length:Int)))<0))=true then (some (-1)) else (F6 p0 (IntKind.wrap .i64 (p1 - (p0.length:Int))) 0)
  partial_fixpoint
def wZ (p0:aJ) (p1:Int):Option Int :=
  (aFq p0.items p1)>>=fun y1=>if (decide (y1<0))=true then (some (-1)) else ((aIc p0.from_ y1)>>=fun y2=>if (decide (y2<0))=true then (some (-1)) else ((rQ p0.where_ y2)>>=fun y3=>if (decide (y3<0))=true then (some (-1)) else ((aE5 p0.order y3)>>=fun y4=>if (decide (y4<0))=true then (some (-1)) else (some y4))))
  partial_fixpoint
end
def V5 (p0:eG):Option eG :=
  some p0
def O9 (p0:(List eG)) (x4:Int) (aR:(List eG)):Option (List eG) :=
  if (decide (x4<(p0.length:Int)))=true then ((idx p0 x4)>>=fun y2=>(V5 y2)>>=fun y3=>(idx aR x4)>>=fun y4=>(qM aR x4 y3)>>=fun y5=>O9 p0 (IntKind.wrap .i64 (x4+1)) y5) else (some aR)
  partial_fixpoint
def aDb (p0:(List eG)):Option (List eG) :=
  (mkG 24 (p0.length:Int) ((eG.mk [] 0):eG))>>=fun y1=>O9 p0 0 y1
def T9 (p0:bO):Option bO :=
  (aDb p0.cols)>>=fun y1=>some (bO.mk p0.name y1)
def aC0 (p0:(List bO)) (x4:Int) (aR:(List bO)):Option (List bO) :=
  if (decide (x4<(p0.length:Int)))=true then ((idx p0 x4)>>=fun y2=>(T9 y2)>>=fun y3=>(idx aR x4)>>=fun y4=>(qM aR x4 y3)>>=fun y5=>aC0 p0 (IntKind.wrap .i64 (x4+1)) y5) else (some aR)
  partial_fixpoint
def S9 (p0:(List bO)):Option (List bO) :=
  (mkG 40 (p0.length:Int) ((bO.mk [] ([]:List eG)):bO))>>=fun y1=>aC0 p0 0 y1
def vW (p0:bB):Option bB :=
  (S9 p0.tables)>>=fun y1=>some (bB.mk y1)
def aBo (p0:fT):Option fT :=
  some p0
mutual
def wP (p0:bD):Option bD :=
  (rX p0.on_)>>=fun y1=>some (bD.mk p0.table p0.as_ y1)
  partial_fixpoint
def aI4 (p0:(List bD)) (x4:Int) (aR:(List bD)):Option (List bD) :=
  if (decide (x4<(p0.length:Int)))=true then ((idx p0 x4)>>=fun y2=>(wP y2)>>=fun y3=>(idx aR x4)>>=fun y4=>(qM aR x4 y3)>>=fun y5=>aI4 p0 (IntKind.wrap .i64 (x4+1)) y5) else (some aR)
  partial_fixpoint
def aDz (p0:(List bD)):Option (List bD) :=
  (mkG 56 (p0.length:Int) ((bD.mk [] [] ([]:List aA)):bD))>>=fun y1=>aI4 p0 0 y1
  partial_fixpoint
def H9 (p0:bX):Option bX :=
  (qR p0.expr)>>=fun y1=>some (bX.mk y1 p0.desc)
  partial_fixpoint
def aJ6 (p0:(List bX)) (x4:Int) (aR:(List bX)):Option (List bX) :=
  if (decide (x4<(p0.length:Int)))=true then ((idx p0 x4)>>=fun y2=>(H9 y2)>>=fun y3=>(idx aR x4)>>=fun y4=>(qM aR x4 y3)>>=fun y5=>aJ6 p0 (IntKind.wrap .i64 (x4+1)) y5) else (some aR)
  partial_fixpoint
def aHt (p0:(List bX)):Option (List bX) :=
  (mkG 144 (p0.length:Int) ((bX.mk (aA.mk 0 0 false (fT.mk 0 0 []) [] [] ([]:List aA) ([]:List aJ)) false):bX))>>=fun y1=>aJ6 p0 0 y1
  partial_fixpoint
def I1 (p0:bR):Option bR :=
  (qR p0.expr)>>=fun y1=>some (bR.mk p0.star p0.qual y1 p0.as_)
  partial_fixpoint
def aE7 (p0:(List bR)) (x4:Int) (aR:(List bR)):Option (List bR) :=
  if (decide (x4<(p0.length:Int)))=true then ((idx p0 x4)>>=fun y2=>(I1 y2)>>=fun y3=>(idx aR x4)>>=fun y4=>(qM aR x4 y3)>>=fun y5=>aE7 p0 (IntKind.wrap .i64 (x4+1)) y5) else (some aR)
  partial_fixpoint
def aEt (p0:(List bR)):Option (List bR) :=
  (mkG 176 (p0.length:Int) ((bR.mk false [] (aA.mk 0 0 false (fT.mk 0 0 []) [] [] ([]:List aA) ([]:List aJ)) []):bR))>>=fun y1=>aE7 p0 0 y1
  partial_fixpoint
def aIb (p0:(List aJ)) (x4:Int) (aR:(List aJ)):Option (List aJ) :=
  if (decide (x4<(p0.length:Int)))=true then ((idx p0 x4)>>=fun y2=>(rA y2)>>=fun y3=>(idx aR x4)>>=fun y4=>(qM aR x4 y3)>>=fun y5=>aIb p0 (IntKind.wrap .i64 (x4+1)) y5) else (some aR)
  partial_fixpoint
def aG5 (p0:(List aJ)):Option (List aJ) :=
  (mkG 112 (p0.length:Int) ((aJ.mk false ([]:List bR) ([]:List bD) ([]:List aA) ([]:List bX) 0):aJ))>>=fun y1=>aIb p0 0 y1
  partial_fixpoint
def qR (p0:aA):Option aA :=
  (aBo p0.value)>>=fun y1=>(rX p0.kids)>>=fun y2=>(aG5 p0.sub)>>=fun y3=>some (aA.mk p0.kind p0.op p0.not_ y1 p0.qual p0.name y2 y3)
  partial_fixpoint
def F3 (p0:(List aA)) (x4:Int) (aR:(List aA)):Option (List aA) :=
  if (decide (x4<(p0.length:Int)))=true then ((idx p0 x4)>>=fun y2=>(qR y2)>>=fun y3=>(idx aR x4)>>=fun y4=>(qM aR x4 y3)>>=fun y5=>F3 p0 (IntKind.wrap .i64 (x4+1)) y5) else (some aR)
  partial_fixpoint
def rX (p0:(List aA)):Option (List aA) :=
  (mkG 136 (p0.length:Int) ((aA.mk 0 0 false (fT.mk 0 0 []) [] [] ([]:List aA) ([]:List aJ)):aA))>>=fun y1=>F3 p0 0 y1
  partial_fixpoint
def rA (p0:aJ):Option aJ :=
  (aEt p0.items)>>=fun y1=>(aDz p0.from_)>>=fun y2=>(rX p0.where_)>>=fun y3=>(aHt p0.order)>>=fun y4=>some (aJ.mk p0.distinct y1 y2 y3 y4 p0.limit)
  partial_fixpoint
end
def aFv (p0:bB) (p1:aJ):Option Bool :=
  (aIu p0 1048576)>>=fun y1=>if (decide (y1<0))=true then (some true) else ((wZ p1 y1)>>=fun y2=>if (decide (y2<0))=true then (some true) else ((vW p0)>>=fun y3=>(rA p1)>>=fun y4=>(aB6 y3 y4)>>=fun y5=>(vW p0)>>=fun y6=>(rA p1)>>=fun y7=>(aEl y6 y7)>>=fun y8=>if (!(y8==y5))=true then (some false) else ((vW p0)>>=fun y9=>(R5 y6 y9)>>=fun y10=>if (!y10)=true then (some false) else ((rA p1)>>=fun y11=>(uZ y7 y11)>>=fun y12=>if (!y12)=true then (some false) else (some true)))))
end Go.Ab
