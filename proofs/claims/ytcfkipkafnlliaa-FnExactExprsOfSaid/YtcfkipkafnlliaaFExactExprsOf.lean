/- The functions of the program,as Lean functions (printed by a program). -/
import Derived.Test.YtcfkipkafnlliaaAbF0
namespace Go.Ab
open Go
structure eP where
  kind:Int
  num:Int
  text:(List UInt8)
instance:Inhabited eP:=⟨(eP.mk 0 0 [])⟩
mutual
structure aB where
  kind:Int
  op:Int
  not_:Bool
  value:eP
  qual:(List UInt8)
  name:(List UInt8)
  kids:(List aB)
  sub:(List aL)
structure aU where
  star:Bool
  qual:(List UInt8)
  expr:aB
  as_:(List UInt8)
structure aL where
  distinct:Bool
  items:(List aU)
  from_:(List aX)
  where_:(List aB)
  order:(List aY)
  limit:Int
structure aY where
  expr:aB
  desc:Bool
structure aX where
  table:(List UInt8)
  as_:(List UInt8)
  on_:(List aB)
end
instance:Inhabited aB:=⟨(aB.mk 0 0 false (eP.mk 0 0 []) [] [] [] [])⟩
instance:Inhabited aU:=⟨(aU.mk false [] (aB.mk 0 0 false (eP.mk 0 0 []) [] [] [] []) [])⟩
instance:Inhabited aL:=⟨(aL.mk false [] [] [] [] 0)⟩
instance:Inhabited aY:=⟨(aY.mk (aB.mk 0 0 false (eP.mk 0 0 []) [] [] [] []) false)⟩
instance:Inhabited aX:=⟨(aX.mk [] [] [])⟩
structure dW where
  kind:Int
  query:aL
  table:(List UInt8)
  rows:(List (List aB))
  cols:(List (List UInt8))
  sets:(List aB)
  where_:(List aB)
instance:Inhabited dW:=⟨(dW.mk 0 (aL.mk false [] [] [] [] 0) [] [] [] [] [])⟩
def okGValue (x:eP):Prop:=okI x.kind∧okI x.num∧okS x.text
mutual
def okGExpr:aB→Prop
  | ⟨a0,a1,a2,a3,a4,a5,a6,a7⟩=>okI a0∧okI a1∧okB a2∧okGValue a3∧okS a4∧okS a5∧(a6.length≤9223372036854775807∧okLGExpr a6)∧(a7.length≤9223372036854775807∧okLGQuery a7)
def okGItem:aU→Prop
  | ⟨a0,a1,a2,a3⟩=>okB a0∧okS a1∧okGExpr a2∧okS a3
def okGQuery:aL→Prop
  | ⟨a0,a1,a2,a3,a4,a5⟩=>okB a0∧(a1.length≤9223372036854775807∧okLGItem a1)∧(a2.length≤9223372036854775807∧okLGSource a2)∧(a3.length≤9223372036854775807∧okLGExpr a3)∧(a4.length≤9223372036854775807∧okLGSortKey a4)∧okI a5
def okGSortKey:aY→Prop
  | ⟨a0,a1⟩=>okGExpr a0∧okB a1
def okGSource:aX→Prop
  | ⟨a0,a1,a2⟩=>okS a0∧okS a1∧(a2.length≤9223372036854775807∧okLGExpr a2)
def okLGExpr:List aB→Prop
  | []=>True
  | x::l=>okGExpr x∧okLGExpr l
def okLGItem:List aU→Prop
  | []=>True
  | x::l=>okGItem x∧okLGItem l
def okLGQuery:List aL→Prop
  | []=>True
  | x::l=>okGQuery x∧okLGQuery l
def okLGSortKey:List aY→Prop
  | []=>True
  | x::l=>okGSortKey x∧okLGSortKey l
def okLGSource:List aX→Prop
  | []=>True
  | x::l=>okGSource x∧okLGSource l
end
def okGStmt (x:dW):Prop:=okI x.kind∧okGQuery x.query∧okS x.table∧(okL (okL okGExpr)) x.rows∧(okL okS) x.cols∧(okL okGExpr) x.sets∧(okL okGExpr) x.where_
mutual
def rY (p0:aL) (eU:(List aX)) (dF:(List aU)) (y1:(List aB)) (x57:Int) (jE:(List aY)):Option aL :=
  if (decide (x57<(p0.order.length:Int)))=true then ((idx p0.order x57)>>=fun y8=>(nT y8.expr)>>=fun y9=>(appG 144 jE ([(aY.mk y9 y8.desc)]:List aY))>>=fun y10=>rY p0 eU dF y1 (IntKind.wrap .i64 (x57+1)) y10) else (some (aL.mk p0.distinct dF eU y1 jE p0.limit))
  partial_fixpoint
def wE (p0:aL) (dF:(List aU)) (y1:(List aB)) (x39:Int) (eU:(List aX)):Option aL :=
  if (decide (x39<(p0.from_.length:Int)))=true then ((idx p0.from_ x39)>>=fun y5=>(mP y5.on_)>>=fun y6=>(appG 56 eU ([(aX.mk y5.table y5.as_ y6)]:List aX))>>=fun y7=>wE p0 dF y1 (IntKind.wrap .i64 (x39+1)) y7) else (rY p0 eU dF y1 0 ([]:List aY))
  partial_fixpoint
def xV (p0:aL) (y1:(List aB)) (x21:Int) (dF:(List aU)):Option aL :=
  if (decide (x21<(p0.items.length:Int)))=true then ((idx p0.items x21)>>=fun y2=>(nT y2.expr)>>=fun y3=>(appG 176 dF ([(aU.mk y2.star y2.qual y3 y2.as_)]:List aU))>>=fun y4=>xV p0 y1 (IntKind.wrap .i64 (x21+1)) y4) else (wE p0 dF y1 0 ([]:List aX))
  partial_fixpoint
def N7 (p0:aL):Option aL :=
  (mP p0.where_)>>=fun y1=>xV p0 y1 0 ([]:List aU)
  partial_fixpoint
def C9 (p0:aB) (y1:(List aB)) (x14:Int) (jB:(List aL)):Option aB :=
  if (decide (x14<(p0.sub.length:Int)))=true then ((idx p0.sub x14)>>=fun y2=>(N7 y2)>>=fun y3=>(appG 112 jB ([y3]:List aL))>>=fun y4=>C9 p0 y1 (IntKind.wrap .i64 (x14+1)) y4) else (some (aB.mk p0.kind p0.op p0.not_ p0.value p0.qual p0.name y1 jB))
  partial_fixpoint
def nT (p0:aB):Option aB :=
  (mP p0.kids)>>=fun y1=>C9 p0 y1 0 ([]:List aL)
  partial_fixpoint
def sN (p0:(List aB)) (x11:Int) (jP:(List aB)):Option (List aB) :=
  if (decide (x11<(p0.length:Int)))=true then ((idx p0 x11)>>=fun y1=>(nT y1)>>=fun y2=>(appG 136 jP ([y2]:List aB))>>=fun y3=>sN p0 (IntKind.wrap .i64 (x11+1)) y3) else (some jP)
  partial_fixpoint
def mP (p0:(List aB)):Option (List aB) :=
  if (decide ((p0.length:Int)=0))=true then (some ([]:List aB)) else (sN p0 0 ([]:List aB))
  partial_fixpoint
end
def uM (p0:dW) (x3:(List aB)) (x12:Int):Option (List aB) :=
  if (decide (x12<(p0.rows.length:Int)))=true then ((idx p0.rows x12)>>=fun y2=>(appG 136 x3 y2)>>=fun y3=>uM p0 y3 (IntKind.wrap .i64 (x12+1))) else ((appG 136 x3 p0.sets)>>=fun y4=>(appG 136 y4 p0.where_)>>=fun y5=>(mP y5)>>=fun y6=>some y6)
  partial_fixpoint
def sQ (p0:aL) (iE:(List aB)) (x46:Int):Option (List aB) :=
  if (decide (x46<(p0.order.length:Int)))=true then ((idx p0.order x46)>>=fun y9=>(appG 136 iE ([y9.expr]:List aB))>>=fun y10=>sQ p0 y10 (IntKind.wrap .i64 (x46+1))) else (some iE)
  partial_fixpoint
def rA (p0:aL) (fH:(List aB)) (x30:Int):Option (List aB) :=
  if (decide (x30<(p0.from_.length:Int)))=true then ((idx p0.from_ x30)>>=fun y5=>(appG 136 fH y5.on_)>>=fun y6=>rA p0 y6 (IntKind.wrap .i64 (x30+1))) else ((appG 136 fH p0.where_)>>=fun y7=>sQ p0 y7 0)
  partial_fixpoint
mutual
def K4 (p0:aL) (x14:Int) (kL:(List aB)):Option (List aB) :=
  wY p0 kL (IntKind.wrap .i64 (x14+1))
  partial_fixpoint
def wY (p0:aL) (x3:(List aB)) (x14:Int):Option (List aB) :=
  if (decide (x14<(p0.items.length:Int)))=true then ((idx p0.items x14)>>=fun y1=>if (!y1.star)=true then ((appG 136 x3 ([y1.expr]:List aB))>>=fun y2=>K4 p0 x14 y2) else (K4 p0 x14 x3)) else (rA p0 x3 0)
  partial_fixpoint
end
def yO (p0:aL):Option (List aB) :=
  wY p0 ([]:List aB) 0
def tH (p0:dW):Option (List aB) :=
  (yO p0.query)>>=fun y1=>uM p0 y1 0
mutual
def rO (p0:aL) (fC:(List aX)) (dI:(List aU)) (y1:(List aB)) (x7:Int) (jI:(List aY)):Option aL :=
  if (decide (x7<(p0.order.length:Int)))=true then ((idx p0.order x7)>>=fun y10=>(mJ y10.expr)>>=fun y11=>(idx p0.order x7)>>=fun y12=>(appG 144 jI ([(aY.mk y11 y12.desc)]:List aY))>>=fun y13=>rO p0 fC dI y1 (IntKind.wrap .i64 (x7+1)) y13) else (some (aL.mk p0.distinct dI fC y1 jI p0.limit))
  partial_fixpoint
def vT (p0:aL) (dI:(List aU)) (y1:(List aB)) (x6:Int) (fC:(List aX)):Option aL :=
  if (decide (x6<(p0.from_.length:Int)))=true then ((idx p0.from_ x6)>>=fun y5=>(idx p0.from_ x6)>>=fun y6=>(idx p0.from_ x6)>>=fun y7=>(tJ y7.on_)>>=fun y8=>(appG 56 fC ([(aX.mk y5.table y6.as_ y8)]:List aX))>>=fun y9=>vT p0 dI y1 (IntKind.wrap .i64 (x6+1)) y9) else (rO p0 fC dI y1 0 ([]:List aY))
  partial_fixpoint
def H8 (p0:aL) (y1:(List aB)) (x4:Int) (dI:(List aU)):Option aL :=
  if (decide (x4<(p0.items.length:Int)))=true then ((idx p0.items x4)>>=fun y2=>(mJ y2.expr)>>=fun y3=>(appG 176 dI ([(aU.mk y2.star y2.qual y3 y2.as_)]:List aU))>>=fun y4=>H8 p0 y1 (IntKind.wrap .i64 (x4+1)) y4) else (vT p0 dI y1 0 ([]:List aX))
  partial_fixpoint
def K8 (p0:aL):Option aL :=
  (tJ p0.where_)>>=fun y1=>H8 p0 y1 0 ([]:List aU)
  partial_fixpoint
def J8 (p0:aB) (y1:(List aB)) (x4:Int) (jJ:(List aL)):Option aB :=
  if (decide (x4<(p0.sub.length:Int)))=true then ((idx p0.sub x4)>>=fun y2=>(K8 y2)>>=fun y3=>(appG 112 jJ ([y3]:List aL))>>=fun y4=>J8 p0 y1 (IntKind.wrap .i64 (x4+1)) y4) else (some (aB.mk p0.kind p0.op p0.not_ p0.value p0.qual p0.name y1 jJ))
  partial_fixpoint
def O0 (p0:(List aB)) (x4:Int) (fK:(List aB)):Option (List aB) :=
  if (decide (x4<(p0.length:Int)))=true then ((idx p0 x4)>>=fun y1=>(mJ y1)>>=fun y2=>(appG 136 fK ([y2]:List aB))>>=fun y3=>O0 p0 (IntKind.wrap .i64 (x4+1)) y3) else (some fK)
  partial_fixpoint
def tJ (p0:(List aB)):Option (List aB) :=
  O0 p0 0 ([]:List aB)
  partial_fixpoint
def mJ (p0:aB):Option aB :=
  (tJ p0.kids)>>=fun y1=>J8 p0 y1 0 ([]:List aL)
  partial_fixpoint
end
def wF (p0:(List aB)) (x4:Int) (fK:(List aB)):Option (List aB) :=
  if (decide (x4<(p0.length:Int)))=true then ((idx p0 x4)>>=fun y1=>(mJ y1)>>=fun y2=>(appG 136 fK ([y2]:List aB))>>=fun y3=>wF p0 (IntKind.wrap .i64 (x4+1)) y3) else (some fK)
  partial_fixpoint
def V5 (p0:(List aB)):Option (List aB) :=
  wF p0 0 ([]:List aB)
def qU (p0:aL) (iL:(List aB)) (x6:Int):Option (List aB) :=
  if (decide (x6<(p0.order.length:Int)))=true then ((idx p0.order x6)>>=fun y10=>(appG 136 iL ([y10.expr]:List aB))>>=fun y11=>qU p0 y11 (IntKind.wrap .i64 (x6+1))) else (some iL)
  partial_fixpoint
def rJ (p0:aL) (iB:(List aB)) (x5:Int):Option (List aB) :=
  if (decide (x5<(p0.from_.length:Int)))=true then ((idx p0.from_ x5)>>=fun y6=>(appG 136 iB y6.on_)>>=fun y7=>rJ p0 y7 (IntKind.wrap .i64 (x5+1))) else ((appG 136 iB p0.where_)>>=fun y8=>qU p0 y8 0)
  partial_fixpoint
mutual
def zN (x4:Int) (p0:aL) (fH:(List aB)):Option (List aB) :=
  Q3 p0 fH (IntKind.wrap .i64 (x4+1))
  partial_fixpoint
def Q3 (p0:aL) (x3:(List aB)) (x4:Int):Option (List aB) :=
  if (decide (x4<(p0.items.length:Int)))=true then ((idx p0.items x4)>>=fun y1=>if (!y1.star)=true then ((idx p0.items x4)>>=fun y2=>(appG 136 x3 ([y2.expr]:List aB))>>=fun y3=>zN x4 p0 y3) else (zN x4 p0 x3)) else (rJ p0 x3 0)
  partial_fixpoint
end
def G5 (p0:aL):Option (List aB) :=
  Q3 p0 ([]:List aB) 0
def vY (p0:dW) (x3:(List aB)) (x4:Int):Option (List aB) :=
  if (decide (x4<(p0.rows.length:Int)))=true then ((idx p0.rows x4)>>=fun y2=>(appG 136 x3 y2)>>=fun y3=>vY p0 y3 (IntKind.wrap .i64 (x4+1))) else ((appG 136 x3 p0.sets)>>=fun y4=>(appG 136 y4 p0.where_)>>=fun y5=>some y5)
  partial_fixpoint
def P9 (p0:dW):Option (List aB) :=
  (G5 p0.query)>>=fun y1=>vY p0 y1 0
def R9 (p0:dW):Option (List aB) :=
  (P9 p0)>>=fun y1=>(V5 y1)>>=fun y2=>some y2
def yS (p0:eP) (p1:eP):Option Bool :=
  if (!decide (p0.kind=p1.kind))=true then (some false) else (if (!decide (p0.num=p1.num))=true then (some false) else (if (!decide (p0.text=p1.text))=true then (some false) else (some true)))
mutual
def rP (p0:aX) (p1:aX):Option Bool :=
  if (!decide (p0.table=p1.table))=true then (some false) else (if (!decide (p0.as_=p1.as_))=true then (some false) else ((iM p0.on_ p1.on_)>>=fun y1=>if (!y1)=true then (some false) else (some true)))
  partial_fixpoint
def X7 (p0:(List aX)) (p1:(List aX)) (x5:Int):Option Bool :=
  if (decide (x5<(p0.length:Int)))=true then ((idx p0 x5)>>=fun y1=>(idx p1 x5)>>=fun y2=>(rP y1 y2)>>=fun y3=>if (!y3)=true then (some false) else (X7 p0 p1 (IntKind.wrap .i64 (x5+1)))) else (some true)
  partial_fixpoint
def V9 (p0:(List aX)) (p1:(List aX)):Option Bool :=
  if (!decide ((p0.length:Int)=(p1.length:Int)))=true then (some false) else (X7 p0 p1 0)
  partial_fixpoint
def vL (p0:aY) (p1:aY):Option Bool :=
  (lU p0.expr p1.expr)>>=fun y1=>if (!y1)=true then (some false) else (if (!(p0.desc==p1.desc))=true then (some false) else (some true))
  partial_fixpoint
def U1 (p0:(List aY)) (p1:(List aY)) (x5:Int):Option Bool :=
  if (decide (x5<(p0.length:Int)))=true then ((idx p0 x5)>>=fun y1=>(idx p1 x5)>>=fun y2=>(vL y1 y2)>>=fun y3=>if (!y3)=true then (some false) else (U1 p0 p1 (IntKind.wrap .i64 (x5+1)))) else (some true)
  partial_fixpoint
def aBh (p0:(List aY)) (p1:(List aY)):Option Bool :=
  if (!decide ((p0.length:Int)=(p1.length:Int)))=true then (some false) else (U1 p0 p1 0)
  partial_fixpoint
def uL (p0:aU) (p1:aU):Option Bool :=
  if (!(p0.star==p1.star))=true then (some false) else (if (!decide (p0.qual=p1.qual))=true then (some false) else ((lU p0.expr p1.expr)>>=fun y1=>if (!y1)=true then (some false) else (if (!decide (p0.as_=p1.as_))=true then (some false) else (some true))))
  partial_fixpoint
def U2 (p0:(List aU)) (p1:(List aU)) (x5:Int):Option Bool :=
  if (decide (x5<(p0.length:Int)))=true then ((idx p0 x5)>>=fun y1=>(idx p1 x5)>>=fun y2=>(uL y1 y2)>>=fun y3=>if (!y3)=true then (some false) else (U2 p0 p1 (IntKind.wrap .i64 (x5+1)))) else (some true)
  partial_fixpoint
def aB7 (p0:(List aU)) (p1:(List aU)):Option Bool :=
  if (!decide ((p0.length:Int)=(p1.length:Int)))=true then (some false) else (U2 p0 p1 0)
  partial_fixpoint
def qA (p0:aL) (p1:aL):Option Bool :=
  if (!(p0.distinct==p1.distinct))=true then (some false) else ((aB7 p0.items p1.items)>>=fun y1=>if (!y1)=true then (some false) else ((V9 p0.from_ p1.from_)>>=fun y2=>if (!y2)=true then (some false) else ((iM p0.where_ p1.where_)>>=fun y3=>if (!y3)=true then (some false) else ((aBh p0.order p1.order)>>=fun y4=>if (!y4)=true then (some false) else (if (!decide (p0.limit=p1.limit))=true then (some false) else (some true))))))
  partial_fixpoint
def aAv (p0:(List aL)) (p1:(List aL)) (x5:Int):Option Bool :=
  if (decide (x5<(p0.length:Int)))=true then ((idx p0 x5)>>=fun y1=>(idx p1 x5)>>=fun y2=>(qA y1 y2)>>=fun y3=>if (!y3)=true then (some false) else (aAv p0 p1 (IntKind.wrap .i64 (x5+1)))) else (some true)
  partial_fixpoint
def aAy (p0:(List aL)) (p1:(List aL)):Option Bool :=
  if (!decide ((p0.length:Int)=(p1.length:Int)))=true then (some false) else (aAv p0 p1 0)
  partial_fixpoint
def lU (p0:aB) (p1:aB):Option Bool :=
  if (!decide (p0.kind=p1.kind))=true then (some false) else (if (!decide (p0.op=p1.op))=true then (some false) else (if (!(p0.not_==p1.not_))=true then (some false) else ((yS p0.value p1.value)>>=fun y1=>if (!y1)=true then (some false) else (if (!decide (p0.qual=p1.qual))=true then (some false) else (if (!decide (p0.name=p1.name))=true then (some false) else ((iM p0.kids p1.kids)>>=fun y2=>if (!y2)=true then (some false) else ((aAy p0.sub p1.sub)>>=fun y3=>if (!y3)=true then (some false) else (some true))))))))
  partial_fixpoint
def tY (p0:(List aB)) (p1:(List aB)) (x5:Int):Option Bool :=
  if (decide (x5<(p0.length:Int)))=true then ((idx p0 x5)>>=fun y1=>(idx p1 x5)>>=fun y2=>(lU y1 y2)>>=fun y3=>if (!y3)=true then (some false) else (tY p0 p1 (IntKind.wrap .i64 (x5+1)))) else (some true)
  partial_fixpoint
def iM (p0:(List aB)) (p1:(List aB)):Option Bool :=
  if (!decide ((p0.length:Int)=(p1.length:Int)))=true then (some false) else (tY p0 p1 0)
  partial_fixpoint
end
def P6 (p0:(List (List aB))) (p1:(List (List aB))) (x5:Int):Option Bool :=
  if (decide (x5<(p0.length:Int)))=true then ((idx p0 x5)>>=fun y1=>(idx p1 x5)>>=fun y2=>(iM y1 y2)>>=fun y3=>if (!y3)=true then (some false) else (P6 p0 p1 (IntKind.wrap .i64 (x5+1)))) else (some true)
  partial_fixpoint
def M7 (p0:(List (List aB))) (p1:(List (List aB))):Option Bool :=
  if (!decide ((p0.length:Int)=(p1.length:Int)))=true then (some false) else (P6 p0 p1 0)
def zM (p0:(List (List UInt8))) (p1:(List (List UInt8))) (x5:Int):Option Bool :=
  if (decide (x5<(p0.length:Int)))=true then ((idx p0 x5)>>=fun y1=>(idx p1 x5)>>=fun y2=>if (!decide (y1=y2))=true then (some false) else (zM p0 p1 (IntKind.wrap .i64 (x5+1)))) else (some true)
  partial_fixpoint
def N8 (p0:(List (List UInt8))) (p1:(List (List UInt8))):Option Bool :=
  if (!decide ((p0.length:Int)=(p1.length:Int)))=true then (some false) else (zM p0 p1 0)
def Q0 (p0:dW) (p1:dW):Option Bool :=
  if (!decide (p0.kind=p1.kind))=true then (some false) else ((qA p0.query p1.query)>>=fun y1=>if (!y1)=true then (some false) else (if (!decide (p0.table=p1.table))=true then (some false) else ((M7 p0.rows p1.rows)>>=fun y2=>if (!y2)=true then (some false) else ((N8 p0.cols p1.cols)>>=fun y3=>if (!y3)=true then (some false) else ((iM p0.sets p1.sets)>>=fun y4=>if (!y4)=true then (some false) else ((iM p0.where_ p1.where_)>>=fun y5=>if (!y5)=true then (some false) else (some true)))))))
def rQ (x0:Int) (x3:(List UInt8)):Option (List UInt8) :=
  if (decide (0<x0))=true then ((ofBytes ([(IntKind.wrap .u8 (IntKind.wrap .i64 (48+(Int.tmod x0 10))))]:List Int))>>=fun y1=>(M9 y1 x3)>>=fun y2=>rQ (IntKind.wrap .i64 (Int.tdiv x0 10)) y2) else ((M9 [109] x3)>>=fun y3=>some y3)
  partial_fixpoint
def fD (p0:Int):Option (List UInt8) :=
  if (decide (p0≤0))=true then (some [109,48]) else (rQ p0 [])
mutual
def pQ (p0:(List aX)) (x1:Int) (x5:Int):Option Int :=
  if (decide (x5<(p0.length:Int)))=true then ((idx p0 x5)>>=fun y1=>(fD x1)>>=fun y2=>if (!decide (y1.table=y2))=true then (some (-1)) else ((idx p0 x5)>>=fun y3=>(fD (IntKind.wrap .i64 (x1+1)))>>=fun y4=>if (!decide (y3.as_=y4))=true then (some (-1)) else ((idx p0 x5)>>=fun y5=>(lY y5.on_ (IntKind.wrap .i64 ((IntKind.wrap .i64 (x1+1))+1)))>>=fun y6=>if (decide (y6<0))=true then (some (-1)) else (pQ p0 y6 (IntKind.wrap .i64 (x5+1)))))) else (some x1)
  partial_fixpoint
def aBq (p0:(List aX)) (p1:Int):Option Int :=
  pQ p0 p1 0
  partial_fixpoint
def tK (p0:(List aY)) (x1:Int) (x5:Int):Option Int :=
  if (decide (x5<(p0.length:Int)))=true then ((idx p0 x5)>>=fun y1=>if (!decide (y1.expr.kind=x1))=true then (some (-1)) else ((idx p0 x5)>>=fun y2=>if (!decide (y2.expr.op=(IntKind.wrap .i64 (x1+1))))=true then (some (-1)) else ((idx p0 x5)>>=fun y3=>if (!(y3.expr.not_==(decide ((Int.tmod (IntKind.wrap .i64 ((IntKind.wrap .i64 (x1+1))+1)) 3)=0))))=true then (some (-1)) else ((idx p0 x5)>>=fun y4=>if (!decide (y4.expr.value.kind=(IntKind.wrap .i64 ((IntKind.wrap .i64 ((IntKind.wrap .i64 (x1+1))+1))+1))))=true then (some (-1)) else ((idx p0 x5)>>=fun y5=>if (!decide (y5.expr.value.num=(IntKind.wrap .i64 ((IntKind.wrap .i64 ((IntKind.wrap .i64 ((IntKind.wrap .i64 (x1+1))+1))+1))+1))))=true then (some (-1)) else ((idx p0 x5)>>=fun y6=>(fD (IntKind.wrap .i64 ((IntKind.wrap .i64 ((IntKind.wrap .i64 ((IntKind.wrap .i64 ((IntKind.wrap .i64 (x1+1))+1))+1))+1))+1)))>>=fun y7=>if (!decide (y6.expr.value.text=y7))=true then (some (-1)) else ((idx p0 x5)>>=fun y8=>(fD (IntKind.wrap .i64 ((IntKind.wrap .i64 ((IntKind.wrap .i64 ((IntKind.wrap .i64 ((IntKind.wrap .i64 ((IntKind.wrap .i64 (x1+1))+1))+1))+1))+1))+1)))>>=fun y9=>if (!decide (y8.expr.qual=y9))=true then (some (-1)) else ((idx p0 x5)>>=fun y10=>(fD (IntKind.wrap .i64 ((IntKind.wrap .i64 ((IntKind.wrap .i64 ((IntKind.wrap .i64 ((IntKind.wrap .i64 ((IntKind.wrap .i64 ((IntKind.wrap .i64 (x1+1))+1))+1))+1))+1))+1))+1)))>>=fun y11=>if (!decide (y10.expr.name=y11))=true then (some (-1)) else ((idx p0 x5)>>=fun y12=>(lY y12.expr.kids (IntKind.wrap .i64 ((IntKind.wrap .i64 ((IntKind.wrap .i64 ((IntKind.wrap .i64 ((IntKind.wrap .i64 ((IntKind.wrap .i64 ((IntKind.wrap .i64 ((IntKind.wrap .i64 (x1+1))+1))+1))+1))+1))+1))+1))+1)))>>=fun y13=>if (decide (y13<0))=true then (some (-1)) else ((idx p0 x5)>>=fun y14=>(wB y14.expr.sub y13)>>=fun y15=>if (decide (y15<0))=true then (some (-1)) else ((idx p0 x5)>>=fun y16=>if (!(y16.desc==(decide ((Int.tmod y15 3)=0))))=true then (some (-1)) else (tK p0 (IntKind.wrap .i64 (y15+1)) (IntKind.wrap .i64 (x5+1)))))))))))))) else (some x1)
  partial_fixpoint
def aBd (p0:(List aY)) (p1:Int):Option Int :=
  tK p0 p1 0
  partial_fixpoint
def rG (p0:(List aU)) (x1:Int) (x5:Int):Option Int :=
  if (decide (x5<(p0.length:Int)))=true then ((idx p0 x5)>>=fun y1=>if (!(y1.star==(decide ((Int.tmod x1 3)=0))))=true then (some (-1)) else ((idx p0 x5)>>=fun y2=>(fD (IntKind.wrap .i64 (x1+1)))>>=fun y3=>if (!decide (y2.qual=y3))=true then (some (-1)) else ((idx p0 x5)>>=fun y4=>if (!decide (y4.expr.kind=(IntKind.wrap .i64 ((IntKind.wrap .i64 (x1+1))+1))))=true then (some (-1)) else ((idx p0 x5)>>=fun y5=>if (!decide (y5.expr.op=(IntKind.wrap .i64 ((IntKind.wrap .i64 ((IntKind.wrap .i64 (x1+1))+1))+1))))=true then (some (-1)) else ((idx p0 x5)>>=fun y6=>if (!(y6.expr.not_==(decide ((Int.tmod (IntKind.wrap .i64 ((IntKind.wrap .i64 ((IntKind.wrap .i64 ((IntKind.wrap .i64 (x1+1))+1))+1))+1)) 3)=0))))=true then (some (-1)) else ((idx p0 x5)>>=fun y7=>if (!decide (y7.expr.value.kind=(IntKind.wrap .i64 ((IntKind.wrap .i64 ((IntKind.wrap .i64 ((IntKind.wrap .i64 ((IntKind.wrap .i64 (x1+1))+1))+1))+1))+1))))=true then (some (-1)) else ((idx p0 x5)>>=fun y8=>if (!decide (y8.expr.value.num=(IntKind.wrap .i64 ((IntKind.wrap .i64 ((IntKind.wrap .i64 ((IntKind.wrap .i64 ((IntKind.wrap .i64 ((IntKind.wrap .i64 (x1+1))+1))+1))+1))+1))+1))))=true then (some (-1)) else ((idx p0 x5)>>=fun y9=>(fD (IntKind.wrap .i64 ((IntKind.wrap .i64 ((IntKind.wrap .i64 ((IntKind.wrap .i64 ((IntKind.wrap .i64 ((IntKind.wrap .i64 ((IntKind.wrap .i64 (x1+1))+1))+1))+1))+1))+1))+1)))>>=fun y10=>if (!decide (y9.expr.value.text=y10))=true then (some (-1)) else ((idx p0 x5)>>=fun y11=>(fD (IntKind.wrap .i64 ((IntKind.wrap .i64 ((IntKind.wrap .i64 ((IntKind.wrap .i64 ((IntKind.wrap .i64 ((IntKind.wrap .i64 ((IntKind.wrap .i64 ((IntKind.wrap .i64 (x1+1))+1))+1))+1))+1))+1))+1))+1)))>>=fun y12=>if (!decide (y11.expr.qual=y12))=true then (some (-1)) else ((idx p0 x5)>>=fun y13=>(fD (IntKind.wrap .i64 ((IntKind.wrap .i64 ((IntKind.wrap .i64 ((IntKind.wrap .i64 ((IntKind.wrap .i64 ((IntKind.wrap .i64 ((IntKind.wrap .i64 ((IntKind.wrap .i64 ((IntKind.wrap .i64 (x1+1))+1))+1))+1))+1))+1))+1))+1))+1)))>>=fun y14=>if (!decide (y13.expr.name=y14))=true then (some (-1)) else ((idx p0 x5)>>=fun y15=>(lY y15.expr.kids (IntKind.wrap .i64 ((IntKind.wrap .i64 ((IntKind.wrap .i64 ((IntKind.wrap .i64 ((IntKind.wrap .i64 ((IntKind.wrap .i64 ((IntKind.wrap .i64 ((IntKind.wrap .i64 ((IntKind.wrap .i64 ((IntKind.wrap .i64 (x1+1))+1))+1))+1))+1))+1))+1))+1))+1))+1)))>>=fun y16=>if (decide (y16<0))=true then (some (-1)) else ((idx p0 x5)>>=fun y17=>(wB y17.expr.sub y16)>>=fun y18=>if (decide (y18<0))=true then (some (-1)) else ((idx p0 x5)>>=fun y19=>(fD y18)>>=fun y20=>if (!decide (y19.as_=y20))=true then (some (-1)) else (rG p0 (IntKind.wrap .i64 (y18+1)) (IntKind.wrap .i64 (x5+1)))))))))))))))) else (some x1)
  partial_fixpoint
def aA4 (p0:(List aU)) (p1:Int):Option Int :=
  rG p0 p1 0
  partial_fixpoint
def qP (p0:(List aL)) (x1:Int) (x5:Int):Option Int :=
  if (decide (x5<(p0.length:Int)))=true then ((idx p0 x5)>>=fun y1=>if (!(y1.distinct==(decide ((Int.tmod x1 3)=0))))=true then (some (-1)) else ((idx p0 x5)>>=fun y2=>(aA4 y2.items (IntKind.wrap .i64 (x1+1)))>>=fun y3=>if (decide (y3<0))=true then (some (-1)) else ((idx p0 x5)>>=fun y4=>(aBq y4.from_ y3)>>=fun y5=>if (decide (y5<0))=true then (some (-1)) else ((idx p0 x5)>>=fun y6=>(lY y6.where_ y5)>>=fun y7=>if (decide (y7<0))=true then (some (-1)) else ((idx p0 x5)>>=fun y8=>(aBd y8.order y7)>>=fun y9=>if (decide (y9<0))=true then (some (-1)) else ((idx p0 x5)>>=fun y10=>if (!decide (y10.limit=y9))=true then (some (-1)) else (qP p0 (IntKind.wrap .i64 (y9+1)) (IntKind.wrap .i64 (x5+1))))))))) else (some x1)
  partial_fixpoint
def wB (p0:(List aL)) (p1:Int):Option Int :=
  qP p0 p1 0
  partial_fixpoint
def qX (p0:(List aB)) (x1:Int) (x5:Int):Option Int :=
  if (decide (x5<(p0.length:Int)))=true then ((idx p0 x5)>>=fun y1=>if (!decide (y1.kind=x1))=true then (some (-1)) else ((idx p0 x5)>>=fun y2=>if (!decide (y2.op=(IntKind.wrap .i64 (x1+1))))=true then (some (-1)) else ((idx p0 x5)>>=fun y3=>if (!(y3.not_==(decide ((Int.tmod (IntKind.wrap .i64 ((IntKind.wrap .i64 (x1+1))+1)) 3)=0))))=true then (some (-1)) else ((idx p0 x5)>>=fun y4=>if (!decide (y4.value.kind=(IntKind.wrap .i64 ((IntKind.wrap .i64 ((IntKind.wrap .i64 (x1+1))+1))+1))))=true then (some (-1)) else ((idx p0 x5)>>=fun y5=>if (!decide (y5.value.num=(IntKind.wrap .i64 ((IntKind.wrap .i64 ((IntKind.wrap .i64 ((IntKind.wrap .i64 (x1+1))+1))+1))+1))))=true then (some (-1)) else ((idx p0 x5)>>=fun y6=>(fD (IntKind.wrap .i64 ((IntKind.wrap .i64 ((IntKind.wrap .i64 ((IntKind.wrap .i64 ((IntKind.wrap .i64 (x1+1))+1))+1))+1))+1)))>>=fun y7=>if (!decide (y6.value.text=y7))=true then (some (-1)) else ((idx p0 x5)>>=fun y8=>(fD (IntKind.wrap .i64 ((IntKind.wrap .i64 ((IntKind.wrap .i64 ((IntKind.wrap .i64 ((IntKind.wrap .i64 ((IntKind.wrap .i64 (x1+1))+1))+1))+1))+1))+1)))>>=fun y9=>if (!decide (y8.qual=y9))=true then (some (-1)) else ((idx p0 x5)>>=fun y10=>(fD (IntKind.wrap .i64 ((IntKind.wrap .i64 ((IntKind.wrap .i64 ((IntKind.wrap .i64 ((IntKind.wrap .i64 ((IntKind.wrap .i64 ((IntKind.wrap .i64 (x1+1))+1))+1))+1))+1))+1))+1)))>>=fun y11=>if (!decide (y10.name=y11))=true then (some (-1)) else ((idx p0 x5)>>=fun y12=>(lY y12.kids (IntKind.wrap .i64 ((IntKind.wrap .i64 ((IntKind.wrap .i64 ((IntKind.wrap .i64 ((IntKind.wrap .i64 ((IntKind.wrap .i64 ((IntKind.wrap .i64 ((IntKind.wrap .i64 (x1+1))+1))+1))+1))+1))+1))+1))+1)))>>=fun y13=>if (decide (y13<0))=true then (some (-1)) else ((idx p0 x5)>>=fun y14=>(wB y14.sub y13)>>=fun y15=>if (decide (y15<0))=true then (some (-1)) else (qX p0 y15 (IntKind.wrap .i64 (x5+1))))))))))))) else (some x1)
  partial_fixpoint
def lY (p0:(List aB)) (p1:Int):Option Int :=
  qX p0 p1 0
  partial_fixpoint
end
mutual
def qM (x1:Int) (x5:Int) (aJ:(List aX)):Option (Int×(List aX)) :=
  if (decide (x5<(aJ.length:Int)))=true then ((fD x1)>>=fun y1=>(idx aJ x5)>>=fun y2=>(fD (IntKind.wrap .i64 (x1+1)))>>=fun y3=>(jV y2.on_ (IntKind.wrap .i64 ((IntKind.wrap .i64 (x1+1))+1)))>>=fun y4=>qM y4.1 (IntKind.wrap .i64 (x5+1)) (aJ.set (x5).toNat (aX.mk y1 y3 y4.2))) else (some (x1,aJ))
  partial_fixpoint
def vK (p0:(List aX)) (p1:Int):Option (Int×(List aX)) :=
  qM p1 0 p0
  partial_fixpoint
def tN (x1:Int) (x5:Int) (aJ:(List aY)):Option (Int×(List aY)) :=
  if (decide (x5<(aJ.length:Int)))=true then ((idx aJ x5)>>=fun y1=>(fD (IntKind.wrap .i64 ((IntKind.wrap .i64 ((IntKind.wrap .i64 ((IntKind.wrap .i64 ((IntKind.wrap .i64 (x1+1))+1))+1))+1))+1)))>>=fun y2=>(fD (IntKind.wrap .i64 ((IntKind.wrap .i64 ((IntKind.wrap .i64 ((IntKind.wrap .i64 ((IntKind.wrap .i64 ((IntKind.wrap .i64 (x1+1))+1))+1))+1))+1))+1)))>>=fun y3=>(fD (IntKind.wrap .i64 ((IntKind.wrap .i64 ((IntKind.wrap .i64 ((IntKind.wrap .i64 ((IntKind.wrap .i64 ((IntKind.wrap .i64 ((IntKind.wrap .i64 (x1+1))+1))+1))+1))+1))+1))+1)))>>=fun y4=>(jV y1.expr.kids (IntKind.wrap .i64 ((IntKind.wrap .i64 ((IntKind.wrap .i64 ((IntKind.wrap .i64 ((IntKind.wrap .i64 ((IntKind.wrap .i64 ((IntKind.wrap .i64 ((IntKind.wrap .i64 (x1+1))+1))+1))+1))+1))+1))+1))+1)))>>=fun y5=>(vN y1.expr.sub y5.1)>>=fun y6=>tN (IntKind.wrap .i64 (y6.1+1)) (IntKind.wrap .i64 (x5+1)) (aJ.set (x5).toNat (aY.mk (aB.mk x1 (IntKind.wrap .i64 (x1+1)) (decide ((Int.tmod (IntKind.wrap .i64 ((IntKind.wrap .i64 (x1+1))+1)) 3)=0)) (eP.mk (IntKind.wrap .i64 ((IntKind.wrap .i64 ((IntKind.wrap .i64 (x1+1))+1))+1)) (IntKind.wrap .i64 ((IntKind.wrap .i64 ((IntKind.wrap .i64 ((IntKind.wrap .i64 (x1+1))+1))+1))+1)) y2) y3 y4 y5.2 y6.2) (decide ((Int.tmod y6.1 3)=0))))) else (some (x1,aJ))
  partial_fixpoint
def wK (p0:(List aY)) (p1:Int):Option (Int×(List aY)) :=
  tN p1 0 p0
  partial_fixpoint
def qZ (x1:Int) (x5:Int) (aJ:(List aU)):Option (Int×(List aU)) :=
  if (decide (x5<(aJ.length:Int)))=true then ((idx aJ x5)>>=fun y1=>(fD (IntKind.wrap .i64 (x1+1)))>>=fun y2=>(fD (IntKind.wrap .i64 ((IntKind.wrap .i64 ((IntKind.wrap .i64 ((IntKind.wrap .i64 ((IntKind.wrap .i64 ((IntKind.wrap .i64 ((IntKind.wrap .i64 (x1+1))+1))+1))+1))+1))+1))+1)))>>=fun y3=>(fD (IntKind.wrap .i64 ((IntKind.wrap .i64 ((IntKind.wrap .i64 ((IntKind.wrap .i64 ((IntKind.wrap .i64 ((IntKind.wrap .i64 ((IntKind.wrap .i64 ((IntKind.wrap .i64 (x1+1))+1))+1))+1))+1))+1))+1))+1)))>>=fun y4=>(fD (IntKind.wrap .i64 ((IntKind.wrap .i64 ((IntKind.wrap .i64 ((IntKind.wrap .i64 ((IntKind.wrap .i64 ((IntKind.wrap .i64 ((IntKind.wrap .i64 ((IntKind.wrap .i64 ((IntKind.wrap .i64 (x1+1))+1))+1))+1))+1))+1))+1))+1))+1)))>>=fun y5=>(jV y1.expr.kids (IntKind.wrap .i64 ((IntKind.wrap .i64 ((IntKind.wrap .i64 ((IntKind.wrap .i64 ((IntKind.wrap .i64 ((IntKind.wrap .i64 ((IntKind.wrap .i64 ((IntKind.wrap .i64 ((IntKind.wrap .i64 ((IntKind.wrap .i64 (x1+1))+1))+1))+1))+1))+1))+1))+1))+1))+1)))>>=fun y6=>(vN y1.expr.sub y6.1)>>=fun y7=>(fD y7.1)>>=fun y8=>qZ (IntKind.wrap .i64 (y7.1+1)) (IntKind.wrap .i64 (x5+1)) (aJ.set (x5).toNat (aU.mk (decide ((Int.tmod x1 3)=0)) y2 (aB.mk (IntKind.wrap .i64 ((IntKind.wrap .i64 (x1+1))+1)) (IntKind.wrap .i64 ((IntKind.wrap .i64 ((IntKind.wrap .i64 (x1+1))+1))+1)) (decide ((Int.tmod (IntKind.wrap .i64 ((IntKind.wrap .i64 ((IntKind.wrap .i64 ((IntKind.wrap .i64 (x1+1))+1))+1))+1)) 3)=0)) (eP.mk (IntKind.wrap .i64 ((IntKind.wrap .i64 ((IntKind.wrap .i64 ((IntKind.wrap .i64 ((IntKind.wrap .i64 (x1+1))+1))+1))+1))+1)) (IntKind.wrap .i64 ((IntKind.wrap .i64 ((IntKind.wrap .i64 ((IntKind.wrap .i64 ((IntKind.wrap .i64 ((IntKind.wrap .i64 (x1+1))+1))+1))+1))+1))+1)) y3) y4 y5 y6.2 y7.2) y8))) else (some (x1,aJ))
  partial_fixpoint
def wN (p0:(List aU)) (p1:Int):Option (Int×(List aU)) :=
  qZ p1 0 p0
  partial_fixpoint
def tV (x1:Int) (x5:Int) (aJ:(List aL)):Option (Int×(List aL)) :=
  if (decide (x5<(aJ.length:Int)))=true then ((idx aJ x5)>>=fun y1=>(wN y1.items (IntKind.wrap .i64 (x1+1)))>>=fun y2=>(vK y1.from_ y2.1)>>=fun y3=>(jV y1.where_ y3.1)>>=fun y4=>(wK y1.order y4.1)>>=fun y5=>tV (IntKind.wrap .i64 (y5.1+1)) (IntKind.wrap .i64 (x5+1)) (aJ.set (x5).toNat (aL.mk (decide ((Int.tmod x1 3)=0)) y2.2 y3.2 y4.2 y5.2 y5.1))) else (some (x1,aJ))
  partial_fixpoint
def vN (p0:(List aL)) (p1:Int):Option (Int×(List aL)) :=
  tV p1 0 p0
  partial_fixpoint
def sV (x1:Int) (x5:Int) (aJ:(List aB)):Option (Int×(List aB)) :=
  if (decide (x5<(aJ.length:Int)))=true then ((idx aJ x5)>>=fun y1=>(fD (IntKind.wrap .i64 ((IntKind.wrap .i64 ((IntKind.wrap .i64 ((IntKind.wrap .i64 ((IntKind.wrap .i64 (x1+1))+1))+1))+1))+1)))>>=fun y2=>(fD (IntKind.wrap .i64 ((IntKind.wrap .i64 ((IntKind.wrap .i64 ((IntKind.wrap .i64 ((IntKind.wrap .i64 ((IntKind.wrap .i64 (x1+1))+1))+1))+1))+1))+1)))>>=fun y3=>(fD (IntKind.wrap .i64 ((IntKind.wrap .i64 ((IntKind.wrap .i64 ((IntKind.wrap .i64 ((IntKind.wrap .i64 ((IntKind.wrap .i64 ((IntKind.wrap .i64 (x1+1))+1))+1))+1))+1))+1))+1)))>>=fun y4=>(jV y1.kids (IntKind.wrap .i64 ((IntKind.wrap .i64 ((IntKind.wrap .i64 ((IntKind.wrap .i64 ((IntKind.wrap .i64 ((IntKind.wrap .i64 ((IntKind.wrap .i64 ((IntKind.wrap .i64 (x1+1))+1))+1))+1))+1))+1))+1))+1)))>>=fun y5=>(vN y1.sub y5.1)>>=fun y6=>sV y6.1 (IntKind.wrap .i64 (x5+1)) (aJ.set (x5).toNat (aB.mk x1 (IntKind.wrap .i64 (x1+1)) (decide ((Int.tmod (IntKind.wrap .i64 ((IntKind.wrap .i64 (x1+1))+1)) 3)=0)) (eP.mk (IntKind.wrap .i64 ((IntKind.wrap .i64 ((IntKind.wrap .i64 (x1+1))+1))+1)) (IntKind.wrap .i64 ((IntKind.wrap .i64 ((IntKind.wrap .i64 ((IntKind.wrap .i64 (x1+1))+1))+1))+1)) y2) y3 y4 y5.2 y6.2))) else (some (x1,aJ))
  partial_fixpoint
def jV (p0:(List aB)) (p1:Int):Option (Int×(List aB)) :=
  sV p1 0 p0
  partial_fixpoint
end
def pX (x1:Int) (x5:Int) (aJ:(List (List aB))):Option (Int×(List (List aB))) :=
  if (decide (x5<(aJ.length:Int)))=true then ((idx aJ x5)>>=fun y1=>(jV y1 x1)>>=fun y2=>pX y2.1 (IntKind.wrap .i64 (x5+1)) (aJ.set (x5).toNat y2.2)) else (some (x1,aJ))
  partial_fixpoint
def A8 (p0:(List (List aB))) (p1:Int):Option (Int×(List (List aB))) :=
  pX p1 0 p0
def E8 (p0:aL) (p1:Int):Option (Int×(List aU)×(List aX)×(List aB)×(List aY)) :=
  (wN p0.items p1)>>=fun y1=>(vK p0.from_ y1.1)>>=fun y2=>(jV p0.where_ y2.1)>>=fun y3=>(wK p0.order y3.1)>>=fun y4=>some (y4.1,y1.2,y2.2,y3.2,y4.2)
def qC (x1:Int) (x5:Int) (aJ:(List (List UInt8))):Option (Int×(List (List UInt8))) :=
  if (decide (x5<(aJ.length:Int)))=true then ((fD x1)>>=fun y1=>(idx aJ x5)>>=fun y2=>qC (IntKind.wrap .i64 (x1+1)) (IntKind.wrap .i64 (x5+1)) (aJ.set (x5).toNat y1)) else (some (x1,aJ))
  partial_fixpoint
def H5 (p0:(List (List UInt8))) (p1:Int):Option (Int×(List (List UInt8))) :=
  qC p1 0 p0
def D8 (p0:dW) (p1:Int):Option (Int×(List aU)×(List aX)×(List aB)×(List aY)×(List (List aB))×(List (List UInt8))×(List aB)×(List aB)) :=
  (E8 p0.query p1)>>=fun y1=>(A8 p0.rows y1.1)>>=fun y2=>(H5 p0.cols y2.1)>>=fun y3=>(jV p0.sets y3.1)>>=fun y4=>(jV p0.where_ y4.1)>>=fun y5=>some (y5.1,y1.2.1,y1.2.2.1,y1.2.2.2.1,y1.2.2.2.2,y2.2,y3.2,y4.2,y5.2)
def L6 (p0:eP) (p1:Int):Option Int :=
  if (decide ((IntKind.wrap .i64 (p1 - (p0.text.length:Int)))<0))=true then (some (-1)) else (some (IntKind.wrap .i64 (p1 - (p0.text.length:Int))))
mutual
def rZ (p0:aX) (p1:Int):Option Int :=
  if (decide ((IntKind.wrap .i64 (p1 - (p0.table.length:Int)))<0))=true then (some (-1)) else (if (decide ((IntKind.wrap .i64 ((IntKind.wrap .i64 (p1 - (p0.table.length:Int))) - (p0.as_.length:Int)))<0))=true then (some (-1)) else ((jS p0.on_ (IntKind.wrap .i64 ((IntKind.wrap .i64 (p1 - (p0.table.length:Int))) - (p0.as_.length:Int))))>>=fun y1=>if (decide (y1<0))=true then (some (-1)) else (some y1)))
  partial_fixpoint
def aBr (p0:(List aX)) (x1:Int) (x5:Int):Option Int :=
  if (decide (x5<(p0.length:Int)))=true then ((idx p0 x5)>>=fun y1=>(rZ y1 x1)>>=fun y2=>if (decide (y2<0))=true then (some (-1)) else (aBr p0 y2 (IntKind.wrap .i64 (x5+1)))) else (some x1)
  partial_fixpoint
def aAw (p0:(List aX)) (p1:Int):Option Int :=
  if (decide ((IntKind.wrap .i64 (p1 - (p0.length:Int)))<0))=true then (some (-1)) else (aBr p0 (IntKind.wrap .i64 (p1 - (p0.length:Int))) 0)
  partial_fixpoint
def vH (p0:aY) (p1:Int):Option Int :=
  (kZ p0.expr p1)>>=fun y1=>if (decide (y1<0))=true then (some (-1)) else (some y1)
  partial_fixpoint
def Y8 (p0:(List aY)) (x1:Int) (x5:Int):Option Int :=
  if (decide (x5<(p0.length:Int)))=true then ((idx p0 x5)>>=fun y1=>(vH y1 x1)>>=fun y2=>if (decide (y2<0))=true then (some (-1)) else (Y8 p0 y2 (IntKind.wrap .i64 (x5+1)))) else (some x1)
  partial_fixpoint
def aAc (p0:(List aY)) (p1:Int):Option Int :=
  if (decide ((IntKind.wrap .i64 (p1 - (p0.length:Int)))<0))=true then (some (-1)) else (Y8 p0 (IntKind.wrap .i64 (p1 - (p0.length:Int))) 0)
  partial_fixpoint
def uZ (p0:aU) (p1:Int):Option Int :=
  if (decide ((IntKind.wrap .i64 (p1 - (p0.qual.length:Int)))<0))=true then (some (-1)) else ((kZ p0.expr (IntKind.wrap .i64 (p1 - (p0.qual.length:Int))))>>=fun y1=>if (decide (y1<0))=true then (some (-1)) else (if (decide ((IntKind.wrap .i64 (y1 - (p0.as_.length:Int)))<0))=true then (some (-1)) else (some (IntKind.wrap .i64 (y1 - (p0.as_.length:Int))))))
  partial_fixpoint
def aBl (p0:(List aU)) (x1:Int) (x5:Int):Option Int :=
  if (decide (x5<(p0.length:Int)))=true then ((idx p0 x5)>>=fun y1=>(uZ y1 x1)>>=fun y2=>if (decide (y2<0))=true then (some (-1)) else (aBl p0 y2 (IntKind.wrap .i64 (x5+1)))) else (some x1)
  partial_fixpoint
def aC2 (p0:(List aU)) (p1:Int):Option Int :=
  if (decide ((IntKind.wrap .i64 (p1 - (p0.length:Int)))<0))=true then (some (-1)) else (aBl p0 (IntKind.wrap .i64 (p1 - (p0.length:Int))) 0)
  partial_fixpoint
def pK (p0:aL) (p1:Int):Option Int :=
  (aC2 p0.items p1)>>=fun y1=>if (decide (y1<0))=true then (some (-1)) else ((aAw p0.from_ y1)>>=fun y2=>if (decide (y2<0))=true then (some (-1)) else ((jS p0.where_ y2)>>=fun y3=>if (decide (y3<0))=true then (some (-1)) else ((aAc p0.order y3)>>=fun y4=>if (decide (y4<0))=true then (some (-1)) else (some y4))))
  partial_fixpoint
def Y0 (p0:(List aL)) (x1:Int) (x5:Int):Option Int :=
  if (decide (x5<(p0.length:Int)))=true then ((idx p0 x5)>>=fun y1=>(pK y1 x1)>>=fun y2=>if (decide (y2<0))=true then (some (-1)) else (Y0 p0 y2 (IntKind.wrap .i64 (x5+1)))) else (some x1)
  partial_fixpoint
def aAn (p0:(List aL)) (p1:Int):Option Int :=
  if (decide ((IntKind.wrap .i64 (p1 - (p0.length:Int)))<0))=true then (some (-1)) else (Y0 p0 (IntKind.wrap .i64 (p1 - (p0.length:Int))) 0)
  partial_fixpoint
def kZ (p0:aB) (p1:Int):Option Int :=
  (L6 p0.value p1)>>=fun y1=>if (decide (y1<0))=true then (some (-1)) else (if (decide ((IntKind.wrap .i64 (y1 - (p0.qual.length:Int)))<0))=true then (some (-1)) else (if (decide ((IntKind.wrap .i64 ((IntKind.wrap .i64 (y1 - (p0.qual.length:Int))) - (p0.name.length:Int)))<0))=true then (some (-1)) else ((jS p0.kids (IntKind.wrap .i64 ((IntKind.wrap .i64 (y1 - (p0.qual.length:Int))) - (p0.name.length:Int))))>>=fun y2=>if (decide (y2<0))=true then (some (-1)) else ((aAn p0.sub y2)>>=fun y3=>if (decide (y3<0))=true then (some (-1)) else (some y3)))))
  partial_fixpoint
def sH (p0:(List aB)) (x1:Int) (x5:Int):Option Int :=
  if (decide (x5<(p0.length:Int)))=true then ((idx p0 x5)>>=fun y1=>(kZ y1 x1)>>=fun y2=>if (decide (y2<0))=true then (some (-1)) else (sH p0 y2 (IntKind.wrap .i64 (x5+1)))) else (some x1)
  partial_fixpoint
def jS (p0:(List aB)) (p1:Int):Option Int :=
  if (decide ((IntKind.wrap .i64 (p1 - (p0.length:Int)))<0))=true then (some (-1)) else (sH p0 (IntKind.wrap .i64 (p1 - (p0.length:Int))) 0)
  partial_fixpoint
end
def yL (p0:(List (List aB))) (x1:Int) (x5:Int):Option Int :=
  if (decide (x5<(p0.length:Int)))=true then ((idx p0 x5)>>=fun y1=>(jS y1 x1)>>=fun y2=>if (decide (y2<0))=true then (some (-1)) else (yL p0 y2 (IntKind.wrap .i64 (x5+1)))) else (some x1)
  partial_fixpoint
def xG (p0:(List (List aB))) (p1:Int):Option Int :=
  if (decide ((IntKind.wrap .i64 (p1 - (p0.length:Int)))<0))=true then (some (-1)) else (yL p0 (IntKind.wrap .i64 (p1 - (p0.length:Int))) 0)
def uI (p0:(List (List UInt8))) (x1:Int) (x5:Int):Option Int :=
  if (decide (x5<(p0.length:Int)))=true then ((idx p0 x5)>>=fun y1=>if (decide ((IntKind.wrap .i64 (x1 - (y1.length:Int)))<0))=true then (some (-1)) else (uI p0 (IntKind.wrap .i64 (x1 - (y1.length:Int))) (IntKind.wrap .i64 (x5+1)))) else (some x1)
  partial_fixpoint
def D6 (p0:(List (List UInt8))) (p1:Int):Option Int :=
  if (decide ((IntKind.wrap .i64 (p1 - (p0.length:Int)))<0))=true then (some (-1)) else (uI p0 (IntKind.wrap .i64 (p1 - (p0.length:Int))) 0)
def aBi (p0:dW) (p1:Int):Option Int :=
  (pK p0.query p1)>>=fun y1=>if (decide (y1<0))=true then (some (-1)) else (if (decide ((IntKind.wrap .i64 (y1 - (p0.table.length:Int)))<0))=true then (some (-1)) else ((xG p0.rows (IntKind.wrap .i64 (y1 - (p0.table.length:Int))))>>=fun y2=>if (decide (y2<0))=true then (some (-1)) else ((D6 p0.cols y2)>>=fun y3=>if (decide (y3<0))=true then (some (-1)) else ((jS p0.sets y3)>>=fun y4=>if (decide (y4<0))=true then (some (-1)) else ((jS p0.where_ y4)>>=fun y5=>if (decide (y5<0))=true then (some (-1)) else (some y5))))))
def pI (p0:eP):Option eP :=
  some p0
mutual
def rU (p0:aX):Option aX :=
  (jR p0.on_)>>=fun y1=>some (aX.mk p0.table p0.as_ y1)
  partial_fixpoint
def X5 (p0:(List aX)) (x4:Int) (bA:(List aX)):Option (List aX) :=
  if (decide (x4<(p0.length:Int)))=true then ((idx p0 x4)>>=fun y2=>(rU y2)>>=fun y3=>(idx bA x4)>>=fun y4=>(kT bA x4 y3)>>=fun y5=>X5 p0 (IntKind.wrap .i64 (x4+1)) y5) else (some bA)
  partial_fixpoint
def Y4 (p0:(List aX)):Option (List aX) :=
  (mkG 56 (p0.length:Int) ((aX.mk [] [] ([]:List aB)):aX))>>=fun y1=>X5 p0 0 y1
  partial_fixpoint
def vG (p0:aY):Option aY :=
  (lQ p0.expr)>>=fun y1=>some (aY.mk y1 p0.desc)
  partial_fixpoint
def aBg (p0:(List aY)) (x4:Int) (bA:(List aY)):Option (List aY) :=
  if (decide (x4<(p0.length:Int)))=true then ((idx p0 x4)>>=fun y2=>(vG y2)>>=fun y3=>(idx bA x4)>>=fun y4=>(kT bA x4 y3)>>=fun y5=>aBg p0 (IntKind.wrap .i64 (x4+1)) y5) else (some bA)
  partial_fixpoint
def aBe (p0:(List aY)):Option (List aY) :=
  (mkG 144 (p0.length:Int) ((aY.mk (aB.mk 0 0 false (eP.mk 0 0 []) [] [] ([]:List aB) ([]:List aL)) false):aY))>>=fun y1=>aBg p0 0 y1
  partial_fixpoint
def uR (p0:aU):Option aU :=
  (lQ p0.expr)>>=fun y1=>some (aU.mk p0.star p0.qual y1 p0.as_)
  partial_fixpoint
def aBz (p0:(List aU)) (x4:Int) (bA:(List aU)):Option (List aU) :=
  if (decide (x4<(p0.length:Int)))=true then ((idx p0 x4)>>=fun y2=>(uR y2)>>=fun y3=>(idx bA x4)>>=fun y4=>(kT bA x4 y3)>>=fun y5=>aBz p0 (IntKind.wrap .i64 (x4+1)) y5) else (some bA)
  partial_fixpoint
def aB1 (p0:(List aU)):Option (List aU) :=
  (mkG 176 (p0.length:Int) ((aU.mk false [] (aB.mk 0 0 false (eP.mk 0 0 []) [] [] ([]:List aB) ([]:List aL)) []):aU))>>=fun y1=>aBz p0 0 y1
  partial_fixpoint
def qE (p0:aL):Option aL :=
  (aB1 p0.items)>>=fun y1=>(Y4 p0.from_)>>=fun y2=>(jR p0.where_)>>=fun y3=>(aBe p0.order)>>=fun y4=>some (aL.mk p0.distinct y1 y2 y3 y4 p0.limit)
  partial_fixpoint
def X0 (p0:(List aL)) (x4:Int) (bA:(List aL)):Option (List aL) :=
  if (decide (x4<(p0.length:Int)))=true then ((idx p0 x4)>>=fun y2=>(qE y2)>>=fun y3=>(idx bA x4)>>=fun y4=>(kT bA x4 y3)>>=fun y5=>X0 p0 (IntKind.wrap .i64 (x4+1)) y5) else (some bA)
  partial_fixpoint
def aBn (p0:(List aL)):Option (List aL) :=
  (mkG 112 (p0.length:Int) ((aL.mk false ([]:List aU) ([]:List aX) ([]:List aB) ([]:List aY) 0):aL))>>=fun y1=>X0 p0 0 y1
  partial_fixpoint
def lQ (p0:aB):Option aB :=
  (pI p0.value)>>=fun y1=>(jR p0.kids)>>=fun y2=>(aBn p0.sub)>>=fun y3=>some (aB.mk p0.kind p0.op p0.not_ y1 p0.qual p0.name y2 y3)
  partial_fixpoint
def rH (p0:(List aB)) (x4:Int) (bA:(List aB)):Option (List aB) :=
  if (decide (x4<(p0.length:Int)))=true then ((idx p0 x4)>>=fun y2=>(lQ y2)>>=fun y3=>(idx bA x4)>>=fun y4=>(kT bA x4 y3)>>=fun y5=>rH p0 (IntKind.wrap .i64 (x4+1)) y5) else (some bA)
  partial_fixpoint
def jR (p0:(List aB)):Option (List aB) :=
  (mkG 136 (p0.length:Int) ((aB.mk 0 0 false (eP.mk 0 0 []) [] [] ([]:List aB) ([]:List aL)):aB))>>=fun y1=>rH p0 0 y1
  partial_fixpoint
end
def xP (p0:(List (List aB))) (x4:Int) (bA:(List (List aB))):Option (List (List aB)) :=
  if (decide (x4<(p0.length:Int)))=true then ((idx p0 x4)>>=fun y2=>(jR y2)>>=fun y3=>(idx bA x4)>>=fun y4=>(kT bA x4 y3)>>=fun y5=>xP p0 (IntKind.wrap .i64 (x4+1)) y5) else (some bA)
  partial_fixpoint
def yH (p0:(List (List aB))):Option (List (List aB)) :=
  (mkG 24 (p0.length:Int) (([]:List aB):(List aB)))>>=fun y1=>xP p0 0 y1
def M6 (p0:(List (List UInt8))) (x4:Int) (bA:(List (List UInt8))):Option (List (List UInt8)) :=
  if (decide (x4<(p0.length:Int)))=true then ((idx p0 x4)>>=fun y2=>(idx bA x4)>>=fun y3=>(kT bA x4 y2)>>=fun y4=>M6 p0 (IntKind.wrap .i64 (x4+1)) y4) else (some bA)
  partial_fixpoint
def xB (p0:(List (List UInt8))):Option (List (List UInt8)) :=
  (mkG 16 (p0.length:Int) ([]:(List UInt8)))>>=fun y1=>M6 p0 0 y1
def vZ (p0:dW):Option dW :=
  (qE p0.query)>>=fun y1=>(yH p0.rows)>>=fun y2=>(xB p0.cols)>>=fun y3=>(jR p0.sets)>>=fun y4=>(jR p0.where_)>>=fun y5=>some (dW.mk p0.kind y1 p0.table y2 y3 y4 y5)
mutual
def xM (p0:aX):Option aX :=
  (jW p0.on_)>>=fun y1=>some (aX.mk p0.table p0.as_ y1)
  partial_fixpoint
def I6 (p0:(List aX)) (x4:Int) (bD:(List aX)):Option (List aX) :=
  if (decide (x4<(p0.length:Int)))=true then ((idx p0 x4)>>=fun y2=>(xM y2)>>=fun y3=>(idx bD x4)>>=fun y4=>I6 p0 (IntKind.wrap .i64 (x4+1)) (bD.set (x4).toNat y3)) else (some bD)
  partial_fixpoint
def I7 (p0:(List aX)):Option (List aX) :=
  (mkG 56 (p0.length:Int) ((aX.mk [] [] ([]:List aB)):aX))>>=fun y1=>I6 p0 0 y1
  partial_fixpoint
def Y9 (p0:aY):Option aY :=
  (nP p0.expr)>>=fun y1=>some (aY.mk y1 p0.desc)
  partial_fixpoint
def L8 (p0:(List aY)) (x4:Int) (bD:(List aY)):Option (List aY) :=
  if (decide (x4<(p0.length:Int)))=true then ((idx p0 x4)>>=fun y2=>(Y9 y2)>>=fun y3=>(idx bD x4)>>=fun y4=>L8 p0 (IntKind.wrap .i64 (x4+1)) (bD.set (x4).toNat y3)) else (some bD)
  partial_fixpoint
def A9 (p0:(List aY)):Option (List aY) :=
  (mkG 144 (p0.length:Int) ((aY.mk (aB.mk 0 0 false (eP.mk 0 0 []) [] [] ([]:List aB) ([]:List aL)) false):aY))>>=fun y1=>L8 p0 0 y1
  partial_fixpoint
def R8 (p0:aU):Option aU :=
  (nP p0.expr)>>=fun y1=>some (aU.mk p0.star p0.qual y1 p0.as_)
  partial_fixpoint
def zT (p0:(List aU)) (x4:Int) (bD:(List aU)):Option (List aU) :=
  if (decide (x4<(p0.length:Int)))=true then ((idx p0 x4)>>=fun y2=>(R8 y2)>>=fun y3=>(idx bD x4)>>=fun y4=>zT p0 (IntKind.wrap .i64 (x4+1)) (bD.set (x4).toNat y3)) else (some bD)
  partial_fixpoint
def M5 (p0:(List aU)):Option (List aU) :=
  (mkG 176 (p0.length:Int) ((aU.mk false [] (aB.mk 0 0 false (eP.mk 0 0 []) [] [] ([]:List aB) ([]:List aL)) []):aU))>>=fun y1=>zT p0 0 y1
  partial_fixpoint
def nC (p0:aL):Option aL :=
  (M5 p0.items)>>=fun y1=>(I7 p0.from_)>>=fun y2=>(jW p0.where_)>>=fun y3=>(A9 p0.order)>>=fun y4=>some (aL.mk p0.distinct y1 y2 y3 y4 p0.limit)
  partial_fixpoint
def yB (p0:(List aL)) (x4:Int) (bD:(List aL)):Option (List aL) :=
  if (decide (x4<(p0.length:Int)))=true then ((idx p0 x4)>>=fun y2=>(nC y2)>>=fun y3=>(idx bD x4)>>=fun y4=>yB p0 (IntKind.wrap .i64 (x4+1)) (bD.set (x4).toNat y3)) else (some bD)
  partial_fixpoint
def vR (p0:(List aL)):Option (List aL) :=
  (mkG 112 (p0.length:Int) ((aL.mk false ([]:List aU) ([]:List aX) ([]:List aB) ([]:List aY) 0):aL))>>=fun y1=>yB p0 0 y1
  partial_fixpoint
def nP (p0:aB):Option aB :=
  (pI p0.value)>>=fun y1=>(jW p0.kids)>>=fun y2=>(vR p0.sub)>>=fun y3=>some (aB.mk p0.kind p0.op p0.not_ y1 p0.qual p0.name y2 y3)
  partial_fixpoint
def xY (p0:(List aB)) (x4:Int) (bD:(List aB)):Option (List aB) :=
  if (decide (x4<(p0.length:Int)))=true then ((idx p0 x4)>>=fun y2=>(nP y2)>>=fun y3=>(idx bD x4)>>=fun y4=>xY p0 (IntKind.wrap .i64 (x4+1)) (bD.set (x4).toNat y3)) else (some bD)
  partial_fixpoint
def jW (p0:(List aB)):Option (List aB) :=
  (mkG 136 (p0.length:Int) ((aB.mk 0 0 false (eP.mk 0 0 []) [] [] ([]:List aB) ([]:List aL)):aB))>>=fun y1=>xY p0 0 y1
  partial_fixpoint
end
def uJ (p0:(List (List aB))) (x4:Int) (bD:(List (List aB))):Option (List (List aB)) :=
  if (decide (x4<(p0.length:Int)))=true then ((idx p0 x4)>>=fun y2=>(jW y2)>>=fun y3=>(idx bD x4)>>=fun y4=>uJ p0 (IntKind.wrap .i64 (x4+1)) (bD.set (x4).toNat y3)) else (some bD)
  partial_fixpoint
def yF (p0:(List (List aB))):Option (List (List aB)) :=
  (mkG 24 (p0.length:Int) (([]:List aB):(List aB)))>>=fun y1=>uJ p0 0 y1
def wT (p0:(List (List UInt8))) (x4:Int) (bD:(List (List UInt8))):Option (List (List UInt8)) :=
  if (decide (x4<(p0.length:Int)))=true then ((idx p0 x4)>>=fun y2=>(idx bD x4)>>=fun y3=>wT p0 (IntKind.wrap .i64 (x4+1)) (bD.set (x4).toNat y2)) else (some bD)
  partial_fixpoint
def zF (p0:(List (List UInt8))):Option (List (List UInt8)) :=
  (mkG 16 (p0.length:Int) ([]:(List UInt8)))>>=fun y1=>wT p0 0 y1
def qN (p0:dW):Option dW :=
  (nC p0.query)>>=fun y1=>(yF p0.rows)>>=fun y2=>(zF p0.cols)>>=fun y3=>(jW p0.sets)>>=fun y4=>(jW p0.where_)>>=fun y5=>some (dW.mk p0.kind y1 p0.table y2 y3 y4 y5)
def X6 (p0:dW):Option Bool :=
  (aBi p0 1048576)>>=fun y1=>if (decide (y1<0))=true then (some true) else ((vZ p0)>>=fun y2=>(R9 y2)>>=fun y3=>(qN p0)>>=fun y4=>(tH y4)>>=fun y5=>(iM y5 y3)>>=fun y6=>if (!y6)=true then (some false) else ((vZ p0)>>=fun y7=>(Q0 y4 y7)>>=fun y8=>if (!y8)=true then (some false) else ((D8 y4 1)>>=fun y9=>(if (true&&((decide (y9.1<0))==false))=true then iM y5 y3 else some (default:Bool))>>=fun y10=>(some (if (decide (y9.1<0))=true then true else (!y10)))>>=fun y11=>if y11=true then (some false) else ((jV y5 1)>>=fun y12=>(lY y12.2 1)>>=fun y13=>if (decide (y13<0))=true then (some false) else (if (!decide (y13=y12.1))=true then (some false) else ((qN p0)>>=fun y14=>(tH y14)>>=fun y15=>(iM y15 y3)>>=fun y16=>if (!y16)=true then (some false) else ((lY y12.2 1)>>=fun y17=>if (decide (y17<0))=true then (some false) else (if (!decide (y17=y12.1))=true then (some false) else (some true)))))))))
end Go.Ab
