/- The functions of the program,as Lean functions (printed by a program). -/
import Derived.Test.YtcfkipkafnlliaaAbF0
namespace Go.Ab
open Go
structure eB where
  kind:Int
  num:Int
  text:(List UInt8)
instance:Inhabited eB:=⟨(eB.mk 0 0 [])⟩
mutual
structure aB where
  kind:Int
  op:Int
  not_:Bool
  value:eB
  qual:(List UInt8)
  name:(List UInt8)
  kids:(List aB)
  sub:(List aL)
structure aY where
  star:Bool
  qual:(List UInt8)
  expr:aB
  as_:(List UInt8)
structure aL where
  distinct:Bool
  items:(List aY)
  from_:(List aX)
  where_:(List aB)
  order:(List aZ)
  limit:Int
structure aZ where
  expr:aB
  desc:Bool
structure aX where
  table:(List UInt8)
  as_:(List UInt8)
  on_:(List aB)
end
instance:Inhabited aB:=⟨(aB.mk 0 0 false (eB.mk 0 0 []) [] [] [] [])⟩
instance:Inhabited aY:=⟨(aY.mk false [] (aB.mk 0 0 false (eB.mk 0 0 []) [] [] [] []) [])⟩
instance:Inhabited aL:=⟨(aL.mk false [] [] [] [] 0)⟩
instance:Inhabited aZ:=⟨(aZ.mk (aB.mk 0 0 false (eB.mk 0 0 []) [] [] [] []) false)⟩
instance:Inhabited aX:=⟨(aX.mk [] [] [])⟩
structure cK where
  kind:Int
  query:aL
  table:(List UInt8)
  rows:(List (List aB))
  cols:(List (List UInt8))
  sets:(List aB)
  where_:(List aB)
instance:Inhabited cK:=⟨(cK.mk 0 (aL.mk false [] [] [] [] 0) [] [] [] [] [])⟩
structure uG where
  list:(List (List UInt8))
instance:Inhabited uG:=⟨(uG.mk [])⟩
def okGValue (x:eB):Prop:=okI x.kind∧okI x.num∧okS x.text
mutual
def okGExpr:aB→Prop
  | ⟨a0,a1,a2,a3,a4,a5,a6,a7⟩=>okI a0∧okI a1∧okB a2∧okGValue a3∧okS a4∧okS a5∧(a6.length≤9223372036854775807∧okLGExpr a6)∧(a7.length≤9223372036854775807∧okLGQuery a7)
def okGItem:aY→Prop
  | ⟨a0,a1,a2,a3⟩=>okB a0∧okS a1∧okGExpr a2∧okS a3
def okGQuery:aL→Prop
  | ⟨a0,a1,a2,a3,a4,a5⟩=>okB a0∧(a1.length≤9223372036854775807∧okLGItem a1)∧(a2.length≤9223372036854775807∧okLGSource a2)∧(a3.length≤9223372036854775807∧okLGExpr a3)∧(a4.length≤9223372036854775807∧okLGSortKey a4)∧okI a5
def okGSortKey:aZ→Prop
  | ⟨a0,a1⟩=>okGExpr a0∧okB a1
def okGSource:aX→Prop
  | ⟨a0,a1,a2⟩=>okS a0∧okS a1∧(a2.length≤9223372036854775807∧okLGExpr a2)
def okLGExpr:List aB→Prop
  | []=>True
  | x::l=>okGExpr x∧okLGExpr l
def okLGItem:List aY→Prop
  | []=>True
  | x::l=>okGItem x∧okLGItem l
def okLGQuery:List aL→Prop
  | []=>True
  | x::l=>okGQuery x∧okLGQuery l
def okLGSortKey:List aZ→Prop
  | []=>True
  | x::l=>okGSortKey x∧okLGSortKey l
def okLGSource:List aX→Prop
  | []=>True
  | x::l=>okGSource x∧okLGSource l
end
def okGStmt (x:cK):Prop:=okI x.kind∧okGQuery x.query∧okS x.table∧(okL (okL okGExpr)) x.rows∧(okL okS) x.cols∧(okL okGExpr) x.sets∧(okL okGExpr) x.where_
def okGTables (x:uG):Prop:=(okL okS) x.list
def tJ (p0:aL) (gV:(List aB)) (x46:Int):Option (List aB) :=
  if (decide (x46<(p0.order.length:Int)))=true then ((idx p0.order x46)>>=fun y9=>(appG 136 gV ([y9.expr]:List aB))>>=fun y10=>tJ p0 y10 (IntKind.wrap .i64 (x46+1))) else (some gV)
  partial_fixpoint
def sV (p0:aL) (dD:(List aB)) (x30:Int):Option (List aB) :=
  if (decide (x30<(p0.from_.length:Int)))=true then ((idx p0.from_ x30)>>=fun y5=>(appG 136 dD y5.on_)>>=fun y6=>sV p0 y6 (IntKind.wrap .i64 (x30+1))) else ((appG 136 dD p0.where_)>>=fun y7=>tJ p0 y7 0)
  partial_fixpoint
mutual
def O7 (p0:aL) (x14:Int) (eU:(List aB)):Option (List aB) :=
  O8 p0 eU (IntKind.wrap .i64 (x14+1))
  partial_fixpoint
def O8 (p0:aL) (x3:(List aB)) (x14:Int):Option (List aB) :=
  if (decide (x14<(p0.items.length:Int)))=true then ((idx p0.items x14)>>=fun y1=>if (!y1.star)=true then ((appG 136 x3 ([y1.expr]:List aB))>>=fun y2=>O7 p0 x14 y2) else (O7 p0 x14 x3)) else (sV p0 x3 0)
  partial_fixpoint
end
def qL (p0:aL):Option (List aB) :=
  O8 p0 ([]:List aB) 0
def wU (p0:cK) (x3:(List aB)) (x12:Int):Option (List aB) :=
  if (decide (x12<(p0.rows.length:Int)))=true then ((idx p0.rows x12)>>=fun y2=>(appG 136 x3 y2)>>=fun y3=>wU p0 y3 (IntKind.wrap .i64 (x12+1))) else ((appG 136 x3 p0.sets)>>=fun y4=>(appG 136 y4 p0.where_)>>=fun y5=>some y5)
  partial_fixpoint
def zP (p0:cK):Option (List aB) :=
  (qL p0.query)>>=fun y1=>wU p0 y1 0
def sF (p0:(List (List UInt8))) (p1:(List UInt8)) (x8:Int):Option Int :=
  if (decide (x8<(p0.length:Int)))=true then ((idx p0 x8)>>=fun y1=>if (decide (p1=y1))=true then (some x8) else (sF p0 p1 (IntKind.wrap .i64 (x8+1)))) else (some (-1))
  partial_fixpoint
def aCl (p0:(List (List UInt8))) (p1:(List UInt8)):Option Int :=
  sF p0 p1 0
def rV (p0:(List (List UInt8))) (p1:(List UInt8)):Option Bool :=
  (aCl p0 p1)>>=fun y1=>some (decide (0≤y1))
def O4 (p1:(List UInt8)):Option (List (List UInt8)) :=
  (if (true&&((!decide (p1=[]))==true))=true then rV ([]:List (List UInt8)) p1 else some default)>>=fun y1=>(some (if (!decide (p1=[]))=true then (!y1) else false))>>=fun y2=>if y2=true then ((appG 16 ([]:List (List UInt8)) ([p1]:List (List UInt8)))>>=fun y3=>some y3) else (some ([]:List (List UInt8)))
def tV (c0_0:(List (List UInt8))) (p1:(List UInt8)):Option (List (List UInt8)) :=
  (if (true&&((!decide (p1=[]))==true))=true then rV c0_0 p1 else some (default:Bool))>>=fun y1=>(some (if (!decide (p1=[]))=true then (!y1) else false))>>=fun y2=>if y2=true then ((appG 16 c0_0 ([p1]:List (List UInt8)))>>=fun y3=>some y3) else (some c0_0)
def pM (p1:aL) (x9:Int) (jC:(List (List UInt8))):Option (List (List UInt8)) :=
  if (decide (x9<(p1.from_.length:Int)))=true then ((idx p1.from_ x9)>>=fun y1=>(tV jC y1.table)>>=fun y2=>pM p1 (IntKind.wrap .i64 (x9+1)) y2) else (some jC)
  partial_fixpoint
def mP (c0_0:(List (List UInt8))) (p1:aL):Option (List (List UInt8)) :=
  pM p1 0 c0_0
mutual
def sQ (p1:(List aB)) (x10:Int) (y1:aB) (x21:Int) (jB:(List (List UInt8))):Option (List (List UInt8)) :=
  if (decide (x21<(y1.sub.length:Int)))=true then ((idx y1.sub x21)>>=fun y3=>(mP jB y3)>>=fun y4=>(qL y3)>>=fun y5=>(mM y4 y5)>>=fun y6=>sQ p1 x10 y1 (IntKind.wrap .i64 (x21+1)) y6) else (oW p1 (IntKind.wrap .i64 (x10+1)) jB)
  partial_fixpoint
def oW (p1:(List aB)) (x10:Int) (jI:(List (List UInt8))):Option (List (List UInt8)) :=
  if (decide (x10<(p1.length:Int)))=true then ((idx p1 x10)>>=fun y1=>(mM jI y1.kids)>>=fun y2=>sQ p1 x10 y1 0 y2) else (some jI)
  partial_fixpoint
def mM (c0_0:(List (List UInt8))) (p1:(List aB)):Option (List (List UInt8)) :=
  oW p1 0 c0_0
  partial_fixpoint
end
def qU (p0:cK):Option (List (List UInt8)) :=
  (O4 p0.table)>>=fun y1=>(mP y1 p0.query)>>=fun y2=>(zP p0)>>=fun y3=>(mM y2 y3)>>=fun y4=>some y4
def rP (p0:(List (List UInt8))) (p1:(List UInt8)) (x5:Int):Option Bool :=
  if (decide (x5<(p0.length:Int)))=true then ((idx p0 x5)>>=fun y1=>if (decide (y1=p1))=true then (some true) else (rP p0 p1 (IntKind.wrap .i64 (x5+1)))) else (some false)
  partial_fixpoint
def xQ (p0:(List (List UInt8))) (p1:(List UInt8)):Option Bool :=
  rP p0 p1 0
def pU (p0:(List (List UInt8))) (p1:(List UInt8)):Option (List (List UInt8)) :=
  (if (true&&((decide (p1=[]))==false))=true then xQ p0 p1 else some default)>>=fun y1=>(some (if (decide (p1=[]))=true then true else y1))>>=fun y2=>if y2=true then (some p0) else ((appG 16 p0 ([p1]:List (List UInt8)))>>=fun y3=>some y3)
def uA (p0:aL) (gU:(List aB)) (x6:Int):Option (List aB) :=
  if (decide (x6<(p0.order.length:Int)))=true then ((idx p0.order x6)>>=fun y10=>(appG 136 gU ([y10.expr]:List aB))>>=fun y11=>uA p0 y11 (IntKind.wrap .i64 (x6+1))) else (some gU)
  partial_fixpoint
def uB (p0:aL) (gK:(List aB)) (x5:Int):Option (List aB) :=
  if (decide (x5<(p0.from_.length:Int)))=true then ((idx p0.from_ x5)>>=fun y6=>(appG 136 gK y6.on_)>>=fun y7=>uB p0 y7 (IntKind.wrap .i64 (x5+1))) else ((appG 136 gK p0.where_)>>=fun y8=>uA p0 y8 0)
  partial_fixpoint
mutual
def zM (x4:Int) (p0:aL) (dD:(List aB)):Option (List aB) :=
  yM p0 dD (IntKind.wrap .i64 (x4+1))
  partial_fixpoint
def yM (p0:aL) (x3:(List aB)) (x4:Int):Option (List aB) :=
  if (decide (x4<(p0.items.length:Int)))=true then ((idx p0.items x4)>>=fun y1=>if (!y1.star)=true then ((idx p0.items x4)>>=fun y2=>(appG 136 x3 ([y2.expr]:List aB))>>=fun y3=>zM x4 p0 y3) else (zM x4 p0 x3)) else (uB p0 x3 0)
  partial_fixpoint
end
def vR (p0:aL):Option (List aB) :=
  yM p0 ([]:List aB) 0
mutual
def rH (p0:aB) (gM:(List (List UInt8))) (x6:Int):Option (List (List UInt8)) :=
  if (decide (x6<(p0.sub.length:Int)))=true then ((idx p0.sub x6)>>=fun y4=>(qP y4 gM)>>=fun y5=>rH p0 y5 (IntKind.wrap .i64 (x6+1))) else (some gM)
  partial_fixpoint
def H6 (p0:aB) (x1:(List (List UInt8))) (x5:Int):Option (List (List UInt8)) :=
  if (decide (x5<(p0.kids.length:Int)))=true then ((idx p0.kids x5)>>=fun y1=>(jF y1 x1)>>=fun y2=>H6 p0 y2 (IntKind.wrap .i64 (x5+1))) else (rH p0 x1 0)
  partial_fixpoint
def jF (p0:aB) (p1:(List (List UInt8))):Option (List (List UInt8)) :=
  H6 p0 p1 0
  partial_fixpoint
def wJ (y3:(List aB)) (gL:(List (List UInt8))) (x7:Int):Option (List (List UInt8)) :=
  if (decide (x7<(y3.length:Int)))=true then ((idx y3 x7)>>=fun y5=>(jF y5 gL)>>=fun y6=>wJ y3 y6 (IntKind.wrap .i64 (x7+1))) else (some gL)
  partial_fixpoint
def xU (p0:aL) (x1:(List (List UInt8))) (x5:Int):Option (List (List UInt8)) :=
  if (decide (x5<(p0.from_.length:Int)))=true then ((idx p0.from_ x5)>>=fun y1=>(pU x1 y1.table)>>=fun y2=>xU p0 y2 (IntKind.wrap .i64 (x5+1))) else ((vR p0)>>=fun y3=>wJ y3 x1 0)
  partial_fixpoint
def qP (p0:aL) (p1:(List (List UInt8))):Option (List (List UInt8)) :=
  xU p0 p1 0
  partial_fixpoint
end
def tH (p0:cK) (gN:(List (List UInt8))) (x7:Int):Option (List (List UInt8)) :=
  if (decide (x7<(p0.where_.length:Int)))=true then ((idx p0.where_ x7)>>=fun y12=>(jF y12 gN)>>=fun y13=>tH p0 y13 (IntKind.wrap .i64 (x7+1))) else (some gN)
  partial_fixpoint
def tQ (p0:cK) (dD:(List (List UInt8))) (x6:Int):Option (List (List UInt8)) :=
  if (decide (x6<(p0.sets.length:Int)))=true then ((idx p0.sets x6)>>=fun y9=>(jF y9 dD)>>=fun y10=>tQ p0 y10 (IntKind.wrap .i64 (x6+1))) else (tH p0 dD 0)
  partial_fixpoint
mutual
def tY (x4:Int) (p0:cK) (eU:(List (List UInt8))) (x5:Int):Option (List (List UInt8)) :=
  (idx p0.rows x4)>>=fun y5=>if (decide (x5<(y5.length:Int)))=true then ((idx p0.rows x4)>>=fun y6=>(idx y6 x5)>>=fun y7=>(jF y7 eU)>>=fun y8=>tY x4 p0 y8 (IntKind.wrap .i64 (x5+1))) else (pK p0 eU (IntKind.wrap .i64 (x4+1)))
  partial_fixpoint
def pK (p0:cK) (x3:(List (List UInt8))) (x4:Int):Option (List (List UInt8)) :=
  if (decide (x4<(p0.rows.length:Int)))=true then (tY x4 p0 x3 0) else (tQ p0 x3 0)
  partial_fixpoint
end
def xG (p0:cK):Option (List (List UInt8)) :=
  (pU ([]:List (List UInt8)) p0.table)>>=fun y1=>(qP p0.query y1)>>=fun y2=>pK p0 y2 0
def wV (p0:eB) (p1:eB):Option Bool :=
  if (!decide (p0.kind=p1.kind))=true then (some false) else (if (!decide (p0.num=p1.num))=true then (some false) else (if (!decide (p0.text=p1.text))=true then (some false) else (some true)))
mutual
def tC (p0:aX) (p1:aX):Option Bool :=
  if (!decide (p0.table=p1.table))=true then (some false) else (if (!decide (p0.as_=p1.as_))=true then (some false) else ((jA p0.on_ p1.on_)>>=fun y1=>if (!y1)=true then (some false) else (some true)))
  partial_fixpoint
def aB7 (p0:(List aX)) (p1:(List aX)) (x5:Int):Option Bool :=
  if (decide (x5<(p0.length:Int)))=true then ((idx p0 x5)>>=fun y1=>(idx p1 x5)>>=fun y2=>(tC y1 y2)>>=fun y3=>if (!y3)=true then (some false) else (aB7 p0 p1 (IntKind.wrap .i64 (x5+1)))) else (some true)
  partial_fixpoint
def aA8 (p0:(List aX)) (p1:(List aX)):Option Bool :=
  if (!decide ((p0.length:Int)=(p1.length:Int)))=true then (some false) else (aB7 p0 p1 0)
  partial_fixpoint
def wB (p0:aZ) (p1:aZ):Option Bool :=
  (kV p0.expr p1.expr)>>=fun y1=>if (!y1)=true then (some false) else (if (!(p0.desc==p1.desc))=true then (some false) else (some true))
  partial_fixpoint
def aAh (p0:(List aZ)) (p1:(List aZ)) (x5:Int):Option Bool :=
  if (decide (x5<(p0.length:Int)))=true then ((idx p0 x5)>>=fun y1=>(idx p1 x5)>>=fun y2=>(wB y1 y2)>>=fun y3=>if (!y3)=true then (some false) else (aAh p0 p1 (IntKind.wrap .i64 (x5+1)))) else (some true)
  partial_fixpoint
def aAt (p0:(List aZ)) (p1:(List aZ)):Option Bool :=
  if (!decide ((p0.length:Int)=(p1.length:Int)))=true then (some false) else (aAh p0 p1 0)
  partial_fixpoint
def vF (p0:aY) (p1:aY):Option Bool :=
  if (!(p0.star==p1.star))=true then (some false) else (if (!decide (p0.qual=p1.qual))=true then (some false) else ((kV p0.expr p1.expr)>>=fun y1=>if (!y1)=true then (some false) else (if (!decide (p0.as_=p1.as_))=true then (some false) else (some true))))
  partial_fixpoint
def Y0 (p0:(List aY)) (p1:(List aY)) (x5:Int):Option Bool :=
  if (decide (x5<(p0.length:Int)))=true then ((idx p0 x5)>>=fun y1=>(idx p1 x5)>>=fun y2=>(vF y1 y2)>>=fun y3=>if (!y3)=true then (some false) else (Y0 p0 p1 (IntKind.wrap .i64 (x5+1)))) else (some true)
  partial_fixpoint
def aB1 (p0:(List aY)) (p1:(List aY)):Option Bool :=
  if (!decide ((p0.length:Int)=(p1.length:Int)))=true then (some false) else (Y0 p0 p1 0)
  partial_fixpoint
def qN (p0:aL) (p1:aL):Option Bool :=
  if (!(p0.distinct==p1.distinct))=true then (some false) else ((aB1 p0.items p1.items)>>=fun y1=>if (!y1)=true then (some false) else ((aA8 p0.from_ p1.from_)>>=fun y2=>if (!y2)=true then (some false) else ((jA p0.where_ p1.where_)>>=fun y3=>if (!y3)=true then (some false) else ((aAt p0.order p1.order)>>=fun y4=>if (!y4)=true then (some false) else (if (!decide (p0.limit=p1.limit))=true then (some false) else (some true))))))
  partial_fixpoint
def V9 (p0:(List aL)) (p1:(List aL)) (x5:Int):Option Bool :=
  if (decide (x5<(p0.length:Int)))=true then ((idx p0 x5)>>=fun y1=>(idx p1 x5)>>=fun y2=>(qN y1 y2)>>=fun y3=>if (!y3)=true then (some false) else (V9 p0 p1 (IntKind.wrap .i64 (x5+1)))) else (some true)
  partial_fixpoint
def R3 (p0:(List aL)) (p1:(List aL)):Option Bool :=
  if (!decide ((p0.length:Int)=(p1.length:Int)))=true then (some false) else (V9 p0 p1 0)
  partial_fixpoint
def kV (p0:aB) (p1:aB):Option Bool :=
  if (!decide (p0.kind=p1.kind))=true then (some false) else (if (!decide (p0.op=p1.op))=true then (some false) else (if (!(p0.not_==p1.not_))=true then (some false) else ((wV p0.value p1.value)>>=fun y1=>if (!y1)=true then (some false) else (if (!decide (p0.qual=p1.qual))=true then (some false) else (if (!decide (p0.name=p1.name))=true then (some false) else ((jA p0.kids p1.kids)>>=fun y2=>if (!y2)=true then (some false) else ((R3 p0.sub p1.sub)>>=fun y3=>if (!y3)=true then (some false) else (some true))))))))
  partial_fixpoint
def rJ (p0:(List aB)) (p1:(List aB)) (x5:Int):Option Bool :=
  if (decide (x5<(p0.length:Int)))=true then ((idx p0 x5)>>=fun y1=>(idx p1 x5)>>=fun y2=>(kV y1 y2)>>=fun y3=>if (!y3)=true then (some false) else (rJ p0 p1 (IntKind.wrap .i64 (x5+1)))) else (some true)
  partial_fixpoint
def jA (p0:(List aB)) (p1:(List aB)):Option Bool :=
  if (!decide ((p0.length:Int)=(p1.length:Int)))=true then (some false) else (rJ p0 p1 0)
  partial_fixpoint
end
def J2 (p0:(List (List aB))) (p1:(List (List aB))) (x5:Int):Option Bool :=
  if (decide (x5<(p0.length:Int)))=true then ((idx p0 x5)>>=fun y1=>(idx p1 x5)>>=fun y2=>(jA y1 y2)>>=fun y3=>if (!y3)=true then (some false) else (J2 p0 p1 (IntKind.wrap .i64 (x5+1)))) else (some true)
  partial_fixpoint
def D7 (p0:(List (List aB))) (p1:(List (List aB))):Option Bool :=
  if (!decide ((p0.length:Int)=(p1.length:Int)))=true then (some false) else (J2 p0 p1 0)
def wN (p0:(List (List UInt8))) (p1:(List (List UInt8))) (x5:Int):Option Bool :=
  if (decide (x5<(p0.length:Int)))=true then ((idx p0 x5)>>=fun y1=>(idx p1 x5)>>=fun y2=>if (!decide (y1=y2))=true then (some false) else (wN p0 p1 (IntKind.wrap .i64 (x5+1)))) else (some true)
  partial_fixpoint
def lC (p0:(List (List UInt8))) (p1:(List (List UInt8))):Option Bool :=
  if (!decide ((p0.length:Int)=(p1.length:Int)))=true then (some false) else (wN p0 p1 0)
def zZ (p0:cK) (p1:cK):Option Bool :=
  if (!decide (p0.kind=p1.kind))=true then (some false) else ((qN p0.query p1.query)>>=fun y1=>if (!y1)=true then (some false) else (if (!decide (p0.table=p1.table))=true then (some false) else ((D7 p0.rows p1.rows)>>=fun y2=>if (!y2)=true then (some false) else ((lC p0.cols p1.cols)>>=fun y3=>if (!y3)=true then (some false) else ((jA p0.sets p1.sets)>>=fun y4=>if (!y4)=true then (some false) else ((jA p0.where_ p1.where_)>>=fun y5=>if (!y5)=true then (some false) else (some true)))))))
def qZ (x0:Int) (x3:(List UInt8)):Option (List UInt8) :=
  if (decide (0<x0))=true then ((ofBytes ([(IntKind.wrap .u8 (IntKind.wrap .i64 (48+(Int.tmod x0 10))))]:List Int))>>=fun y1=>(xW y1 x3)>>=fun y2=>qZ (IntKind.wrap .i64 (Int.tdiv x0 10)) y2) else ((xW [109] x3)>>=fun y3=>some y3)
  partial_fixpoint
def iQ (p0:Int):Option (List UInt8) :=
  if (decide (p0≤0))=true then (some [109,48]) else (qZ p0 [])
def qG (p0:(List (List UInt8))) (x1:Int) (x5:Int):Option Int :=
  if (decide (x5<(p0.length:Int)))=true then ((idx p0 x5)>>=fun y1=>(iQ x1)>>=fun y2=>if (!decide (y1=y2))=true then (some (-1)) else (qG p0 (IntKind.wrap .i64 (x1+1)) (IntKind.wrap .i64 (x5+1)))) else (some x1)
  partial_fixpoint
def qX (p0:(List (List UInt8))) (p1:Int):Option Int :=
  qG p0 p1 0
mutual
def pO (x1:Int) (x5:Int) (aJ:(List aX)):Option (Int×(List aX)) :=
  if (decide (x5<(aJ.length:Int)))=true then ((iQ x1)>>=fun y1=>(idx aJ x5)>>=fun y2=>(iQ (IntKind.wrap .i64 (x1+1)))>>=fun y3=>(jU y2.on_ (IntKind.wrap .i64 ((IntKind.wrap .i64 (x1+1))+1)))>>=fun y4=>pO y4.1 (IntKind.wrap .i64 (x5+1)) (aJ.set (x5).toNat (aX.mk y1 y3 y4.2))) else (some (x1,aJ))
  partial_fixpoint
def wG (p0:(List aX)) (p1:Int):Option (Int×(List aX)) :=
  pO p1 0 p0
  partial_fixpoint
def uC (x1:Int) (x5:Int) (aJ:(List aZ)):Option (Int×(List aZ)) :=
  if (decide (x5<(aJ.length:Int)))=true then ((idx aJ x5)>>=fun y1=>(iQ (IntKind.wrap .i64 ((IntKind.wrap .i64 ((IntKind.wrap .i64 ((IntKind.wrap .i64 ((IntKind.wrap .i64 (x1+1))+1))+1))+1))+1)))>>=fun y2=>(iQ (IntKind.wrap .i64 ((IntKind.wrap .i64 ((IntKind.wrap .i64 ((IntKind.wrap .i64 ((IntKind.wrap .i64 ((IntKind.wrap .i64 (x1+1))+1))+1))+1))+1))+1)))>>=fun y3=>(iQ (IntKind.wrap .i64 ((IntKind.wrap .i64 ((IntKind.wrap .i64 ((IntKind.wrap .i64 ((IntKind.wrap .i64 ((IntKind.wrap .i64 ((IntKind.wrap .i64 (x1+1))+1))+1))+1))+1))+1))+1)))>>=fun y4=>(jU y1.expr.kids (IntKind.wrap .i64 ((IntKind.wrap .i64 ((IntKind.wrap .i64 ((IntKind.wrap .i64 ((IntKind.wrap .i64 ((IntKind.wrap .i64 ((IntKind.wrap .i64 ((IntKind.wrap .i64 (x1+1))+1))+1))+1))+1))+1))+1))+1)))>>=fun y5=>(uX y1.expr.sub y5.1)>>=fun y6=>uC (IntKind.wrap .i64 (y6.1+1)) (IntKind.wrap .i64 (x5+1)) (aJ.set (x5).toNat (aZ.mk (aB.mk x1 (IntKind.wrap .i64 (x1+1)) (decide ((Int.tmod (IntKind.wrap .i64 ((IntKind.wrap .i64 (x1+1))+1)) 3)=0)) (eB.mk (IntKind.wrap .i64 ((IntKind.wrap .i64 ((IntKind.wrap .i64 (x1+1))+1))+1)) (IntKind.wrap .i64 ((IntKind.wrap .i64 ((IntKind.wrap .i64 ((IntKind.wrap .i64 (x1+1))+1))+1))+1)) y2) y3 y4 y5.2 y6.2) (decide ((Int.tmod y6.1 3)=0))))) else (some (x1,aJ))
  partial_fixpoint
def uJ (p0:(List aZ)) (p1:Int):Option (Int×(List aZ)) :=
  uC p1 0 p0
  partial_fixpoint
def tZ (x1:Int) (x5:Int) (aJ:(List aY)):Option (Int×(List aY)) :=
  if (decide (x5<(aJ.length:Int)))=true then ((idx aJ x5)>>=fun y1=>(iQ (IntKind.wrap .i64 (x1+1)))>>=fun y2=>(iQ (IntKind.wrap .i64 ((IntKind.wrap .i64 ((IntKind.wrap .i64 ((IntKind.wrap .i64 ((IntKind.wrap .i64 ((IntKind.wrap .i64 ((IntKind.wrap .i64 (x1+1))+1))+1))+1))+1))+1))+1)))>>=fun y3=>(iQ (IntKind.wrap .i64 ((IntKind.wrap .i64 ((IntKind.wrap .i64 ((IntKind.wrap .i64 ((IntKind.wrap .i64 ((IntKind.wrap .i64 ((IntKind.wrap .i64 ((IntKind.wrap .i64 (x1+1))+1))+1))+1))+1))+1))+1))+1)))>>=fun y4=>(iQ (IntKind.wrap .i64 ((IntKind.wrap .i64 ((IntKind.wrap .i64 ((IntKind.wrap .i64 ((IntKind.wrap .i64 ((IntKind.wrap .i64 ((IntKind.wrap .i64 ((IntKind.wrap .i64 ((IntKind.wrap .i64 (x1+1))+1))+1))+1))+1))+1))+1))+1))+1)))>>=fun y5=>(jU y1.expr.kids (IntKind.wrap .i64 ((IntKind.wrap .i64 ((IntKind.wrap .i64 ((IntKind.wrap .i64 ((IntKind.wrap .i64 ((IntKind.wrap .i64 ((IntKind.wrap .i64 ((IntKind.wrap .i64 ((IntKind.wrap .i64 ((IntKind.wrap .i64 (x1+1))+1))+1))+1))+1))+1))+1))+1))+1))+1)))>>=fun y6=>(uX y1.expr.sub y6.1)>>=fun y7=>(iQ y7.1)>>=fun y8=>tZ (IntKind.wrap .i64 (y7.1+1)) (IntKind.wrap .i64 (x5+1)) (aJ.set (x5).toNat (aY.mk (decide ((Int.tmod x1 3)=0)) y2 (aB.mk (IntKind.wrap .i64 ((IntKind.wrap .i64 (x1+1))+1)) (IntKind.wrap .i64 ((IntKind.wrap .i64 ((IntKind.wrap .i64 (x1+1))+1))+1)) (decide ((Int.tmod (IntKind.wrap .i64 ((IntKind.wrap .i64 ((IntKind.wrap .i64 ((IntKind.wrap .i64 (x1+1))+1))+1))+1)) 3)=0)) (eB.mk (IntKind.wrap .i64 ((IntKind.wrap .i64 ((IntKind.wrap .i64 ((IntKind.wrap .i64 ((IntKind.wrap .i64 (x1+1))+1))+1))+1))+1)) (IntKind.wrap .i64 ((IntKind.wrap .i64 ((IntKind.wrap .i64 ((IntKind.wrap .i64 ((IntKind.wrap .i64 ((IntKind.wrap .i64 (x1+1))+1))+1))+1))+1))+1)) y3) y4 y5 y6.2 y7.2) y8))) else (some (x1,aJ))
  partial_fixpoint
def uK (p0:(List aY)) (p1:Int):Option (Int×(List aY)) :=
  tZ p1 0 p0
  partial_fixpoint
def tF (x1:Int) (x5:Int) (aJ:(List aL)):Option (Int×(List aL)) :=
  if (decide (x5<(aJ.length:Int)))=true then ((idx aJ x5)>>=fun y1=>(uK y1.items (IntKind.wrap .i64 (x1+1)))>>=fun y2=>(wG y1.from_ y2.1)>>=fun y3=>(jU y1.where_ y3.1)>>=fun y4=>(uJ y1.order y4.1)>>=fun y5=>tF (IntKind.wrap .i64 (y5.1+1)) (IntKind.wrap .i64 (x5+1)) (aJ.set (x5).toNat (aL.mk (decide ((Int.tmod x1 3)=0)) y2.2 y3.2 y4.2 y5.2 y5.1))) else (some (x1,aJ))
  partial_fixpoint
def uX (p0:(List aL)) (p1:Int):Option (Int×(List aL)) :=
  tF p1 0 p0
  partial_fixpoint
def qW (x1:Int) (x5:Int) (aJ:(List aB)):Option (Int×(List aB)) :=
  if (decide (x5<(aJ.length:Int)))=true then ((idx aJ x5)>>=fun y1=>(iQ (IntKind.wrap .i64 ((IntKind.wrap .i64 ((IntKind.wrap .i64 ((IntKind.wrap .i64 ((IntKind.wrap .i64 (x1+1))+1))+1))+1))+1)))>>=fun y2=>(iQ (IntKind.wrap .i64 ((IntKind.wrap .i64 ((IntKind.wrap .i64 ((IntKind.wrap .i64 ((IntKind.wrap .i64 ((IntKind.wrap .i64 (x1+1))+1))+1))+1))+1))+1)))>>=fun y3=>(iQ (IntKind.wrap .i64 ((IntKind.wrap .i64 ((IntKind.wrap .i64 ((IntKind.wrap .i64 ((IntKind.wrap .i64 ((IntKind.wrap .i64 ((IntKind.wrap .i64 (x1+1))+1))+1))+1))+1))+1))+1)))>>=fun y4=>(jU y1.kids (IntKind.wrap .i64 ((IntKind.wrap .i64 ((IntKind.wrap .i64 ((IntKind.wrap .i64 ((IntKind.wrap .i64 ((IntKind.wrap .i64 ((IntKind.wrap .i64 ((IntKind.wrap .i64 (x1+1))+1))+1))+1))+1))+1))+1))+1)))>>=fun y5=>(uX y1.sub y5.1)>>=fun y6=>qW y6.1 (IntKind.wrap .i64 (x5+1)) (aJ.set (x5).toNat (aB.mk x1 (IntKind.wrap .i64 (x1+1)) (decide ((Int.tmod (IntKind.wrap .i64 ((IntKind.wrap .i64 (x1+1))+1)) 3)=0)) (eB.mk (IntKind.wrap .i64 ((IntKind.wrap .i64 ((IntKind.wrap .i64 (x1+1))+1))+1)) (IntKind.wrap .i64 ((IntKind.wrap .i64 ((IntKind.wrap .i64 ((IntKind.wrap .i64 (x1+1))+1))+1))+1)) y2) y3 y4 y5.2 y6.2))) else (some (x1,aJ))
  partial_fixpoint
def jU (p0:(List aB)) (p1:Int):Option (Int×(List aB)) :=
  qW p1 0 p0
  partial_fixpoint
end
def qJ (x1:Int) (x5:Int) (aJ:(List (List aB))):Option (Int×(List (List aB))) :=
  if (decide (x5<(aJ.length:Int)))=true then ((idx aJ x5)>>=fun y1=>(jU y1 x1)>>=fun y2=>qJ y2.1 (IntKind.wrap .i64 (x5+1)) (aJ.set (x5).toNat y2.2)) else (some (x1,aJ))
  partial_fixpoint
def K4 (p0:(List (List aB))) (p1:Int):Option (Int×(List (List aB))) :=
  qJ p1 0 p0
def A8 (p0:aL) (p1:Int):Option (Int×(List aY)×(List aX)×(List aB)×(List aZ)) :=
  (uK p0.items p1)>>=fun y1=>(wG p0.from_ y1.1)>>=fun y2=>(jU p0.where_ y2.1)>>=fun y3=>(uJ p0.order y3.1)>>=fun y4=>some (y4.1,y1.2,y2.2,y3.2,y4.2)
def lQ (x1:Int) (x5:Int) (aJ:(List (List UInt8))):Option (Int×(List (List UInt8))) :=
  if (decide (x5<(aJ.length:Int)))=true then ((iQ x1)>>=fun y1=>(idx aJ x5)>>=fun y2=>lQ (IntKind.wrap .i64 (x1+1)) (IntKind.wrap .i64 (x5+1)) (aJ.set (x5).toNat y1)) else (some (x1,aJ))
  partial_fixpoint
def nU (p0:(List (List UInt8))) (p1:Int):Option (Int×(List (List UInt8))) :=
  lQ p1 0 p0
def wW (p0:cK) (p1:Int):Option (Int×(List aY)×(List aX)×(List aB)×(List aZ)×(List (List aB))×(List (List UInt8))×(List aB)×(List aB)) :=
  (A8 p0.query p1)>>=fun y1=>(K4 p0.rows y1.1)>>=fun y2=>(nU p0.cols y2.1)>>=fun y3=>(jU p0.sets y3.1)>>=fun y4=>(jU p0.where_ y4.1)>>=fun y5=>some (y5.1,y1.2.1,y1.2.2.1,y1.2.2.2.1,y1.2.2.2.2,y2.2,y3.2,y4.2,y5.2)
def O6 (p0:eB) (p1:Int):Option Int :=
  if (decide ((IntKind.wrap .i64 (p1 - (p0.text.length:Int)))<0))=true then (some (-1)) else (some (IntKind.wrap .i64 (p1 - (p0.text.length:Int))))
mutual
def qV (p0:aX) (p1:Int):Option Int :=
  if (decide ((IntKind.wrap .i64 (p1 - (p0.table.length:Int)))<0))=true then (some (-1)) else (if (decide ((IntKind.wrap .i64 ((IntKind.wrap .i64 (p1 - (p0.table.length:Int))) - (p0.as_.length:Int)))<0))=true then (some (-1)) else ((jD p0.on_ (IntKind.wrap .i64 ((IntKind.wrap .i64 (p1 - (p0.table.length:Int))) - (p0.as_.length:Int))))>>=fun y1=>if (decide (y1<0))=true then (some (-1)) else (some y1)))
  partial_fixpoint
def X7 (p0:(List aX)) (x1:Int) (x5:Int):Option Int :=
  if (decide (x5<(p0.length:Int)))=true then ((idx p0 x5)>>=fun y1=>(qV y1 x1)>>=fun y2=>if (decide (y2<0))=true then (some (-1)) else (X7 p0 y2 (IntKind.wrap .i64 (x5+1)))) else (some x1)
  partial_fixpoint
def Y8 (p0:(List aX)) (p1:Int):Option Int :=
  if (decide ((IntKind.wrap .i64 (p1 - (p0.length:Int)))<0))=true then (some (-1)) else (X7 p0 (IntKind.wrap .i64 (p1 - (p0.length:Int))) 0)
  partial_fixpoint
def wQ (p0:aZ) (p1:Int):Option Int :=
  (kX p0.expr p1)>>=fun y1=>if (decide (y1<0))=true then (some (-1)) else (some y1)
  partial_fixpoint
def aBj (p0:(List aZ)) (x1:Int) (x5:Int):Option Int :=
  if (decide (x5<(p0.length:Int)))=true then ((idx p0 x5)>>=fun y1=>(wQ y1 x1)>>=fun y2=>if (decide (y2<0))=true then (some (-1)) else (aBj p0 y2 (IntKind.wrap .i64 (x5+1)))) else (some x1)
  partial_fixpoint
def Y5 (p0:(List aZ)) (p1:Int):Option Int :=
  if (decide ((IntKind.wrap .i64 (p1 - (p0.length:Int)))<0))=true then (some (-1)) else (aBj p0 (IntKind.wrap .i64 (p1 - (p0.length:Int))) 0)
  partial_fixpoint
def uT (p0:aY) (p1:Int):Option Int :=
  if (decide ((IntKind.wrap .i64 (p1 - (p0.qual.length:Int)))<0))=true then (some (-1)) else ((kX p0.expr (IntKind.wrap .i64 (p1 - (p0.qual.length:Int))))>>=fun y1=>if (decide (y1<0))=true then (some (-1)) else (if (decide ((IntKind.wrap .i64 (y1 - (p0.as_.length:Int)))<0))=true then (some (-1)) else (some (IntKind.wrap .i64 (y1 - (p0.as_.length:Int))))))
  partial_fixpoint
def Z4 (p0:(List aY)) (x1:Int) (x5:Int):Option Int :=
  if (decide (x5<(p0.length:Int)))=true then ((idx p0 x5)>>=fun y1=>(uT y1 x1)>>=fun y2=>if (decide (y2<0))=true then (some (-1)) else (Z4 p0 y2 (IntKind.wrap .i64 (x5+1)))) else (some x1)
  partial_fixpoint
def U9 (p0:(List aY)) (p1:Int):Option Int :=
  if (decide ((IntKind.wrap .i64 (p1 - (p0.length:Int)))<0))=true then (some (-1)) else (Z4 p0 (IntKind.wrap .i64 (p1 - (p0.length:Int))) 0)
  partial_fixpoint
def pG (p0:aL) (p1:Int):Option Int :=
  (U9 p0.items p1)>>=fun y1=>if (decide (y1<0))=true then (some (-1)) else ((Y8 p0.from_ y1)>>=fun y2=>if (decide (y2<0))=true then (some (-1)) else ((jD p0.where_ y2)>>=fun y3=>if (decide (y3<0))=true then (some (-1)) else ((Y5 p0.order y3)>>=fun y4=>if (decide (y4<0))=true then (some (-1)) else (some y4))))
  partial_fixpoint
def aAe (p0:(List aL)) (x1:Int) (x5:Int):Option Int :=
  if (decide (x5<(p0.length:Int)))=true then ((idx p0 x5)>>=fun y1=>(pG y1 x1)>>=fun y2=>if (decide (y2<0))=true then (some (-1)) else (aAe p0 y2 (IntKind.wrap .i64 (x5+1)))) else (some x1)
  partial_fixpoint
def T9 (p0:(List aL)) (p1:Int):Option Int :=
  if (decide ((IntKind.wrap .i64 (p1 - (p0.length:Int)))<0))=true then (some (-1)) else (aAe p0 (IntKind.wrap .i64 (p1 - (p0.length:Int))) 0)
  partial_fixpoint
def kX (p0:aB) (p1:Int):Option Int :=
  (O6 p0.value p1)>>=fun y1=>if (decide (y1<0))=true then (some (-1)) else (if (decide ((IntKind.wrap .i64 (y1 - (p0.qual.length:Int)))<0))=true then (some (-1)) else (if (decide ((IntKind.wrap .i64 ((IntKind.wrap .i64 (y1 - (p0.qual.length:Int))) - (p0.name.length:Int)))<0))=true then (some (-1)) else ((jD p0.kids (IntKind.wrap .i64 ((IntKind.wrap .i64 (y1 - (p0.qual.length:Int))) - (p0.name.length:Int))))>>=fun y2=>if (decide (y2<0))=true then (some (-1)) else ((T9 p0.sub y2)>>=fun y3=>if (decide (y3<0))=true then (some (-1)) else (some y3)))))
  partial_fixpoint
def tN (p0:(List aB)) (x1:Int) (x5:Int):Option Int :=
  if (decide (x5<(p0.length:Int)))=true then ((idx p0 x5)>>=fun y1=>(kX y1 x1)>>=fun y2=>if (decide (y2<0))=true then (some (-1)) else (tN p0 y2 (IntKind.wrap .i64 (x5+1)))) else (some x1)
  partial_fixpoint
def jD (p0:(List aB)) (p1:Int):Option Int :=
  if (decide ((IntKind.wrap .i64 (p1 - (p0.length:Int)))<0))=true then (some (-1)) else (tN p0 (IntKind.wrap .i64 (p1 - (p0.length:Int))) 0)
  partial_fixpoint
end
def G6 (p0:(List (List aB))) (x1:Int) (x5:Int):Option Int :=
  if (decide (x5<(p0.length:Int)))=true then ((idx p0 x5)>>=fun y1=>(jD y1 x1)>>=fun y2=>if (decide (y2<0))=true then (some (-1)) else (G6 p0 y2 (IntKind.wrap .i64 (x5+1)))) else (some x1)
  partial_fixpoint
def J6 (p0:(List (List aB))) (p1:Int):Option Int :=
  if (decide ((IntKind.wrap .i64 (p1 - (p0.length:Int)))<0))=true then (some (-1)) else (G6 p0 (IntKind.wrap .i64 (p1 - (p0.length:Int))) 0)
def vE (p0:(List (List UInt8))) (x1:Int) (x5:Int):Option Int :=
  if (decide (x5<(p0.length:Int)))=true then ((idx p0 x5)>>=fun y1=>if (decide ((IntKind.wrap .i64 (x1 - (y1.length:Int)))<0))=true then (some (-1)) else (vE p0 (IntKind.wrap .i64 (x1 - (y1.length:Int))) (IntKind.wrap .i64 (x5+1)))) else (some x1)
  partial_fixpoint
def zH (p0:(List (List UInt8))) (p1:Int):Option Int :=
  if (decide ((IntKind.wrap .i64 (p1 - (p0.length:Int)))<0))=true then (some (-1)) else (vE p0 (IntKind.wrap .i64 (p1 - (p0.length:Int))) 0)
def aA2 (p0:cK) (p1:Int):Option Int :=
  (pG p0.query p1)>>=fun y1=>if (decide (y1<0))=true then (some (-1)) else (if (decide ((IntKind.wrap .i64 (y1 - (p0.table.length:Int)))<0))=true then (some (-1)) else ((J6 p0.rows (IntKind.wrap .i64 (y1 - (p0.table.length:Int))))>>=fun y2=>if (decide (y2<0))=true then (some (-1)) else ((zH p0.cols y2)>>=fun y3=>if (decide (y3<0))=true then (some (-1)) else ((jD p0.sets y3)>>=fun y4=>if (decide (y4<0))=true then (some (-1)) else ((jD p0.where_ y4)>>=fun y5=>if (decide (y5<0))=true then (some (-1)) else (some y5))))))
def qB (p0:eB):Option eB :=
  some p0
mutual
def rU (p0:aX):Option aX :=
  (jH p0.on_)>>=fun y1=>some (aX.mk p0.table p0.as_ y1)
  partial_fixpoint
def aB5 (p0:(List aX)) (x4:Int) (aQ:(List aX)):Option (List aX) :=
  if (decide (x4<(p0.length:Int)))=true then ((idx p0 x4)>>=fun y2=>(rU y2)>>=fun y3=>(idx aQ x4)>>=fun y4=>(jZ aQ x4 y3)>>=fun y5=>aB5 p0 (IntKind.wrap .i64 (x4+1)) y5) else (some aQ)
  partial_fixpoint
def Y3 (p0:(List aX)):Option (List aX) :=
  (mkG 56 (p0.length:Int) ((aX.mk [] [] ([]:List aB)):aX))>>=fun y1=>aB5 p0 0 y1
  partial_fixpoint
def vV (p0:aZ):Option aZ :=
  (lF p0.expr)>>=fun y1=>some (aZ.mk y1 p0.desc)
  partial_fixpoint
def S9 (p0:(List aZ)) (x4:Int) (aQ:(List aZ)):Option (List aZ) :=
  if (decide (x4<(p0.length:Int)))=true then ((idx p0 x4)>>=fun y2=>(vV y2)>>=fun y3=>(idx aQ x4)>>=fun y4=>(jZ aQ x4 y3)>>=fun y5=>S9 p0 (IntKind.wrap .i64 (x4+1)) y5) else (some aQ)
  partial_fixpoint
def aAa (p0:(List aZ)):Option (List aZ) :=
  (mkG 144 (p0.length:Int) ((aZ.mk (aB.mk 0 0 false (eB.mk 0 0 []) [] [] ([]:List aB) ([]:List aL)) false):aZ))>>=fun y1=>S9 p0 0 y1
  partial_fixpoint
def wM (p0:aY):Option aY :=
  (lF p0.expr)>>=fun y1=>some (aY.mk p0.star p0.qual y1 p0.as_)
  partial_fixpoint
def U0 (p0:(List aY)) (x4:Int) (aQ:(List aY)):Option (List aY) :=
  if (decide (x4<(p0.length:Int)))=true then ((idx p0 x4)>>=fun y2=>(wM y2)>>=fun y3=>(idx aQ x4)>>=fun y4=>(jZ aQ x4 y3)>>=fun y5=>U0 p0 (IntKind.wrap .i64 (x4+1)) y5) else (some aQ)
  partial_fixpoint
def R8 (p0:(List aY)):Option (List aY) :=
  (mkG 176 (p0.length:Int) ((aY.mk false [] (aB.mk 0 0 false (eB.mk 0 0 []) [] [] ([]:List aB) ([]:List aL)) []):aY))>>=fun y1=>U0 p0 0 y1
  partial_fixpoint
def pR (p0:aL):Option aL :=
  (R8 p0.items)>>=fun y1=>(Y3 p0.from_)>>=fun y2=>(jH p0.where_)>>=fun y3=>(aAa p0.order)>>=fun y4=>some (aL.mk p0.distinct y1 y2 y3 y4 p0.limit)
  partial_fixpoint
def R5 (p0:(List aL)) (x4:Int) (aQ:(List aL)):Option (List aL) :=
  if (decide (x4<(p0.length:Int)))=true then ((idx p0 x4)>>=fun y2=>(pR y2)>>=fun y3=>(idx aQ x4)>>=fun y4=>(jZ aQ x4 y3)>>=fun y5=>R5 p0 (IntKind.wrap .i64 (x4+1)) y5) else (some aQ)
  partial_fixpoint
def aA1 (p0:(List aL)):Option (List aL) :=
  (mkG 112 (p0.length:Int) ((aL.mk false ([]:List aY) ([]:List aX) ([]:List aB) ([]:List aZ) 0):aL))>>=fun y1=>R5 p0 0 y1
  partial_fixpoint
def lF (p0:aB):Option aB :=
  (qB p0.value)>>=fun y1=>(jH p0.kids)>>=fun y2=>(aA1 p0.sub)>>=fun y3=>some (aB.mk p0.kind p0.op p0.not_ y1 p0.qual p0.name y2 y3)
  partial_fixpoint
def sS (p0:(List aB)) (x4:Int) (aQ:(List aB)):Option (List aB) :=
  if (decide (x4<(p0.length:Int)))=true then ((idx p0 x4)>>=fun y2=>(lF y2)>>=fun y3=>(idx aQ x4)>>=fun y4=>(jZ aQ x4 y3)>>=fun y5=>sS p0 (IntKind.wrap .i64 (x4+1)) y5) else (some aQ)
  partial_fixpoint
def jH (p0:(List aB)):Option (List aB) :=
  (mkG 136 (p0.length:Int) ((aB.mk 0 0 false (eB.mk 0 0 []) [] [] ([]:List aB) ([]:List aL)):aB))>>=fun y1=>sS p0 0 y1
  partial_fixpoint
end
def O3 (p0:(List (List aB))) (x4:Int) (aQ:(List (List aB))):Option (List (List aB)) :=
  if (decide (x4<(p0.length:Int)))=true then ((idx p0 x4)>>=fun y2=>(jH y2)>>=fun y3=>(idx aQ x4)>>=fun y4=>(jZ aQ x4 y3)>>=fun y5=>O3 p0 (IntKind.wrap .i64 (x4+1)) y5) else (some aQ)
  partial_fixpoint
def F5 (p0:(List (List aB))):Option (List (List aB)) :=
  (mkG 24 (p0.length:Int) (([]:List aB):(List aB)))>>=fun y1=>O3 p0 0 y1
def O0 (p0:(List (List UInt8))) (x4:Int) (aQ:(List (List UInt8))):Option (List (List UInt8)) :=
  if (decide (x4<(p0.length:Int)))=true then ((idx p0 x4)>>=fun y2=>(idx aQ x4)>>=fun y3=>(jZ aQ x4 y2)>>=fun y4=>O0 p0 (IntKind.wrap .i64 (x4+1)) y4) else (some aQ)
  partial_fixpoint
def wZ (p0:(List (List UInt8))):Option (List (List UInt8)) :=
  (mkG 16 (p0.length:Int) ([]:(List UInt8)))>>=fun y1=>O0 p0 0 y1
def wI (p0:cK):Option cK :=
  (pR p0.query)>>=fun y1=>(F5 p0.rows)>>=fun y2=>(wZ p0.cols)>>=fun y3=>(jH p0.sets)>>=fun y4=>(jH p0.where_)>>=fun y5=>some (cK.mk p0.kind y1 p0.table y2 y3 y4 y5)
mutual
def zF (p0:aX):Option aX :=
  (jK p0.on_)>>=fun y1=>some (aX.mk p0.table p0.as_ y1)
  partial_fixpoint
def yI (p0:(List aX)) (x4:Int) (bC:(List aX)):Option (List aX) :=
  if (decide (x4<(p0.length:Int)))=true then ((idx p0 x4)>>=fun y2=>(zF y2)>>=fun y3=>(idx bC x4)>>=fun y4=>yI p0 (IntKind.wrap .i64 (x4+1)) (bC.set (x4).toNat y3)) else (some bC)
  partial_fixpoint
def L8 (p0:(List aX)):Option (List aX) :=
  (mkG 56 (p0.length:Int) ((aX.mk [] [] ([]:List aB)):aX))>>=fun y1=>yI p0 0 y1
  partial_fixpoint
def Z9 (p0:aZ):Option aZ :=
  (mW p0.expr)>>=fun y1=>some (aZ.mk y1 p0.desc)
  partial_fixpoint
def J3 (p0:(List aZ)) (x4:Int) (bC:(List aZ)):Option (List aZ) :=
  if (decide (x4<(p0.length:Int)))=true then ((idx p0 x4)>>=fun y2=>(Z9 y2)>>=fun y3=>(idx bC x4)>>=fun y4=>J3 p0 (IntKind.wrap .i64 (x4+1)) (bC.set (x4).toNat y3)) else (some bC)
  partial_fixpoint
def M4 (p0:(List aZ)):Option (List aZ) :=
  (mkG 144 (p0.length:Int) ((aZ.mk (aB.mk 0 0 false (eB.mk 0 0 []) [] [] ([]:List aB) ([]:List aL)) false):aZ))>>=fun y1=>J3 p0 0 y1
  partial_fixpoint
def aBg (p0:aY):Option aY :=
  (mW p0.expr)>>=fun y1=>some (aY.mk p0.star p0.qual y1 p0.as_)
  partial_fixpoint
def M3 (p0:(List aY)) (x4:Int) (bC:(List aY)):Option (List aY) :=
  if (decide (x4<(p0.length:Int)))=true then ((idx p0 x4)>>=fun y2=>(aBg y2)>>=fun y3=>(idx bC x4)>>=fun y4=>M3 p0 (IntKind.wrap .i64 (x4+1)) (bC.set (x4).toNat y3)) else (some bC)
  partial_fixpoint
def yF (p0:(List aY)):Option (List aY) :=
  (mkG 176 (p0.length:Int) ((aY.mk false [] (aB.mk 0 0 false (eB.mk 0 0 []) [] [] ([]:List aB) ([]:List aL)) []):aY))>>=fun y1=>M3 p0 0 y1
  partial_fixpoint
def nK (p0:aL):Option aL :=
  (yF p0.items)>>=fun y1=>(L8 p0.from_)>>=fun y2=>(jK p0.where_)>>=fun y3=>(M4 p0.order)>>=fun y4=>some (aL.mk p0.distinct y1 y2 y3 y4 p0.limit)
  partial_fixpoint
def G5 (p0:(List aL)) (x4:Int) (bC:(List aL)):Option (List aL) :=
  if (decide (x4<(p0.length:Int)))=true then ((idx p0 x4)>>=fun y2=>(nK y2)>>=fun y3=>(idx bC x4)>>=fun y4=>G5 p0 (IntKind.wrap .i64 (x4+1)) (bC.set (x4).toNat y3)) else (some bC)
  partial_fixpoint
def wH (p0:(List aL)):Option (List aL) :=
  (mkG 112 (p0.length:Int) ((aL.mk false ([]:List aY) ([]:List aX) ([]:List aB) ([]:List aZ) 0):aL))>>=fun y1=>G5 p0 0 y1
  partial_fixpoint
def mW (p0:aB):Option aB :=
  (qB p0.value)>>=fun y1=>(jK p0.kids)>>=fun y2=>(wH p0.sub)>>=fun y3=>some (aB.mk p0.kind p0.op p0.not_ y1 p0.qual p0.name y2 y3)
  partial_fixpoint
def yR (p0:(List aB)) (x4:Int) (bC:(List aB)):Option (List aB) :=
  if (decide (x4<(p0.length:Int)))=true then ((idx p0 x4)>>=fun y2=>(mW y2)>>=fun y3=>(idx bC x4)>>=fun y4=>yR p0 (IntKind.wrap .i64 (x4+1)) (bC.set (x4).toNat y3)) else (some bC)
  partial_fixpoint
def jK (p0:(List aB)):Option (List aB) :=
  (mkG 136 (p0.length:Int) ((aB.mk 0 0 false (eB.mk 0 0 []) [] [] ([]:List aB) ([]:List aL)):aB))>>=fun y1=>yR p0 0 y1
  partial_fixpoint
end
def wC (p0:(List (List aB))) (x4:Int) (bC:(List (List aB))):Option (List (List aB)) :=
  if (decide (x4<(p0.length:Int)))=true then ((idx p0 x4)>>=fun y2=>(jK y2)>>=fun y3=>(idx bC x4)>>=fun y4=>wC p0 (IntKind.wrap .i64 (x4+1)) (bC.set (x4).toNat y3)) else (some bC)
  partial_fixpoint
def zB (p0:(List (List aB))):Option (List (List aB)) :=
  (mkG 24 (p0.length:Int) (([]:List aB):(List aB)))>>=fun y1=>wC p0 0 y1
def vD (p0:(List (List UInt8))) (x4:Int) (bC:(List (List UInt8))):Option (List (List UInt8)) :=
  if (decide (x4<(p0.length:Int)))=true then ((idx p0 x4)>>=fun y2=>(idx bC x4)>>=fun y3=>vD p0 (IntKind.wrap .i64 (x4+1)) (bC.set (x4).toNat y2)) else (some bC)
  partial_fixpoint
def A7 (p0:(List (List UInt8))):Option (List (List UInt8)) :=
  (mkG 16 (p0.length:Int) ([]:(List UInt8)))>>=fun y1=>vD p0 0 y1
def sI (p0:cK):Option cK :=
  (nK p0.query)>>=fun y1=>(zB p0.rows)>>=fun y2=>(A7 p0.cols)>>=fun y3=>(jK p0.sets)>>=fun y4=>(jK p0.where_)>>=fun y5=>some (cK.mk p0.kind y1 p0.table y2 y3 y4 y5)
def aB3 (p0:cK):Option Bool :=
  (aA2 p0 1048576)>>=fun y1=>if (decide (y1<0))=true then (some true) else ((wI p0)>>=fun y2=>(xG y2)>>=fun y3=>(sI p0)>>=fun y4=>(qU y4)>>=fun y5=>(lC y5 y3)>>=fun y6=>if (!y6)=true then (some false) else ((wI p0)>>=fun y7=>(zZ y4 y7)>>=fun y8=>if (!y8)=true then (some false) else ((wW y4 1)>>=fun y9=>(if (true&&((decide (y9.1<0))==false))=true then lC y5 y3 else some (default:Bool))>>=fun y10=>(some (if (decide (y9.1<0))=true then true else (!y10)))>>=fun y11=>if y11=true then (some false) else ((nU y5 1)>>=fun y12=>(qX y12.2 1)>>=fun y13=>if (decide (y13<0))=true then (some false) else (if (!decide (y13=y12.1))=true then (some false) else ((sI p0)>>=fun y14=>(qU y14)>>=fun y15=>(lC y15 y3)>>=fun y16=>if (!y16)=true then (some false) else ((qX y12.2 1)>>=fun y17=>if (decide (y17<0))=true then (some false) else (if (!decide (y17=y12.1))=true then (some false) else (some true)))))))))
end Go.Ab
