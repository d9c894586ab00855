/- The functions of the program,as Lean functions (printed by a program). -/
import Derived.Test.YteephiaimgcliabGreatDoorAbF1
namespace Go.Ab
open Go
structure aJ where
  kind:Int
  text:(List UInt8)
  at_:Int
instance:Inhabited aJ:=⟨(aJ.mk 0 [] 0)⟩
structure bJ where
  kind:Int
  num:Int
  text:(List UInt8)
instance:Inhabited bJ:=⟨(bJ.mk 0 0 [])⟩
mutual
structure aA where
  kind:Int
  op:Int
  not_:Bool
  value:bJ
  qual:(List UInt8)
  name:(List UInt8)
  kids:(List aA)
  sub:(List aX)
structure bU where
  star:Bool
  qual:(List UInt8)
  expr:aA
  as_:(List UInt8)
structure aX where
  distinct:Bool
  items:(List bU)
  from_:(List bR)
  where_:(List aA)
  order:(List dY)
  limit:Int
structure dY where
  expr:aA
  desc:Bool
structure bR where
  table:(List UInt8)
  as_:(List UInt8)
  on_:(List aA)
end
instance:Inhabited aA:=⟨(aA.mk 0 0 false (bJ.mk 0 0 []) [] [] [] [])⟩
instance:Inhabited bU:=⟨(bU.mk false [] (aA.mk 0 0 false (bJ.mk 0 0 []) [] [] [] []) [])⟩
instance:Inhabited aX:=⟨(aX.mk false [] [] [] [] 0)⟩
instance:Inhabited dY:=⟨(dY.mk (aA.mk 0 0 false (bJ.mk 0 0 []) [] [] [] []) false)⟩
instance:Inhabited bR:=⟨(bR.mk [] [] [])⟩
structure aL where
  list:(List aJ)
  at_:Int
  failed:Bool
instance:Inhabited aL:=⟨(aL.mk [] 0 false)⟩
structure aQ where
  b:(List Int)
  i:Int
  h:Int
instance:Inhabited aQ:=⟨(aQ.mk [] 0 0)⟩
structure aU where
  t:(List aJ)
  at_:Int
  bad:Bool
instance:Inhabited aU:=⟨(aU.mk [] 0 false)⟩
def okGToken (x:aJ):Prop:=okI x.kind∧okS x.text∧okI x.at_
def okGValue (x:bJ):Prop:=okI x.kind∧okI x.num∧okS x.text
mutual
def okGExpr:aA→Prop
  | ⟨a0,a1,a2,a3,a4,a5,a6,a7⟩=>okI a0∧okI a1∧okB a2∧okGValue a3∧okS a4∧okS a5∧(a6.length≤9223372036854775807∧okLGExpr a6)∧(a7.length≤9223372036854775807∧okLGQuery a7)
def okGItem:bU→Prop
  | ⟨a0,a1,a2,a3⟩=>okB a0∧okS a1∧okGExpr a2∧okS a3
def okGQuery:aX→Prop
  | ⟨a0,a1,a2,a3,a4,a5⟩=>okB a0∧(a1.length≤9223372036854775807∧okLGItem a1)∧(a2.length≤9223372036854775807∧okLGSource a2)∧(a3.length≤9223372036854775807∧okLGExpr a3)∧(a4.length≤9223372036854775807∧okLGSortKey a4)∧okI a5
def okGSortKey:dY→Prop
  | ⟨a0,a1⟩=>okGExpr a0∧okB a1
def okGSource:bR→Prop
  | ⟨a0,a1,a2⟩=>okS a0∧okS a1∧(a2.length≤9223372036854775807∧okLGExpr a2)
def okLGExpr:List aA→Prop
  | []=>True
  | x::l=>okGExpr x∧okLGExpr l
def okLGItem:List bU→Prop
  | []=>True
  | x::l=>okGItem x∧okLGItem l
def okLGQuery:List aX→Prop
  | []=>True
  | x::l=>okGQuery x∧okLGQuery l
def okLGSortKey:List dY→Prop
  | []=>True
  | x::l=>okGSortKey x∧okLGSortKey l
def okLGSource:List bR→Prop
  | []=>True
  | x::l=>okGSource x∧okLGSource l
end
def okGParser (x:aL):Prop:=(okL okGToken) x.list∧okI x.at_∧okB x.failed
def okGL1Cur (x:aQ):Prop:=(okL okU8) x.b∧okI x.i∧okI x.h
def okGL12In (x:aU):Prop:=(okL okGToken) x.t∧okI x.at_∧okB x.bad
def aBk (p0:aL):Option Int :=
  (some (if p0.failed=true then true else (decide (p0.at_<(p0.list.length:Int)))))>>=fun y1=>if y1=true then (some p0.at_) else (some (-1))
def aH4 (x3:List Int):Option (List UInt8) :=
  (ofBytes x3)>>=fun y3=>some y3
mutual
def J9 (p0:List UInt8) (x10:Int) (nE:List Int):Option (List UInt8) :=
  J5 p0 (IntKind.wrap .i64 (x10+1)) nE
  partial_fixpoint
def J5 (p0:List UInt8) (x10:Int) (iR:List Int):Option (List UInt8) :=
  if (decide (x10<((jL p0).length:Int)))=true then ((idx iR x10)>>=fun y1=>(some (if (decide (97≤y1))=true then (decide (y1≤122)) else false))>>=fun y2=>if y2=true then (J9 p0 x10 (iR.set (x10).toNat (IntKind.wrap .u8 ((IntKind.wrap .u8 (y1 - 97))+65)))) else (J9 p0 x10 (iR.set (x10).toNat y1))) else (aH4 iR)
  partial_fixpoint
end
def aA2 (p0:List UInt8):Option (List UInt8) :=
  J5 p0 0 (jL p0)
def pM (p0:List (List UInt8)) (p1:List UInt8) (x8:Int):Option Int :=
  if (decide (x8<(p0.length:Int)))=true then ((idx p0 x8)>>=fun y1=>if (decide (p1=y1))=true then (some x8) else (pM p0 p1 (IntKind.wrap .i64 (x8+1)))) else (some (-1))
  partial_fixpoint
def X9 (p0:List (List UInt8)) (p1:List UInt8):Option Int :=
  pM p0 p1 0
def aL4 (p0:List UInt8) (p1:List UInt8):Option (List (List UInt8)) :=
  aL5 p0 p1
def aF3:Option (List (List UInt8)) :=
  (aL4 [83,69,76,69,67,84,32,68,73,83,84,73,78,67,84,32,70,82,79,77,32,74,79,73,78,32,79,78,32,87,72,69,82,69,32,79,82,68,69,82,32,66,89,32,65,83,67,32,68,69,83,67,32,76,73,77,73,84,32,65,83,32,65,78,68,32,79,82,32,78,79,84,32,73,83,32,73,78,32,66,69,84,87,69,69,78,32,69,88,73,83,84,83,32,78,85,76,76,32,84,82,85,69,32,70,65,76,83,69,32,73,78,83,69,82,84,32,73,78,84,79,32,86,65,76,85,69,83,32,85,80,68,65,84,69,32,83,69,84,32,68,69,76,69,84,69] [32])>>=fun y1=>some y1
def Y1 (p0:List UInt8):Option Int :=
  (aF3)>>=fun y1=>(aA2 p0)>>=fun y2=>(X9 y1 y2)>>=fun y3=>some (IntKind.wrap .i64 (y3+1))
def aBo (p0:List UInt8):Option Bool :=
  (some (if (decide (1≤(p0.length:Int)))=true then (decide ((p0.length:Int)≤20)) else false))>>=fun y1=>some y1
def xM (p0:List UInt8):Option (Int×Bool) :=
  aCa p0
def aGm (p0:List (List UInt8)) (p1:List UInt8):Option Bool :=
  (X9 p0 p1)>>=fun y1=>some (decide (0≤y1))
def aDo:Option (List (List UInt8)) :=
  some ([[40],[41],[44],[46],[42],[43],[45],[47],[37],[61],[60,62],[60],[60,61],[62],[62,61],[124,124]]:List (List UInt8))
def aC8 (p0:List UInt8):Option Bool :=
  (aDo)>>=fun y1=>(aGm y1 p0)>>=fun y2=>some y2
def K6 (p0:aJ):Option Bool :=
  if (decide (p0.kind=1))=true then ((Y1 p0.text)>>=fun y1=>(if (true&&((!decide (y1=0))==true))=true then aA2 p0.text else some default)>>=fun y2=>(some (if (!decide (y1=0))=true then (decide (y2=p0.text)) else false))>>=fun y3=>some y3) else (if (decide (p0.kind=2))=true then ((aBo p0.text)>>=fun y4=>some y4) else (if (decide (p0.kind=3))=true then ((xM p0.text)>>=fun y5=>some y5.2) else (if (decide (p0.kind=4))=true then (some (decide ((p0.text.length:Int)≤40))) else (if (decide (p0.kind=5))=true then ((aC8 p0.text)>>=fun y6=>some y6) else (some false)))))
def vO (p0:aL) (p1:Int):Option Bool :=
  (some (if (!p0.failed)=true then (decide (p0.at_<(p0.list.length:Int))) else false))>>=fun y1=>(if (true&&(y1==true))=true then idx p0.list p0.at_ else some default)>>=fun y2=>(some (if y1=true then (decide (y2.kind=p1)) else false))>>=fun y3=>(if (true&&(y3==true))=true then idx p0.list p0.at_ else some default)>>=fun y4=>(if (true&&(y3==true))=true then K6 y4 else some default)>>=fun y5=>(some (if y3=true then y5 else false))>>=fun y6=>some y6
def qQ (p0:aL) (p1:Int):Option ((List UInt8)×aL) :=
  (vO p0 p1)>>=fun y1=>if (!y1)=true then (some ([],(aL.mk p0.list p0.at_ true))) else ((idx p0.list (IntKind.wrap .i64 ((IntKind.wrap .i64 (p0.at_+1)) - 1)))>>=fun y2=>some (y2.text,(aL.mk p0.list (IntKind.wrap .i64 (p0.at_+1)) p0.failed)))
def pK (p0:aL) (p1:Int) (p2:Int) (p3:List UInt8):Option Bool :=
  (some (if (!p0.failed)=true then (decide ((IntKind.wrap .i64 (p0.at_+p1))<(p0.list.length:Int))) else false))>>=fun y1=>(if (true&&(y1==true))=true then idx p0.list (IntKind.wrap .i64 (p0.at_+p1)) else some default)>>=fun y2=>(some (if y1=true then (decide (y2.kind=p2)) else false))>>=fun y3=>(if (true&&(y3==true))=true then idx p0.list (IntKind.wrap .i64 (p0.at_+p1)) else some default)>>=fun y4=>(some (if y3=true then (decide (y4.text=p3)) else false))>>=fun y5=>some y5
def R3 (p0:aL) (p1:List UInt8):Option Bool :=
  (pK p0 0 1 p1)>>=fun y1=>some y1
def aA6 (y1:Bool) (p0:aL) (bC:Int):Option (Bool×aL) :=
  some (y1,(aL.mk p0.list bC p0.failed))
def jC (p0:aL) (p1:List UInt8):Option (Bool×aL) :=
  (R3 p0 p1)>>=fun y1=>if y1=true then (aA6 y1 p0 (IntKind.wrap .i64 (p0.at_+1))) else (aA6 y1 p0 p0.at_)
def Y8 (p0:aL):Option ((List UInt8)×aL) :=
  (jC p0 [65,83])>>=fun y1=>if y1.1=true then ((qQ y1.2 2)>>=fun y2=>some (y2.1,y2.2)) else (some ([],y1.2))
def rD (p0:Int) (p1:aA) (p2:aA):Option aA :=
  some (aA.mk 4 p0 false (bJ.mk 0 0 []) [] [] ([p1,p2]:List aA) ([]:List aX))
def aGc (bG:Int):Option bJ :=
  some (bJ.mk 3 bG [])
def K3 (p0:Bool):Option bJ :=
  if p0=true then (aGc 1) else (aGc 0)
def aI4 (p0:Int):Option bJ :=
  some (bJ.mk 1 p0 [])
def qJ (p0:bJ):Option aA :=
  some (aA.mk 1 0 false p0 [] [] ([]:List aA) ([]:List aX))
def Y7 (p0:aL):Option (Int×aL) :=
  (qQ p0 3)>>=fun y1=>(xM y1.1)>>=fun y2=>some (y2.1,y1.2)
def aCm (p0:aL) (p1:List UInt8):Option Bool :=
  (pK p0 0 5 p1)>>=fun y1=>some y1
def aAv (y1:Bool) (p0:aL) (bC:Int):Option (Bool×aL) :=
  some (y1,(aL.mk p0.list bC p0.failed))
def pO (p0:aL) (p1:List UInt8):Option (Bool×aL) :=
  (aCm p0 p1)>>=fun y1=>if y1=true then (aAv y1 p0 (IntKind.wrap .i64 (p0.at_+1))) else (aAv y1 p0 p0.at_)
def uK (p0:aL) (p1:List UInt8):Option aL :=
  (pO p0 p1)>>=fun y1=>if (!y1.1)=true then (some (aL.mk y1.2.list y1.2.at_ true)) else (some y1.2)
def aDz (p0:List UInt8):Option bJ :=
  some (bJ.mk 2 0 p0)
def I4 (p0:Int):Option (List UInt8) :=
  (some (if (decide (p0<1))=true then true else (decide (16<p0))))>>=fun y1=>if y1=true then (some []) else ((idx ([[79,82],[65,78,68],[61],[60,62],[60],[60,61],[62],[62,61],[124,124],[43],[45],[42],[47],[37],[78,79,84],[45]]:List (List UInt8)) (IntKind.wrap .i64 (p0 - 1)))>>=fun y2=>some y2)
mutual
def yY (y1:Int) (p1:List Int) (x10:Int) (p0:aL) (x7:Int):Option (Int×aL) :=
  (I4 y1)>>=fun y3=>(pK p0 0 x7 y3)>>=fun y4=>if y4=true then (some (y1,(aL.mk p0.list (IntKind.wrap .i64 (p0.at_+1)) p0.failed))) else (zH p1 p0 (IntKind.wrap .i64 (x10+1)))
  partial_fixpoint
def zH (p1:List Int) (p0:aL) (x10:Int):Option (Int×aL) :=
  if (decide (x10<(p1.length:Int)))=true then ((idx p1 x10)>>=fun y1=>(some (if (decide (y1=1))=true then true else (decide (y1=2))))>>=fun y2=>if y2=true then (yY y1 p1 x10 p0 1) else (yY y1 p1 x10 p0 5)) else (some (0,p0))
  partial_fixpoint
end
def nU (p0:aL) (p1:List Int):Option (Int×aL) :=
  zH p1 p0 0
def P7 (p2:Bool) (dF:Int) (wP:List aA) (vZ:List aX) (bD:List aJ) (bC:Int) (bF:Bool):Option (aA×aL) :=
  (uK (aL.mk bD bC bF) [41])>>=fun y6=>some ((aA.mk dF 0 p2 (bJ.mk 0 0 []) [] [] wP vZ),y6)
def tY (p0:aL) (p1:List UInt8):Option aL :=
  (jC p0 p1)>>=fun y1=>if (!y1.1)=true then (some (aL.mk y1.2.list y1.2.at_ true)) else (some y1.2)
def aB5 (y1:aA×aL) (wY:Bool) (bD:List aJ) (bC:Int) (bF:Bool):Option (dY×aL) :=
  some ((dY.mk y1.1 wY),(aL.mk bD bC bF))
def aHj (y2:Bool×aL) (bG:List bU) (y8:(List bR)×aL) (y9:(List aA)×aL) (jW:List dY) (lQ:Int) (yF:List aJ) (vR:Int) (wC:Bool):Option (aX×aL) :=
  some ((aX.mk y2.1 bG y8.1 y9.1 jW lQ),(aL.mk yF vR wC))
def R4 (y2:Bool×aL) (bG:List bU) (y8:(List bR)×aL) (y9:(List aA)×aL) (jW:List dY) (xL:List aJ) (xJ:Int) (vX:Bool):Option (aX×aL) :=
  (jC (aL.mk xL xJ vX) [76,73,77,73,84])>>=fun y23=>if y23.1=true then ((Y7 y23.2)>>=fun y24=>aHj y2 bG y8 y9 jW y24.1 y24.2.list y24.2.at_ y24.2.failed) else (aHj y2 bG y8 y9 jW (-1) y23.2.list y23.2.at_ y23.2.failed)
def zL (p0:aL):Option (bR×aL) :=
  (qQ p0 2)>>=fun y1=>(Y8 y1.2)>>=fun y2=>some ((bR.mk y1.1 y2.1 ([]:List aA)),y2.2)
mutual
def L8 (p0:aL):Option ((List aA)×aL) :=
  (jC p0 [87,72,69,82,69])>>=fun y1=>if y1.1=true then ((jX y1.2)>>=fun y2=>some (([y2.1]:List aA),y2.2)) else (some (([]:List aA),y1.2))
  partial_fixpoint
def sF (x3:List bR) (bD:List aJ) (bC:Int) (bF:Bool):Option ((List bR)×aL) :=
  (pO (aL.mk bD bC bF) [44])>>=fun y2=>if y2.1=true then ((zL y2.2)>>=fun y3=>(appG 56 x3 ([y3.1]:List bR))>>=fun y4=>sF y4 y3.2.list y3.2.at_ y3.2.failed) else ((jC y2.2 [74,79,73,78])>>=fun y5=>if y5.1=true then ((zL y5.2)>>=fun y6=>(tY y6.2 [79,78])>>=fun y7=>(jX y7)>>=fun y8=>(appG 56 x3 ([(bR.mk y6.1.table y6.1.as_ ([y8.1]:List aA))]:List bR))>>=fun y9=>sF y9 y8.2.list y8.2.at_ y8.2.failed) else (some (x3,y5.2)))
  partial_fixpoint
def aGz (p0:aL):Option ((List bR)×aL) :=
  (zL p0)>>=fun y1=>sF ([y1.1]:List bR) y1.2.list y1.2.at_ y1.2.failed
  partial_fixpoint
def vN (y2:Bool×aL) (bG:List bU) (y8:(List bR)×aL) (y9:(List aA)×aL) (gM:List dY) (nJ:List aJ) (lV:Int×Bool):Option (aX×aL) :=
  (pO (aL.mk nJ lV.1 lV.2) [44])>>=fun y20=>if y20.1=true then ((zR y20.2)>>=fun y21=>(appG 144 gM ([y21.1]:List dY))>>=fun y22=>vN y2 bG y8 y9 y22 y21.2.list (y21.2.at_,y21.2.failed)) else (R4 y2 bG y8 y9 gM y20.2.list y20.2.at_ y20.2.failed)
  partial_fixpoint
def zR (p0:aL):Option (dY×aL) :=
  (jX p0)>>=fun y1=>(jC y1.2 [65,83,67])>>=fun y2=>if (!y2.1)=true then ((jC y2.2 [68,69,83,67])>>=fun y3=>aB5 y1 y3.1 y3.2.list y3.2.at_ y3.2.failed) else (aB5 y1 false y2.2.list y2.2.at_ y2.2.failed)
  partial_fixpoint
def uI (y2:Bool×aL) (bG:List bU) (bD:List aJ) (bC:Int) (bF:Bool):Option (aX×aL) :=
  (pO (aL.mk bD bC bF) [44])>>=fun y4=>if y4.1=true then ((yX y4.2)>>=fun y5=>(appG 176 bG ([y5.1]:List bU))>>=fun y6=>uI y2 y6 y5.2.list y5.2.at_ y5.2.failed) else ((tY y4.2 [70,82,79,77])>>=fun y7=>(aGz y7)>>=fun y8=>(L8 y8.2)>>=fun y9=>(jC y9.2 [79,82,68,69,82])>>=fun y10=>if y10.1=true then ((tY y10.2 [66,89])>>=fun y11=>(zR y11)>>=fun y12=>vN y2 bG y8 y9 ([y12.1]:List dY) y12.2.list (y12.2.at_,y12.2.failed)) else (R4 y2 bG y8 y9 ([]:List dY) y10.2.list y10.2.at_ y10.2.failed))
  partial_fixpoint
def Q9 (p2:List Int) (dF:Int) (dV:Int) (dL:Bool) (dN:Int) (dR:Int) (bH:(List UInt8)×(List UInt8)×(List UInt8)×(List aA)×(List aX)×(List aJ)×Int×Bool):Option (aA×aL) :=
  (nU (aL.mk bH.2.2.2.2.2.1 bH.2.2.2.2.2.2.1 bH.2.2.2.2.2.2.2) p2)>>=fun y2=>if (decide (y2.1=0))=true then (some ((aA.mk dF dV dL (bJ.mk dN dR bH.1) bH.2.1 bH.2.2.1 bH.2.2.2.1 bH.2.2.2.2.1),y2.2)) else ((F9 y2.2)>>=fun y3=>(rD y2.1 (aA.mk dF dV dL (bJ.mk dN dR bH.1) bH.2.1 bH.2.2.1 bH.2.2.2.1 bH.2.2.2.2.1) y3.1)>>=fun y4=>Q9 p2 y4.kind y4.op y4.not_ y4.value.kind y4.value.num (y4.value.text,y4.qual,y4.name,y4.kids,y4.sub,y3.2.list,y3.2.at_,y3.2.failed))
  partial_fixpoint
def F5 (x3:List aA) (bD:List aJ) (bC:Int) (bF:Bool):Option ((List aA)×aL) :=
  (pO (aL.mk bD bC bF) [44])>>=fun y2=>if y2.1=true then ((jX y2.2)>>=fun y3=>(appG 136 x3 ([y3.1]:List aA))>>=fun y4=>F5 y4 y3.2.list y3.2.at_ y3.2.failed) else (some (x3,y2.2))
  partial_fixpoint
def aG0 (p0:aL):Option ((List aA)×aL) :=
  (jX p0)>>=fun y1=>F5 ([y1.1]:List aA) y1.2.list y1.2.at_ y1.2.failed
  partial_fixpoint
def aB6 (p0:aL) (p1:aA) (p2:Bool):Option (aA×aL) :=
  (uK p0 [40])>>=fun y1=>(R3 y1 [83,69,76,69,67,84])>>=fun y2=>if y2=true then ((qV y1)>>=fun y3=>P7 p2 8 ([p1]:List aA) ([y3.1]:List aX) y3.2.list y3.2.at_ y3.2.failed) else ((aG0 y1)>>=fun y4=>(appG 136 ([p1]:List aA) y4.1)>>=fun y5=>P7 p2 7 y5 ([]:List aX) y4.2.list y4.2.at_ y4.2.failed)
  partial_fixpoint
def A8 (p0:aL):Option (aA×aL) :=
  (vO p0 3)>>=fun y1=>if y1=true then ((Y7 p0)>>=fun y2=>(aI4 y2.1)>>=fun y3=>(qJ y3)>>=fun y4=>some (y4,y2.2)) else ((vO p0 4)>>=fun y5=>if y5=true then ((qQ p0 4)>>=fun y6=>(aDz y6.1)>>=fun y7=>(qJ y7)>>=fun y8=>some (y8,y6.2)) else ((jC p0 [78,85,76,76])>>=fun y9=>if y9.1=true then ((qJ (bJ.mk 0 0 []))>>=fun y10=>some (y10,y9.2)) else ((jC y9.2 [84,82,85,69])>>=fun y11=>if y11.1=true then ((K3 true)>>=fun y12=>(qJ y12)>>=fun y13=>some (y13,y11.2)) else ((jC y11.2 [70,65,76,83,69])>>=fun y14=>if y14.1=true then ((K3 false)>>=fun y15=>(qJ y15)>>=fun y16=>some (y16,y14.2)) else ((vO y14.2 2)>>=fun y17=>if y17=true then ((qQ y14.2 2)>>=fun y18=>(pO y18.2 [46])>>=fun y19=>if y19.1=true then ((qQ y19.2 2)>>=fun y20=>some ((aA.mk 2 0 false (bJ.mk 0 0 []) y18.1 y20.1 ([]:List aA) ([]:List aX)),y20.2)) else (some ((aA.mk 2 0 false (bJ.mk 0 0 []) [] y18.1 ([]:List aA) ([]:List aX)),y19.2))) else ((pO y14.2 [40])>>=fun y21=>if y21.1=true then ((jX y21.2)>>=fun y22=>(uK y22.2 [41])>>=fun y23=>some (y22.1,y23)) else ((jC y21.2 [69,88,73,83,84,83])>>=fun y24=>if y24.1=true then ((uK y24.2 [40])>>=fun y25=>(qV y25)>>=fun y26=>(uK y26.2 [41])>>=fun y27=>some ((aA.mk 9 0 false (bJ.mk 0 0 []) [] [] ([]:List aA) ([y26.1]:List aX)),y27)) else (some ((aA.mk 0 0 false (bJ.mk 0 0 []) [] [] ([]:List aA) ([]:List aX)),(aL.mk y24.2.list y24.2.at_ true))))))))))
  partial_fixpoint
def uA (p0:aL):Option (aA×aL) :=
  (pO p0 [45])>>=fun y1=>if y1.1=true then ((uA y1.2)>>=fun y2=>some ((aA.mk 3 16 false (bJ.mk 0 0 []) [] [] ([y2.1]:List aA) ([]:List aX)),y2.2)) else ((A8 y1.2)>>=fun y3=>some (y3.1,y3.2))
  partial_fixpoint
def O7 (p2:List Int) (dF:Int) (dV:Int) (dL:Bool) (dN:Int) (dR:Int) (bH:(List UInt8)×(List UInt8)×(List UInt8)×(List aA)×(List aX)×(List aJ)×Int×Bool):Option (aA×aL) :=
  (nU (aL.mk bH.2.2.2.2.2.1 bH.2.2.2.2.2.2.1 bH.2.2.2.2.2.2.2) p2)>>=fun y2=>if (decide (y2.1=0))=true then (some ((aA.mk dF dV dL (bJ.mk dN dR bH.1) bH.2.1 bH.2.2.1 bH.2.2.2.1 bH.2.2.2.2.1),y2.2)) else ((uA y2.2)>>=fun y3=>(rD y2.1 (aA.mk dF dV dL (bJ.mk dN dR bH.1) bH.2.1 bH.2.2.1 bH.2.2.2.1 bH.2.2.2.2.1) y3.1)>>=fun y4=>O7 p2 y4.kind y4.op y4.not_ y4.value.kind y4.value.num (y4.value.text,y4.qual,y4.name,y4.kids,y4.sub,y3.2.list,y3.2.at_,y3.2.failed))
  partial_fixpoint
def aCz (p0:aL) (p2:List Int):Option (aA×aL) :=
  (uA p0)>>=fun y1=>O7 p2 y1.1.kind y1.1.op y1.1.not_ y1.1.value.kind y1.1.value.num (y1.1.value.text,y1.1.qual,y1.1.name,y1.1.kids,y1.1.sub,y1.2.list,y1.2.at_,y1.2.failed)
  partial_fixpoint
def zZ (p0:aL):Option (aA×aL) :=
  (aCz p0 ([12,13,14]:List Int))>>=fun y1=>some (y1.1,y1.2)
  partial_fixpoint
def O4 (p2:List Int) (dF:Int) (dV:Int) (dL:Bool) (dN:Int) (dR:Int) (bH:(List UInt8)×(List UInt8)×(List UInt8)×(List aA)×(List aX)×(List aJ)×Int×Bool):Option (aA×aL) :=
  (nU (aL.mk bH.2.2.2.2.2.1 bH.2.2.2.2.2.2.1 bH.2.2.2.2.2.2.2) p2)>>=fun y2=>if (decide (y2.1=0))=true then (some ((aA.mk dF dV dL (bJ.mk dN dR bH.1) bH.2.1 bH.2.2.1 bH.2.2.2.1 bH.2.2.2.2.1),y2.2)) else ((zZ y2.2)>>=fun y3=>(rD y2.1 (aA.mk dF dV dL (bJ.mk dN dR bH.1) bH.2.1 bH.2.2.1 bH.2.2.2.1 bH.2.2.2.2.1) y3.1)>>=fun y4=>O4 p2 y4.kind y4.op y4.not_ y4.value.kind y4.value.num (y4.value.text,y4.qual,y4.name,y4.kids,y4.sub,y3.2.list,y3.2.at_,y3.2.failed))
  partial_fixpoint
def aC5 (p0:aL) (p2:List Int):Option (aA×aL) :=
  (zZ p0)>>=fun y1=>O4 p2 y1.1.kind y1.1.op y1.1.not_ y1.1.value.kind y1.1.value.num (y1.1.value.text,y1.1.qual,y1.1.name,y1.1.kids,y1.1.sub,y1.2.list,y1.2.at_,y1.2.failed)
  partial_fixpoint
def C8 (p0:aL):Option (aA×aL) :=
  (aC5 p0 ([10,11]:List Int))>>=fun y1=>some (y1.1,y1.2)
  partial_fixpoint
def P8 (p2:List Int) (dF:Int) (dV:Int) (dL:Bool) (dN:Int) (dR:Int) (bH:(List UInt8)×(List UInt8)×(List UInt8)×(List aA)×(List aX)×(List aJ)×Int×Bool):Option (aA×aL) :=
  (nU (aL.mk bH.2.2.2.2.2.1 bH.2.2.2.2.2.2.1 bH.2.2.2.2.2.2.2) p2)>>=fun y2=>if (decide (y2.1=0))=true then (some ((aA.mk dF dV dL (bJ.mk dN dR bH.1) bH.2.1 bH.2.2.1 bH.2.2.2.1 bH.2.2.2.2.1),y2.2)) else ((C8 y2.2)>>=fun y3=>(rD y2.1 (aA.mk dF dV dL (bJ.mk dN dR bH.1) bH.2.1 bH.2.2.1 bH.2.2.2.1 bH.2.2.2.2.1) y3.1)>>=fun y4=>P8 p2 y4.kind y4.op y4.not_ y4.value.kind y4.value.num (y4.value.text,y4.qual,y4.name,y4.kids,y4.sub,y3.2.list,y3.2.at_,y3.2.failed))
  partial_fixpoint
def aBc (p0:aL) (p2:List Int):Option (aA×aL) :=
  (C8 p0)>>=fun y1=>P8 p2 y1.1.kind y1.1.op y1.1.not_ y1.1.value.kind y1.1.value.num (y1.1.value.text,y1.1.qual,y1.1.name,y1.1.kids,y1.1.sub,y1.2.list,y1.2.at_,y1.2.failed)
  partial_fixpoint
def vC (p0:aL):Option (aA×aL) :=
  (aBc p0 ([9]:List Int))>>=fun y1=>some (y1.1,y1.2)
  partial_fixpoint
def xA (p0:aL):Option (aA×aL) :=
  (vC p0)>>=fun y1=>(nU y1.2 ([3,4,5,6,7,8]:List Int))>>=fun y2=>if (!decide (y2.1=0))=true then ((vC y2.2)>>=fun y3=>(rD y2.1 y1.1 y3.1)>>=fun y4=>some (y4,y3.2)) else ((jC y2.2 [73,83])>>=fun y5=>if y5.1=true then ((jC y5.2 [78,79,84])>>=fun y6=>(tY y6.2 [78,85,76,76])>>=fun y7=>some ((aA.mk 5 0 y6.1 (bJ.mk 0 0 []) [] [] ([y1.1]:List aA) ([]:List aX)),y7)) else ((jC y5.2 [78,79,84])>>=fun y8=>(jC y8.2 [66,69,84,87,69,69,78])>>=fun y9=>if y9.1=true then ((vC y9.2)>>=fun y10=>(tY y10.2 [65,78,68])>>=fun y11=>(vC y11)>>=fun y12=>some ((aA.mk 6 0 y8.1 (bJ.mk 0 0 []) [] [] ([y1.1,y10.1,y12.1]:List aA) ([]:List aX)),y12.2)) else ((jC y9.2 [73,78])>>=fun y13=>if y13.1=true then ((aB6 y13.2 y1.1 y8.1)>>=fun y14=>some (y14.1,y14.2)) else ((some (if y13.2.failed=true then true else y8.1))>>=fun y15=>some (y1.1,(aL.mk y13.2.list y13.2.at_ y15))))))
  partial_fixpoint
def sQ (p0:aL):Option (aA×aL) :=
  (jC p0 [78,79,84])>>=fun y1=>if y1.1=true then ((sQ y1.2)>>=fun y2=>some ((aA.mk 3 15 false (bJ.mk 0 0 []) [] [] ([y2.1]:List aA) ([]:List aX)),y2.2)) else ((xA y1.2)>>=fun y3=>some (y3.1,y3.2))
  partial_fixpoint
def V8 (p2:List Int) (dF:Int) (dV:Int) (dL:Bool) (dN:Int) (dR:Int) (bH:(List UInt8)×(List UInt8)×(List UInt8)×(List aA)×(List aX)×(List aJ)×Int×Bool):Option (aA×aL) :=
  (nU (aL.mk bH.2.2.2.2.2.1 bH.2.2.2.2.2.2.1 bH.2.2.2.2.2.2.2) p2)>>=fun y2=>if (decide (y2.1=0))=true then (some ((aA.mk dF dV dL (bJ.mk dN dR bH.1) bH.2.1 bH.2.2.1 bH.2.2.2.1 bH.2.2.2.2.1),y2.2)) else ((sQ y2.2)>>=fun y3=>(rD y2.1 (aA.mk dF dV dL (bJ.mk dN dR bH.1) bH.2.1 bH.2.2.1 bH.2.2.2.1 bH.2.2.2.2.1) y3.1)>>=fun y4=>V8 p2 y4.kind y4.op y4.not_ y4.value.kind y4.value.num (y4.value.text,y4.qual,y4.name,y4.kids,y4.sub,y3.2.list,y3.2.at_,y3.2.failed))
  partial_fixpoint
def aBb (p0:aL) (p2:List Int):Option (aA×aL) :=
  (sQ p0)>>=fun y1=>V8 p2 y1.1.kind y1.1.op y1.1.not_ y1.1.value.kind y1.1.value.num (y1.1.value.text,y1.1.qual,y1.1.name,y1.1.kids,y1.1.sub,y1.2.list,y1.2.at_,y1.2.failed)
  partial_fixpoint
def F9 (p0:aL):Option (aA×aL) :=
  (aBb p0 ([2]:List Int))>>=fun y1=>some (y1.1,y1.2)
  partial_fixpoint
def aAt (p0:aL) (p2:List Int):Option (aA×aL) :=
  (F9 p0)>>=fun y1=>Q9 p2 y1.1.kind y1.1.op y1.1.not_ y1.1.value.kind y1.1.value.num (y1.1.value.text,y1.1.qual,y1.1.name,y1.1.kids,y1.1.sub,y1.2.list,y1.2.at_,y1.2.failed)
  partial_fixpoint
def jX (p0:aL):Option (aA×aL) :=
  (aAt p0 ([1]:List Int))>>=fun y1=>some (y1.1,y1.2)
  partial_fixpoint
def yX (p0:aL):Option (bU×aL) :=
  (pO p0 [42])>>=fun y1=>if y1.1=true then (some ((bU.mk true [] (aA.mk 0 0 false (bJ.mk 0 0 []) [] [] ([]:List aA) ([]:List aX)) []),y1.2)) else ((vO y1.2 2)>>=fun y2=>(if (true&&(y2==true))=true then pK y1.2 1 5 [46] else some (default:Bool))>>=fun y3=>(some (if y2=true then y3 else false))>>=fun y4=>(if (true&&(y4==true))=true then pK y1.2 2 5 [42] else some (default:Bool))>>=fun y5=>(some (if y4=true then y5 else false))>>=fun y6=>if y6=true then ((qQ y1.2 2)>>=fun y7=>some ((bU.mk true y7.1 (aA.mk 0 0 false (bJ.mk 0 0 []) [] [] ([]:List aA) ([]:List aX)) []),(aL.mk y7.2.list (IntKind.wrap .i64 (y7.2.at_+2)) y7.2.failed))) else ((jX y1.2)>>=fun y8=>(Y8 y8.2)>>=fun y9=>some ((bU.mk false [] y8.1 y9.1),y9.2)))
  partial_fixpoint
def qV (p0:aL):Option (aX×aL) :=
  (tY p0 [83,69,76,69,67,84])>>=fun y1=>(jC y1 [68,73,83,84,73,78,67,84])>>=fun y2=>(yX y2.2)>>=fun y3=>uI y2 ([y3.1]:List bU) y3.2.list y3.2.at_ y3.2.failed
  partial_fixpoint
end
def O0 (p0:List aJ):Option (aX×Int) :=
  (qV (aL.mk p0 0 false))>>=fun y1=>(aBk y1.2)>>=fun y2=>if (decide (0≤y2))=true then (some ((aX.mk false ([]:List bU) ([]:List bR) ([]:List aA) ([]:List dY) 0),y2)) else (some (y1.1,(-1)))
def A7 (p0:List UInt8):Option aJ :=
  some (aJ.mk 2 p0 0)
def aA3 (p1:aA) (x0:List aJ):Option (List aJ) :=
  (A7 p1.name)>>=fun y41=>(appG 32 x0 ([y41]:List aJ))>>=fun y42=>some y42
def lJ (p0:List UInt8):Option aJ :=
  some (aJ.mk 5 p0 0)
def oJ (p0:Int) (p1:Int) (p2:Int):Option Bool :=
  (some (if (decide (p1≤p0))=true then (decide (p0≤p2)) else false))>>=fun y1=>some y1
def uD:Option Int :=
  some 0
def G7 (p0:aA) (x9:Bool):Option Int :=
  if x9=true then (some 4) else (if (decide (p0.kind=3))=true then (if (decide (p0.op=15))=true then (some 3) else (if (decide (p0.op=16))=true then (some 8) else (uD))) else (if (decide (p0.kind=4))=true then ((oJ p0.op 1 14)>>=fun y1=>if y1=true then ((idx ([0,1,2,4,4,4,4,4,4,5,6,6,7,7,7]:List Int) p0.op)>>=fun y2=>some y2) else (uD)) else (uD)))
def V7 (p0:aA) (x5:Bool):Option Int :=
  if x5=true then (some 9) else (if (decide (p0.kind=5))=true then (G7 p0 (decide (p0.kind=5))) else (if (decide (p0.kind=6))=true then (G7 p0 (decide (p0.kind=6))) else (if (decide (p0.kind=7))=true then (G7 p0 (decide (p0.kind=7))) else (G7 p0 (decide (p0.kind=8))))))
def vG (p0:aA):Option Int :=
  if (decide (p0.kind=1))=true then (V7 p0 (decide (p0.kind=1))) else (if (decide (p0.kind=2))=true then (V7 p0 (decide (p0.kind=2))) else (V7 p0 (decide (p0.kind=9))))
def aCy:Option Int :=
  some 5
def aB1 (p0:aA) (p1:Int):Option Int :=
  (vG p0)>>=fun y1=>(oJ p1 0 (IntKind.wrap .i64 ((p0.kids.length:Int) - 1)))>>=fun y2=>(some (if (!y2)=true then true else (decide (y1=0))))>>=fun y3=>(some (if y3=true then true else (decide (y1=9))))>>=fun y4=>if y4=true then (some 0) else (if (decide (p0.kind=3))=true then (some y1) else (if (decide (p0.kind=4))=true then (if (decide (y1=4))=true then (some 5) else (if (decide (p1=0))=true then (some y1) else (some (IntKind.wrap .i64 (y1+1))))) else (if (decide (p0.kind=7))=true then (if (decide (0<p1))=true then (some 1) else (aCy)) else (aCy))))
def aAo (p0:aA) (p1:Int):Option Bool :=
  (oJ p1 0 (IntKind.wrap .i64 ((p0.kids.length:Int) - 1)))>>=fun y1=>(if (true&&(y1==true))=true then idx p0.kids p1 else some default)>>=fun y2=>(if (true&&(y1==true))=true then vG y2 else some default)>>=fun y3=>(if (true&&(y1==true))=true then aB1 p0 p1 else some default)>>=fun y4=>(some (if y1=true then (decide (y3<y4)) else false))>>=fun y5=>some y5
def Y0:Option (List (List UInt8)) :=
  some ([[],[83,69,76,69,67,84],[68,73,83,84,73,78,67,84],[70,82,79,77],[74,79,73,78],[79,78],[87,72,69,82,69],[79,82,68,69,82],[66,89],[65,83,67],[68,69,83,67],[76,73,77,73,84],[65,83],[65,78,68],[79,82],[78,79,84],[73,83],[73,78],[66,69,84,87,69,69,78],[69,88,73,83,84,83],[78,85,76,76],[84,82,85,69],[70,65,76,83,69],[73,78,83,69,82,84],[73,78,84,79],[86,65,76,85,69,83],[85,80,68,65,84,69],[83,69,84],[68,69,76,69,84,69]]:List (List UInt8))
def gY (p0:Int):Option (List UInt8) :=
  (oJ p0 1 28)>>=fun y1=>if (!y1)=true then (some []) else ((Y0)>>=fun y2=>(idx y2 p0)>>=fun y3=>some y3)
def jE (p0:Int):Option aJ :=
  (gY p0)>>=fun y1=>some (aJ.mk 1 y1 0)
mutual
def zF (x0:Int) (p0:Int) (x4:List UInt8) (x5:Int):Option (List UInt8) :=
  (ofBytes ([(IntKind.wrap .u8 (IntKind.wrap .i64 (48+x5)))]:List Int))>>=fun y2=>(wJ y2 x4)>>=fun y3=>zX p0 (IntKind.wrap .i64 (Int.tdiv x0 10)) y3
  partial_fixpoint
def zX (p0:Int) (x0:Int) (x4:List UInt8):Option (List UInt8) :=
  if (!decide (x0=0))=true then (if (decide ((Int.tmod x0 10)<0))=true then (zF x0 p0 x4 (IntKind.wrap .i64 (0 - (Int.tmod x0 10)))) else (zF x0 p0 x4 (Int.tmod x0 10))) else (if (decide (p0<0))=true then ((wJ [45] x4)>>=fun y1=>some y1) else (some x4))
  partial_fixpoint
end
def wH (p0:Int):Option (List UInt8) :=
  if (decide (p0=0))=true then (some [48]) else (zX p0 p0 [])
def aAw (p0:bJ):Option aJ :=
  if (decide (p0.kind=1))=true then ((wH p0.num)>>=fun y1=>some (aJ.mk 3 y1 0)) else (if (decide (p0.kind=2))=true then (some (aJ.mk 4 p0.text 0)) else (if (decide (p0.kind=3))=true then (if (decide (p0.num=1))=true then ((jE 21)>>=fun y2=>some y2) else ((jE 22)>>=fun y3=>some y3)) else ((jE 20)>>=fun y4=>some y4)))
def zV (p0:List aJ) (p1:aA):Option (List aJ) :=
  if p1.not_=true then ((jE 15)>>=fun y1=>(appG 32 p0 ([y1]:List aJ))>>=fun y2=>some y2) else (some p0)
def aGv (p0:Int):Option (List UInt8) :=
  (oJ p0 1 16)>>=fun y1=>if (!y1)=true then (some []) else ((idx ([[],[79,82],[65,78,68],[61],[60,62],[60],[60,61],[62],[62,61],[124,124],[43],[45],[42],[47],[37],[78,79,84],[45]]:List (List UInt8)) p0)>>=fun y2=>some y2)
def zY (p0:Int):Option aJ :=
  (some (if (decide (p0=1))=true then true else (decide (p0=2))))>>=fun y1=>(some (if y1=true then true else (decide (p0=15))))>>=fun y2=>if y2=true then ((aGv p0)>>=fun y3=>some (aJ.mk 1 y3 0)) else ((aGv p0)>>=fun y4=>(lJ y4)>>=fun y5=>some y5)
def aA1 (p0:List aJ) (p1:List UInt8):Option (List aJ) :=
  if (decide (p1=[]))=true then (some p0) else ((jE 12)>>=fun y1=>(A7 p1)>>=fun y2=>(appG 32 p0 ([y1,y2]:List aJ))>>=fun y3=>some y3)
def U2 (x0:List aJ):Option (List aJ) :=
  (lJ [42])>>=fun y6=>(appG 32 x0 ([y6]:List aJ))>>=fun y7=>some y7
def aHy (uF:List aJ):Option (List aJ) :=
  some uF
mutual
def X4 (p0:List aJ) (p1:List aA) (p2:Bool):Option (List aJ) :=
  if (decide ((p1.length:Int)=0))=true then (some p0) else ((jE 6)>>=fun y1=>(appG 32 p0 ([y1]:List aJ))>>=fun y2=>(idx p1 0)>>=fun y3=>(kW y2 y3 p2)>>=fun y4=>some y4)
  partial_fixpoint
def K5 (p2:Bool) (x8:Int) (p1:aX) (pG:List aJ):Option (List aJ) :=
  wX p2 p1 pG (IntKind.wrap .i64 (x8+1))
  partial_fixpoint
def P5 (p2:Bool) (x8:Int) (p1:aX) (oO:List aJ):Option (List aJ) :=
  (idx p1.order x8)>>=fun y26=>(kW oO y26.expr p2)>>=fun y27=>(idx p1.order x8)>>=fun y28=>if y28.desc=true then ((jE 10)>>=fun y29=>(appG 32 y27 ([y29]:List aJ))>>=fun y30=>K5 p2 x8 p1 y30) else (K5 p2 x8 p1 y27)
  partial_fixpoint
def wX (p2:Bool) (p1:aX) (mK:List aJ) (x8:Int):Option (List aJ) :=
  if (decide (x8<(p1.order.length:Int)))=true then (if (decide (x8=0))=true then ((jE 7)>>=fun y16=>(jE 8)>>=fun y17=>(appG 32 mK ([y16,y17]:List aJ))>>=fun y18=>P5 p2 x8 p1 y18) else ((lJ [44])>>=fun y20=>(appG 32 mK ([y20]:List aJ))>>=fun y21=>P5 p2 x8 p1 y21)) else (if (decide (0≤p1.limit))=true then ((jE 11)>>=fun y22=>(wH p1.limit)>>=fun y23=>(appG 32 mK ([y22,(aJ.mk 3 y23 0)]:List aJ))>>=fun y24=>aHy y24) else (aHy mK))
  partial_fixpoint
def aBm (p0:List aJ) (p1:bU) (p2:Bool):Option (List aJ) :=
  if (!p1.star)=true then ((kW p0 p1.expr p2)>>=fun y1=>(aA1 y1 p1.as_)>>=fun y2=>some y2) else (if (!decide (p1.qual=[]))=true then ((A7 p1.qual)>>=fun y3=>(lJ [46])>>=fun y4=>(appG 32 p0 ([y3,y4]:List aJ))>>=fun y5=>U2 y5) else (U2 p0))
  partial_fixpoint
def O5 (p2:Bool) (x7:Int) (p1:aX) (oZ:List aJ):Option (List aJ) :=
  (idx p1.items x7)>>=fun y14=>(aBm oZ y14 p2)>>=fun y15=>yG p2 p1 y15 (IntKind.wrap .i64 (x7+1))
  partial_fixpoint
def K8 (p1:List bR) (p2:Bool) (x7:Int) (nC:List aJ):Option (List aJ) :=
  xK p1 p2 nC (IntKind.wrap .i64 (x7+1))
  partial_fixpoint
def Y3 (p1:List bR) (p2:Bool) (x7:Int) (mX:List aJ):Option (List aJ) :=
  (idx p1 x7)>>=fun y11=>(A7 y11.table)>>=fun y12=>(appG 32 mX ([y12]:List aJ))>>=fun y13=>(idx p1 x7)>>=fun y14=>(aA1 y13 y14.as_)>>=fun y15=>(idx p1 x7)>>=fun y16=>if (decide (0<(y16.on_.length:Int)))=true then ((jE 5)>>=fun y17=>(appG 32 y15 ([y17]:List aJ))>>=fun y18=>(idx p1 x7)>>=fun y19=>(idx y19.on_ 0)>>=fun y20=>(kW y18 y20 p2)>>=fun y21=>K8 p1 p2 x7 y21) else (K8 p1 p2 x7 y15)
  partial_fixpoint
def R9 (p1:List bR) (p2:Bool) (x7:Int) (gN:List aJ):Option (List aJ) :=
  (if (true&&((decide (0<x7))==true))=true then idx p1 x7 else some default)>>=fun y6=>(some (if (decide (0<x7))=true then (decide ((y6.on_.length:Int)=0)) else false))>>=fun y7=>if y7=true then ((lJ [44])>>=fun y8=>(appG 32 gN ([y8]:List aJ))>>=fun y9=>Y3 p1 p2 x7 y9) else (Y3 p1 p2 x7 gN)
  partial_fixpoint
def xK (p1:List bR) (p2:Bool) (x0:List aJ) (x7:Int):Option (List aJ) :=
  if (decide (x7<(p1.length:Int)))=true then ((if (true&&((decide (0<x7))==true))=true then idx p1 x7 else some default)>>=fun y1=>(some (if (decide (0<x7))=true then (decide (0<(y1.on_.length:Int))) else false))>>=fun y2=>if y2=true then ((jE 4)>>=fun y3=>(appG 32 x0 ([y3]:List aJ))>>=fun y4=>R9 p1 p2 x7 y4) else (R9 p1 p2 x7 x0)) else (some x0)
  partial_fixpoint
def aD4 (p0:List aJ) (p1:List bR) (p2:Bool):Option (List aJ) :=
  xK p1 p2 p0 0
  partial_fixpoint
def yG (p2:Bool) (p1:aX) (gN:List aJ) (x7:Int):Option (List aJ) :=
  if (decide (x7<(p1.items.length:Int)))=true then (if (decide (0<x7))=true then ((lJ [44])>>=fun y6=>(appG 32 gN ([y6]:List aJ))>>=fun y7=>O5 p2 x7 p1 y7) else (O5 p2 x7 p1 gN)) else ((jE 3)>>=fun y9=>(appG 32 gN ([y9]:List aJ))>>=fun y10=>(aD4 y10 p1.from_ p2)>>=fun y11=>(X4 y11 p1.where_ p2)>>=fun y12=>wX p2 p1 y12 0)
  partial_fixpoint
def X7 (p2:Bool) (p1:aX) (x0:List aJ):Option (List aJ) :=
  yG p2 p1 x0 0
  partial_fixpoint
def F7 (p0:List aJ) (p1:aX) (p2:Bool):Option (List aJ) :=
  (jE 1)>>=fun y1=>(appG 32 p0 ([y1]:List aJ))>>=fun y2=>if p1.distinct=true then ((jE 2)>>=fun y3=>(appG 32 y2 ([y3]:List aJ))>>=fun y4=>X7 p2 p1 y4) else (X7 p2 p1 y2)
  partial_fixpoint
def tC (p0:List aJ) (p1:aA) (p2:Int) (p3:Bool):Option (List aJ) :=
  (idx p1.kids p2)>>=fun y1=>(aAo p1 p2)>>=fun y2=>(if ((true&&(y2==false))&&(p3==true))=true then vG y1 else some default)>>=fun y3=>(if (true&&(y2==false))=true then some (if p3=true then (decide (y3<9)) else false) else some default)>>=fun y4=>(some (if y2=true then true else y4))>>=fun y5=>if y5=true then ((lJ [40])>>=fun y6=>(appG 32 p0 ([y6]:List aJ))>>=fun y7=>(kW y7 y1 p3)>>=fun y8=>(lJ [41])>>=fun y9=>(appG 32 y8 ([y9]:List aJ))>>=fun y10=>some y10) else ((kW p0 y1 p3)>>=fun y11=>some y11)
  partial_fixpoint
def M0 (p2:Bool) (x7:Int) (p1:aA) (oP:List aJ):Option (List aJ) :=
  (tC oP p1 x7 p2)>>=fun y48=>yR p2 p1 y48 (IntKind.wrap .i64 (x7+1))
  partial_fixpoint
def yR (p2:Bool) (p1:aA) (mZ:List aJ) (x7:Int):Option (List aJ) :=
  if (decide (x7<(p1.kids.length:Int)))=true then (if (decide (1<x7))=true then ((lJ [44])>>=fun y43=>(appG 32 mZ ([y43]:List aJ))>>=fun y44=>M0 p2 x7 p1 y44) else (M0 p2 x7 p1 mZ)) else ((lJ [41])>>=fun y46=>(appG 32 mZ ([y46]:List aJ))>>=fun y47=>some y47)
  partial_fixpoint
def kW (p0:List aJ) (p1:aA) (p2:Bool):Option (List aJ) :=
  if (decide (p1.kind=1))=true then ((aAw p1.value)>>=fun y1=>(appG 32 p0 ([y1]:List aJ))>>=fun y2=>some y2) else (if (decide (p1.kind=2))=true then (if (!decide (p1.qual=[]))=true then ((A7 p1.qual)>>=fun y3=>(lJ [46])>>=fun y4=>(appG 32 p0 ([y3,y4]:List aJ))>>=fun y5=>aA3 p1 y5) else (aA3 p1 p0)) else (if (decide (p1.kind=3))=true then ((zY p1.op)>>=fun y6=>(appG 32 p0 ([y6]:List aJ))>>=fun y7=>(tC y7 p1 0 p2)>>=fun y8=>some y8) else (if (decide (p1.kind=9))=true then ((jE 19)>>=fun y9=>(lJ [40])>>=fun y10=>(appG 32 p0 ([y9,y10]:List aJ))>>=fun y11=>(idx p1.sub 0)>>=fun y12=>(F7 y11 y12 p2)>>=fun y13=>(lJ [41])>>=fun y14=>(appG 32 y13 ([y14]:List aJ))>>=fun y15=>some y15) else ((tC p0 p1 0 p2)>>=fun y16=>if (decide (p1.kind=4))=true then ((zY p1.op)>>=fun y17=>(appG 32 y16 ([y17]:List aJ))>>=fun y18=>(tC y18 p1 1 p2)>>=fun y19=>some y19) else (if (decide (p1.kind=5))=true then ((jE 16)>>=fun y20=>(appG 32 y16 ([y20]:List aJ))>>=fun y21=>(zV y21 p1)>>=fun y22=>(jE 20)>>=fun y23=>(appG 32 y22 ([y23]:List aJ))>>=fun y24=>some y24) else (if (decide (p1.kind=6))=true then ((zV y16 p1)>>=fun y25=>(jE 18)>>=fun y26=>(appG 32 y25 ([y26]:List aJ))>>=fun y27=>(tC y27 p1 1 p2)>>=fun y28=>(jE 13)>>=fun y29=>(appG 32 y28 ([y29]:List aJ))>>=fun y30=>(tC y30 p1 2 p2)>>=fun y31=>some y31) else ((zV y16 p1)>>=fun y32=>(jE 17)>>=fun y33=>(lJ [40])>>=fun y34=>(appG 32 y32 ([y33,y34]:List aJ))>>=fun y35=>if (decide (p1.kind=8))=true then ((idx p1.sub 0)>>=fun y36=>(F7 y35 y36 p2)>>=fun y37=>(lJ [41])>>=fun y38=>(appG 32 y37 ([y38]:List aJ))>>=fun y39=>some y39) else (yR p2 p1 y35 1))))))))
  partial_fixpoint
end
def aAz (p0:aQ) (x3:Int) (bC:Int):Option (Int×aQ) :=
  some (x3,(aQ.mk p0.b bC (IntKind.wrap .i64 ((IntKind.wrap .i64 (p0.h * 6364136223846793005))+1442695040888963407))))
def vJ (p0:aQ):Option (Int×aQ) :=
  if (decide (p0.i<(p0.b.length:Int)))=true then ((idx p0.b p0.i)>>=fun y1=>aAz p0 (IntKind.wrap .i64 ((BitVec.ofInt (IntKind.bits .i64) (IntKind.wrap .i64 ((IntKind.wrap .i64 ((BitVec.ofInt (IntKind.bits .i64) (IntKind.wrap .i64 ((BitVec.ofInt (IntKind.bits .i64) (Int.fdiv (IntKind.wrap .i64 ((IntKind.wrap .i64 (p0.h * 6364136223846793005))+1442695040888963407)) (2 ^ 33)) ^^^ BitVec.ofInt (IntKind.bits .i64) (Int.fdiv (IntKind.wrap .i64 ((IntKind.wrap .i64 (p0.h * 6364136223846793005))+1442695040888963407)) (2 ^ 45))).toNat:Int)) &&& BitVec.ofInt (IntKind.bits .i64) 255).toNat:Int))+(IntKind.wrap .i64 y1))) &&& BitVec.ofInt (IntKind.bits .i64) 255).toNat:Int)) (IntKind.wrap .i64 (p0.i+1))) else (aAz p0 (IntKind.wrap .i64 ((BitVec.ofInt (IntKind.bits .i64) (IntKind.wrap .i64 ((BitVec.ofInt (IntKind.bits .i64) (Int.fdiv (IntKind.wrap .i64 ((IntKind.wrap .i64 (p0.h * 6364136223846793005))+1442695040888963407)) (2 ^ 33)) ^^^ BitVec.ofInt (IntKind.bits .i64) (Int.fdiv (IntKind.wrap .i64 ((IntKind.wrap .i64 (p0.h * 6364136223846793005))+1442695040888963407)) (2 ^ 45))).toNat:Int)) &&& BitVec.ofInt (IntKind.bits .i64) 255).toNat:Int)) p0.i)
def iL (p0:aQ) (p1:Int):Option (Int×aQ) :=
  if (decide (p1≤0))=true then (some (0,p0)) else (if (decide (p1≤256))=true then ((vJ p0)>>=fun y1=>(U1 y1.1 p1)>>=fun y2=>some (y2,y1.2)) else ((vJ p0)>>=fun y3=>(vJ y3.2)>>=fun y4=>(vJ y4.2)>>=fun y5=>(vJ y5.2)>>=fun y6=>(U1 (IntKind.wrap .i64 ((IntKind.wrap .i64 ((IntKind.wrap .i64 ((IntKind.wrap .i64 (y3.1 * 16777216))+(IntKind.wrap .i64 (y4.1 * 65536))))+(IntKind.wrap .i64 (y5.1 * 256))))+y6.1)) p1)>>=fun y7=>some (y7,y6.2)))
def yH (p0:List Int) (x3:Int) (x4:Int):Option aQ :=
  (some (if (decide (x4<(p0.length:Int)))=true then (decide (x4<4000)) else false))>>=fun y1=>if y1=true then ((idx p0 x4)>>=fun y2=>yH p0 (IntKind.wrap .i64 ((BitVec.ofInt (IntKind.bits .i64) (IntKind.wrap .i64 ((IntKind.wrap .i64 ((IntKind.wrap .i64 (x3 * 131))+(IntKind.wrap .i64 y2)))+7)) &&& BitVec.ofInt (IntKind.bits .i64) 1073741823).toNat:Int)) (IntKind.wrap .i64 (x4+1))) else (some (aQ.mk p0 0 x3))
  partial_fixpoint
def O6 (p0:List Int):Option aQ :=
  yH p0 (IntKind.wrap .i64 (28322+(p0.length:Int))) 0
def V9 (p0:List Int) (p1:Int):Option Int :=
  if (decide (p1<(IntKind.wrap .i64 (2+(IntKind.wrap .i64 (Int.tdiv (p0.length:Int) 20))))))=true then (some p1) else (some (IntKind.wrap .i64 (2+(IntKind.wrap .i64 (Int.tdiv (p0.length:Int) 20)))))
def iI (p0:aQ) (p1:Int):Option (Bool×aQ) :=
  (iL p0 p1)>>=fun y1=>some ((decide (y1.1=0)),y1.2)
def nA (p0:aQ) (p1:List (List UInt8)):Option ((List UInt8)×aQ) :=
  (iL p0 (p1.length:Int))>>=fun y1=>(idx p1 y1.1)>>=fun y2=>some (y2,y1.2)
def xX (p0:aQ):Option ((List UInt8)×aQ) :=
  (iI p0 6)>>=fun y1=>if y1.1=true then ((nA y1.2 ([[97,32,98],[102,114,111,109],[83,101,108,101,99,116],[49,120],[113,34,113],[0],[34],[105,116,39,115],[120,46,121],[45]]:List (List UInt8)))>>=fun y2=>some (y2.1,y2.2)) else ((nA y1.2 ([[97],[98],[99],[116],[117],[118],[105,100],[110,97,109,101],[65],[95,120,49]]:List (List UInt8)))>>=fun y3=>some (y3.1,y3.2))
def aC9 (jY:List UInt8) (tL:List UInt8) (jH:List Int) (uV:Int) (uN:Int):Option (aA×aQ) :=
  some ((aA.mk 2 0 false (bJ.mk 0 0 []) jY tL ([]:List aA) ([]:List aX)),(aQ.mk jH uV uN))
def R5 (y1:(List UInt8)×aQ) (jY:List UInt8) (bD:List Int) (bC:Int) (bF:Int):Option (aA×aQ) :=
  (iI (aQ.mk bD bC bF) 12)>>=fun y4=>if y4.1=true then ((xX y4.2)>>=fun y5=>aC9 jY y5.1 y5.2.b y5.2.i y5.2.h) else (aC9 jY y1.1 y4.2.b y4.2.i y4.2.h)
def U3 (p0:aQ):Option (aA×aQ) :=
  (nA p0 ([[97],[98],[99],[105,100],[110,97,109,101]]:List (List UInt8)))>>=fun y1=>(iI y1.2 3)>>=fun y2=>if y2.1=true then ((nA y2.2 ([[116],[117],[118]]:List (List UInt8)))>>=fun y3=>R5 y1 y3.1 y3.2.b y3.2.i y3.2.h) else (R5 y1 [] y2.2.b y2.2.i y2.2.h)
def A9 (p0:aQ) (p1:List Int):Option (Int×aQ) :=
  (iL p0 (p1.length:Int))>>=fun y1=>(idx p1 y1.1)>>=fun y2=>some (y2,y1.2)
def aA8 (y1:Bool×aQ) (bL:List bU) (bP:List bR) (eQ:List aA) (fK:List dY) (lX:Int) (wB:List Int) (wO:Int) (yO:Int):Option (aX×aQ) :=
  some ((aX.mk y1.1 bL bP eQ fK lX),(aQ.mk wB wO yO))
def V3 (y1:Bool×aQ) (bL:List bU) (bP:List bR) (eQ:List aA) (fK:List dY) (yN:List Int) (wN:Int) (yB:Int):Option (aX×aQ) :=
  (iI (aQ.mk yN wN yB) 4)>>=fun y47=>if y47.1=true then ((A9 y47.2 ([0,1,2,9223372036854775807]:List Int))>>=fun y48=>aA8 y1 bL bP eQ fK y48.1 y48.2.b y48.2.i y48.2.h) else (aA8 y1 bL bP eQ fK (-1) y47.2.b y47.2.i y47.2.h)
def yE (p0:Bool):Option bJ :=
  if p0=true then (some (bJ.mk 3 1 [])) else (some (bJ.mk 3 0 []))
def aHh (p0:Int):Option bJ :=
  some (bJ.mk 1 p0 [])
def zA (p0:aQ):Option (Int×aQ) :=
  (iL p0 3)>>=fun y1=>if (decide (y1.1=0))=true then ((A9 y1.2 ([0,1,(-1),63,64,(-64),(-65),127,128,16383,16384,9223372036854775807,(-9223372036854775808),4611686018427387904]:List Int))>>=fun y2=>some (y2.1,y2.2)) else (if (decide (y1.1=1))=true then ((iL y1.2 1000000)>>=fun y3=>some ((IntKind.wrap .i64 (y3.1 - 500000)),y3.2)) else ((iL y1.2 20)>>=fun y4=>some (y4.1,y4.2)))
def aBs (p0:List UInt8):Option bJ :=
  some (bJ.mk 2 0 p0)
def aBx (p0:aQ):Option (bJ×aQ) :=
  (iL p0 6)>>=fun y1=>if (decide (y1.1=0))=true then (some ((bJ.mk 0 0 []),y1.2)) else (if (decide (y1.1=1))=true then ((nA y1.2 ([[],[97],[98],[105,116,39,115],[97,98],[255]]:List (List UInt8)))>>=fun y2=>(aBs y2.1)>>=fun y3=>some (y3,y2.2)) else (if (decide (y1.1=2))=true then ((iI y1.2 2)>>=fun y4=>(yE y4.1)>>=fun y5=>some (y5,y4.2)) else (if (decide (y1.1=3))=true then ((zA y1.2)>>=fun y6=>(aHh y6.1)>>=fun y7=>some (y7,y6.2)) else ((iL y1.2 7)>>=fun y8=>(aHh (IntKind.wrap .i64 (y8.1 - 2)))>>=fun y9=>some (y9,y8.2)))))
def aAs (y1:bJ×aQ) (bG:Int):Option (bJ×aQ) :=
  some ((bJ.mk y1.1.kind bG y1.1.text),y1.2)
def Q8 (p0:aQ):Option (bJ×aQ) :=
  (aBx p0)>>=fun y1=>(some (if (decide (y1.1.kind=1))=true then (decide (y1.1.num<0)) else false))>>=fun y2=>if y2=true then (aAs y1 9223372036854775807) else (aAs y1 y1.1.num)
mutual
def zQ (p1:Int) (y1:Bool×aQ) (bL:List bU) (bP:List bR) (eQ:List aA) (pV:List Int) (nH:Int×Int):Option (aX×aQ) :=
  (iI (aQ.mk pV nH.1 nH.2) 3)>>=fun y39=>if y39.1=true then ((oI y39.2 p1)>>=fun y40=>(iI y40.2 2)>>=fun y41=>(appG 144 [] ([(dY.mk y40.1 y41.1)]:List dY))>>=fun y42=>V3 y1 bL bP eQ y42 y41.2.b y41.2.i y41.2.h) else (V3 y1 bL bP eQ ([]:List dY) y39.2.b y39.2.i y39.2.h)
  partial_fixpoint
def U5 (p1:Int) (y17:Int×aQ) (x9:Int) (y1:Bool×aQ) (bL:List bU) (bP:List bR) (ky22q:((List UInt8)×aQ)×(List UInt8)×(List aA)×(List Int)×Int×Int):Option (aX×aQ) :=
  (appG 56 bP ([(bR.mk ky22q.1.1 ky22q.2.1 ky22q.2.2.1)]:List bR))>>=fun y46=>xD p1 y17 y1 bL (IntKind.wrap .i64 (x9+1)) y46 (ky22q.2.2.2.1,ky22q.2.2.2.2.1,ky22q.2.2.2.2.2)
  partial_fixpoint
def Z9 (p1:Int) (y17:Int×aQ) (x9:Int) (y1:Bool×aQ) (bL:List bU) (bP:List bR) (ky22:((List UInt8)×aQ)×(List UInt8)×(List Int)×Int×Int):Option (aX×aQ) :=
  (if (true&&((decide (0<x9))==true))=true then iI (aQ.mk ky22.2.2.1 ky22.2.2.2.1 ky22.2.2.2.2) 2 else some ((default:Bool),(aQ.mk ky22.2.2.1 ky22.2.2.2.1 ky22.2.2.2.2)))>>=fun y33=>(some (if (decide (0<x9))=true then y33.1 else false))>>=fun y34=>if y34=true then ((oI y33.2 p1)>>=fun y35=>U5 p1 y17 x9 y1 bL bP (ky22.1,ky22.2.1,([y35.1]:List aA),y35.2.b,y35.2.i,y35.2.h)) else (U5 p1 y17 x9 y1 bL bP (ky22.1,ky22.2.1,([]:List aA),y33.2.b,y33.2.i,y33.2.h))
  partial_fixpoint
def xD (p1:Int) (y17:Int×aQ) (y1:Bool×aQ) (bL:List bU) (x9:Int) (bP:List bR) (kG:(List Int)×Int×Int):Option (aX×aQ) :=
  if (decide (x9<(IntKind.wrap .i64 (1+y17.1))))=true then ((nA (aQ.mk kG.1 kG.2.1 kG.2.2) ([[116],[117],[118]]:List (List UInt8)))>>=fun y22=>(iI y22.2 3)>>=fun y23=>if y23.1=true then ((xX y23.2)>>=fun y24=>Z9 p1 y17 x9 y1 bL bP (y22,y24.1,y24.2.b,y24.2.i,y24.2.h)) else (Z9 p1 y17 x9 y1 bL bP (y22,[],y23.2.b,y23.2.i,y23.2.h))) else ((iI (aQ.mk kG.1 kG.2.1 kG.2.2) 2)>>=fun y28=>if y28.1=true then ((oI y28.2 p1)>>=fun y29=>zQ p1 y1 bL bP ([y29.1]:List aA) y29.2.b (y29.2.i,y29.2.h)) else (zQ p1 y1 bL bP ([]:List aA) y28.2.b (y28.2.i,y28.2.h)))
  partial_fixpoint
def Y5 (p1:Int) (y2:Int×aQ) (x7:Int) (y1:Bool×aQ) (bL:List bU) (y11:aA×aQ) (jZ:(List UInt8)×(List Int)×Int×Int):Option (aX×aQ) :=
  (appG 176 bL ([(bU.mk false [] y11.1 jZ.1)]:List bU))>>=fun y21=>F8 p1 y2 x7 y1 y21 jZ.2.1 (jZ.2.2.1,jZ.2.2.2)
  partial_fixpoint
def F8 (p1:Int) (y2:Int×aQ) (x7:Int) (y1:Bool×aQ) (nQ:List bU) (jH:List Int) (mV:Int×Int):Option (aX×aQ) :=
  xQ p1 y2 y1 (IntKind.wrap .i64 (x7+1)) nQ jH (mV.1,mV.2)
  partial_fixpoint
def xQ (p1:Int) (y2:Int×aQ) (y1:Bool×aQ) (x7:Int) (bL:List bU) (bD:List Int) (mE:Int×Int):Option (aX×aQ) :=
  if (decide (x7<(IntKind.wrap .i64 (1+y2.1))))=true then ((iL (aQ.mk bD mE.1 mE.2) 5)>>=fun y3=>if (decide (y3.1=0))=true then ((appG 176 bL ([(bU.mk true [] (aA.mk 0 0 false (bJ.mk 0 0 []) [] [] ([]:List aA) ([]:List aX)) [])]:List bU))>>=fun y4=>F8 p1 y2 x7 y1 y4 y3.2.b (y3.2.i,y3.2.h)) else (if (decide (y3.1=1))=true then ((nA y3.2 ([[116],[117]]:List (List UInt8)))>>=fun y9=>(appG 176 bL ([(bU.mk true y9.1 (aA.mk 0 0 false (bJ.mk 0 0 []) [] [] ([]:List aA) ([]:List aX)) [])]:List bU))>>=fun y10=>F8 p1 y2 x7 y1 y10 y9.2.b (y9.2.i,y9.2.h)) else ((oI y3.2 p1)>>=fun y11=>(iI y11.2 2)>>=fun y12=>if y12.1=true then ((xX y12.2)>>=fun y13=>Y5 p1 y2 x7 y1 bL y11 (y13.1,y13.2.b,y13.2.i,y13.2.h)) else (Y5 p1 y2 x7 y1 bL y11 ([],y12.2.b,y12.2.i,y12.2.h))))) else ((iL (aQ.mk bD mE.1 mE.2) 2)>>=fun y17=>xD p1 y17 y1 bL 0 ([]:List bR) (y17.2.b,y17.2.i,y17.2.h))
  partial_fixpoint
def xC (p0:aQ) (p1:Int):Option (aX×aQ) :=
  (iI p0 4)>>=fun y1=>(iL y1.2 2)>>=fun y2=>xQ p1 y2 y1 0 ([]:List bU) y2.2.b (y2.2.i,y2.2.h)
  partial_fixpoint
def F6 (p1:Int) (p2:Int) (x7:List aA) (x8:Int) (bD:List Int) (bC:Int) (bF:Int):Option ((List aA)×aQ) :=
  if (decide (x8<p2))=true then ((oI (aQ.mk bD bC bF) (IntKind.wrap .i64 (p1 - 1)))>>=fun y1=>(appG 136 x7 ([y1.1]:List aA))>>=fun y2=>F6 p1 p2 y2 (IntKind.wrap .i64 (x8+1)) y1.2.b y1.2.i y1.2.h) else (some (x7,(aQ.mk bD bC bF)))
  partial_fixpoint
def qB (p0:aQ) (p1:Int) (p2:Int):Option ((List aA)×aQ) :=
  F6 p1 p2 ([]:List aA) 0 p0.b p0.i p0.h
  partial_fixpoint
def I7 (p1:Int) (y6:Int×aQ):Option (aA×aQ) :=
  (iL y6.2 14)>>=fun y20=>(qB y20.2 p1 2)>>=fun y21=>some ((aA.mk 4 (IntKind.wrap .i64 (1+y20.1)) false (bJ.mk 0 0 []) [] [] y21.1 ([]:List aX)),y21.2)
  partial_fixpoint
def oI (p0:aQ) (p1:Int):Option (aA×aQ) :=
  (if (true&&((decide (p1≤0))==false))=true then iI p0 5 else some ((default:Bool),p0))>>=fun y1=>(some (if (decide (p1≤0))=true then true else y1.1))>>=fun y2=>if y2=true then ((iI y1.2 2)>>=fun y3=>if y3.1=true then ((U3 y3.2)>>=fun y4=>some (y4.1,y4.2)) else ((Q8 y3.2)>>=fun y5=>some ((aA.mk 1 0 false y5.1 [] [] ([]:List aA) ([]:List aX)),y5.2))) else ((iL y1.2 12)>>=fun y6=>if (decide (y6.1=0))=true then ((qB y6.2 p1 1)>>=fun y7=>some ((aA.mk 3 15 false (bJ.mk 0 0 []) [] [] y7.1 ([]:List aX)),y7.2)) else (if (decide (y6.1=1))=true then ((qB y6.2 p1 1)>>=fun y8=>some ((aA.mk 3 16 false (bJ.mk 0 0 []) [] [] y8.1 ([]:List aX)),y8.2)) else (if (decide (y6.1=2))=true then ((iI y6.2 2)>>=fun y9=>(qB y9.2 p1 1)>>=fun y10=>some ((aA.mk 5 0 y9.1 (bJ.mk 0 0 []) [] [] y10.1 ([]:List aX)),y10.2)) else (if (decide (y6.1=3))=true then ((iI y6.2 2)>>=fun y11=>(qB y11.2 p1 3)>>=fun y12=>some ((aA.mk 6 0 y11.1 (bJ.mk 0 0 []) [] [] y12.1 ([]:List aX)),y12.2)) else (if (decide (y6.1=4))=true then ((iI y6.2 2)>>=fun y13=>(iL y13.2 2)>>=fun y14=>(qB y14.2 p1 (IntKind.wrap .i64 (2+y14.1)))>>=fun y15=>some ((aA.mk 7 0 y13.1 (bJ.mk 0 0 []) [] [] y15.1 ([]:List aX)),y15.2)) else (if (decide (y6.1=5))=true then (if (decide (1<p1))=true then ((iI y6.2 2)>>=fun y16=>(qB y16.2 p1 1)>>=fun y17=>(xC y17.2 (IntKind.wrap .i64 (p1 - 2)))>>=fun y18=>some ((aA.mk 8 0 y16.1 (bJ.mk 0 0 []) [] [] y17.1 ([y18.1]:List aX)),y18.2)) else (I7 p1 y6)) else (if (decide (y6.1=6))=true then (if (decide (1<p1))=true then ((xC y6.2 (IntKind.wrap .i64 (p1 - 2)))>>=fun y19=>some ((aA.mk 9 0 false (bJ.mk 0 0 []) [] [] ([]:List aA) ([y19.1]:List aX)),y19.2)) else (I7 p1 y6)) else (I7 p1 y6))))))))
  partial_fixpoint
end
def aCu (p0:List Int):Option (aQ×aA) :=
  (O6 p0)>>=fun y1=>(V9 p0 4)>>=fun y2=>(iL y1 y2)>>=fun y3=>(oI y3.2 y3.1)>>=fun y4=>some (y4.2,y4.1)
def vH (bD:List Int) (bC:Int) (bF:Int) (vF:List aJ):Option ((List aJ)×aQ) :=
  some (vF,(aQ.mk bD bC bF))
def rZ (wI:Int) (bG:List UInt8) (dZ:Int) (bD:List Int) (bC:Int) (bF:Int):Option (aJ×aQ) :=
  some ((aJ.mk wI bG dZ),(aQ.mk bD bC bF))
def aAb (p0:Int) (p1:Int):Option Int :=
  if (decide (p1<p0))=true then (some p0) else (some p1)
def aGf (p0:aQ):Option ((List UInt8)×aQ) :=
  (nA p0 ([[40],[41],[44],[46],[42],[43],[45],[47],[37],[61],[60,62],[60],[60,61],[62],[62,61],[124,124]]:List (List UInt8)))>>=fun y1=>some (y1.1,y1.2)
def aA5 (p0:aQ):Option (aJ×aQ) :=
  (iL p0 6)>>=fun y1=>if (decide (y1.1=0))=true then ((Y0)>>=fun y2=>(iL y1.2 28)>>=fun y3=>(idx y2 (IntKind.wrap .i64 (1+y3.1)))>>=fun y4=>some ((aJ.mk 1 y4 0),y3.2)) else (if (decide (y1.1=1))=true then ((xX y1.2)>>=fun y5=>some ((aJ.mk 2 y5.1 0),y5.2)) else (if (decide (y1.1=2))=true then ((zA y1.2)>>=fun y6=>(aAb 0 y6.1)>>=fun y7=>(wH y7)>>=fun y8=>some ((aJ.mk 3 y8 0),y6.2)) else (if (decide (y1.1=3))=true then ((nA y1.2 ([[],[120],[105,116,39,115],[39,39],[116,119,111,32,119,111,114,100,115],[34],[45,45],[0,255]]:List (List UInt8)))>>=fun y9=>some ((aJ.mk 4 y9.1 0),y9.2)) else ((aGf y1.2)>>=fun y10=>some ((aJ.mk 5 y10.1 0),y10.2)))))
def O8 (p0:aQ):Option (aJ×aQ) :=
  (aA5 p0)>>=fun y1=>(iL y1.2 10)>>=fun y2=>if (decide (y2.1=0))=true then ((iL y2.2 7)>>=fun y3=>rZ y3.1 y1.1.text y1.1.at_ y3.2.b y3.2.i y3.2.h) else (if (decide (y2.1=1))=true then ((nA y2.2 ([[],[115,101,108,101,99,116],[83,69,76,69,67,84,83],[48,49],[57,50,50,51,51,55,50,48,51,54,56,53,52,55,55,53,56,48,56],[61,62],[124],[97,98,99,100,101,102,103,104,105,106,107,108,109,110,111,112,113,114,115,116,117],[49,50,51,52,53,54,55,56,57,48,49,50,51,52,53,54,55,56,57,48,49,50,51,52,53,54,55,56,57,48,49,50,51,52,53,54,55,56,57,48,49]]:List (List UInt8)))>>=fun y4=>rZ y1.1.kind y4.1 y1.1.at_ y4.2.b y4.2.i y4.2.h) else (if (decide (y2.1=2))=true then ((zA y2.2)>>=fun y5=>rZ y1.1.kind y1.1.text y5.1 y5.2.b y5.2.i y5.2.h) else (rZ y1.1.kind y1.1.text y1.1.at_ y2.2.b y2.2.i y2.2.h)))
def U6 (p0:aQ) (p1:List aJ):Option ((List aJ)×aQ) :=
  (appG 32 ([]:List aJ) p1)>>=fun y1=>(iL p0 (IntKind.wrap .i64 ((y1.length:Int)+1)))>>=fun y2=>(iL y2.2 7)>>=fun y3=>if (decide (y3.1=0))=true then ((oH y1 0 y2.1)>>=fun y4=>some (y4,y3.2)) else (if (decide (y3.1=1))=true then ((oH p1 0 y2.1)>>=fun y5=>(appG 32 ([]:List aJ) y5)>>=fun y6=>(O8 y3.2)>>=fun y7=>(appG 32 y6 ([y7.1]:List aJ))>>=fun y8=>(oH p1 y2.1 (p1.length:Int))>>=fun y9=>(appG 32 y8 y9)>>=fun y10=>vH y7.2.b y7.2.i y7.2.h y10) else (if (decide (y3.1=2))=true then (if (decide (y2.1<(y1.length:Int)))=true then ((oH p1 0 y2.1)>>=fun y11=>(appG 32 ([]:List aJ) y11)>>=fun y12=>(oH p1 (IntKind.wrap .i64 (y2.1+1)) (p1.length:Int))>>=fun y13=>(appG 32 y12 y13)>>=fun y14=>vH y3.2.b y3.2.i y3.2.h y14) else (vH y3.2.b y3.2.i y3.2.h y1)) else (if (decide (y3.1=3))=true then (if (decide (y2.1<(y1.length:Int)))=true then ((O8 y3.2)>>=fun y15=>(idx y1 y2.1)>>=fun y16=>vH y15.2.b y15.2.i y15.2.h (y1.set (y2.1).toNat y15.1)) else (vH y3.2.b y3.2.i y3.2.h y1)) else (vH y3.2.b y3.2.i y3.2.h y1))))
def aCp (p0:List Int):Option (List aJ) :=
  (aCu p0)>>=fun y1=>(iI y1.1 6)>>=fun y2=>(kW ([]:List aJ) y1.2 y2.1)>>=fun y3=>(U6 y2.2 y3)>>=fun y4=>some y4.1
def aD3 (p0:List Int):Option (List aJ) :=
  (O6 p0)>>=fun y1=>(V9 p0 4)>>=fun y2=>(iL y1 y2)>>=fun y3=>(xC y3.2 y3.1)>>=fun y4=>(iI y4.2 6)>>=fun y5=>(F7 ([]:List aJ) y4.1 y5.1)>>=fun y6=>(U6 y5.2 y6)>>=fun y7=>some y7.1
def aAu (p0:aU):Option Int :=
  (some (if (!p0.bad)=true then (decide (p0.at_=(p0.t.length:Int))) else false))>>=fun y1=>if y1=true then (some (-1)) else (some p0.at_)
def nY (p0:aU) (p1:Int):Option aJ :=
  (some (if p0.bad=true then true else (decide ((p0.t.length:Int)≤(IntKind.wrap .i64 (p0.at_+p1))))))>>=fun y1=>if y1=true then (some (aJ.mk 0 [] 0)) else ((idx p0.t (IntKind.wrap .i64 (p0.at_+p1)))>>=fun y2=>some y2)
def mW (p0:aU) (p1:Int):Option Bool :=
  (nY p0 0)>>=fun y1=>(if (true&&((decide (y1.kind=1))==true))=true then gY p1 else some default)>>=fun y2=>(some (if (decide (y1.kind=1))=true then (decide (y1.text=y2)) else false))>>=fun y3=>some y3
def aAk (y1:Bool) (bD:List aJ) (bC:Int) (bF:Bool):Option (Bool×aU) :=
  some (y1,(aU.mk bD bC bF))
def gX (p0:aU) (p1:Bool):Option aU :=
  (some (if (!p1)=true then true else p0.bad))>>=fun y1=>if y1=true then (some (aU.mk p0.t p0.at_ true)) else (some (aU.mk p0.t (IntKind.wrap .i64 (p0.at_+1)) p0.bad))
def jR (p0:aU) (p1:Int):Option (Bool×aU) :=
  (mW p0 p1)>>=fun y1=>if y1=true then ((gX p0 true)>>=fun y2=>aAk y1 y2.t y2.at_ y2.bad) else (aAk y1 p0.t p0.at_ p0.bad)
def aE6 (x3:List Int):Option (List UInt8) :=
  (ofBytes x3)>>=fun y3=>some y3
mutual
def G8 (x4:Int) (oQ:List Int):Option (List UInt8) :=
  I6 (IntKind.wrap .i64 (x4+1)) oQ
  partial_fixpoint
def I6 (x4:Int) (gU:List Int):Option (List UInt8) :=
  if (decide (x4<(gU.length:Int)))=true then ((idx gU x4)>>=fun y1=>(some (if (decide (97≤y1))=true then (decide (y1≤122)) else false))>>=fun y2=>if y2=true then (G8 x4 (gU.set (x4).toNat (IntKind.wrap .u8 (y1 - 32)))) else (G8 x4 (gU.set (x4).toNat y1))) else (aE6 gU)
  partial_fixpoint
end
def M4 (p0:List UInt8):Option (List UInt8) :=
  I6 0 (jL p0)
def xP (y1:List UInt8) (y2:List (List UInt8)) (x5:Int):Option Int :=
  if (decide (x5<(y2.length:Int)))=true then ((idx y2 x5)>>=fun y3=>if (decide (y3=y1))=true then (some x5) else (xP y1 y2 (IntKind.wrap .i64 (x5+1)))) else (some 0)
  partial_fixpoint
def aCw (p0:List UInt8):Option Int :=
  if (decide (8<(p0.length:Int)))=true then (some 0) else ((M4 p0)>>=fun y1=>(Y0)>>=fun y2=>xP y1 y2 1)
def M3 (p0:List UInt8):Option Bool :=
  (oJ (p0.length:Int) 1 20)>>=fun y1=>some y1
def wM (p0:List UInt8) (x4:Int) (x5:Int):Option (Int×Bool) :=
  if (decide (x5<(p0.length:Int)))=true then ((H6 p0 x5)>>=fun y2=>(if (true&&((decide (y2<48))==false))=true then H6 p0 x5 else some default)>>=fun y3=>(some (if (decide (y2<48))=true then true else (decide (57<y3))))>>=fun y4=>if y4=true then (some (0,false)) else ((H6 p0 x5)>>=fun y5=>if (decide ((IntKind.wrap .i64 (Int.tdiv (IntKind.wrap .i64 (9223372036854775807 - (IntKind.wrap .i64 ((IntKind.wrap .i64 y5) - 48)))) 10))<x4))=true then (some (0,false)) else (wM p0 (IntKind.wrap .i64 ((IntKind.wrap .i64 (10 * x4))+(IntKind.wrap .i64 ((IntKind.wrap .i64 y5) - 48)))) (IntKind.wrap .i64 (x5+1))))) else ((wH x4)>>=fun y6=>if (!decide (y6=p0))=true then (some (0,false)) else (some (x4,true)))
  partial_fixpoint
def yT (p0:List UInt8):Option (Int×Bool) :=
  (some (if (decide ((p0.length:Int)<1))=true then true else (decide (19<(p0.length:Int)))))>>=fun y1=>if y1=true then (some (0,false)) else (wM p0 0 0)
def kU (x4:Bool):Option Bool :=
  if x4=true then (some true) else (some false)
def aBg (p0:List UInt8):Option Bool :=
  if (decide (p0=[40]))=true then (kU (decide (p0=[40]))) else (if (decide (p0=[41]))=true then (kU (decide (p0=[41]))) else (if (decide (p0=[44]))=true then (kU (decide (p0=[44]))) else (if (decide (p0=[46]))=true then (kU (decide (p0=[46]))) else (if (decide (p0=[42]))=true then (kU (decide (p0=[42]))) else (if (decide (p0=[43]))=true then (kU (decide (p0=[43]))) else (if (decide (p0=[45]))=true then (kU (decide (p0=[45]))) else (if (decide (p0=[47]))=true then (kU (decide (p0=[47]))) else (if (decide (p0=[37]))=true then (kU (decide (p0=[37]))) else (if (decide (p0=[61]))=true then (kU (decide (p0=[61]))) else (if (decide (p0=[60,62]))=true then (kU (decide (p0=[60,62]))) else (if (decide (p0=[60]))=true then (kU (decide (p0=[60]))) else (if (decide (p0=[60,61]))=true then (kU (decide (p0=[60,61]))) else (if (decide (p0=[62]))=true then (kU (decide (p0=[62]))) else (if (decide (p0=[62,61]))=true then (kU (decide (p0=[62,61]))) else (kU (decide (p0=[124,124])))))))))))))))))
def zW (p0:aJ):Option Bool :=
  if (decide (p0.kind=1))=true then ((aCw p0.text)>>=fun y1=>(if (true&&((decide (0<y1))==true))=true then M4 p0.text else some default)>>=fun y2=>(some (if (decide (0<y1))=true then (decide (y2=p0.text)) else false))>>=fun y3=>some y3) else (if (decide (p0.kind=2))=true then ((M3 p0.text)>>=fun y4=>some y4) else (if (decide (p0.kind=3))=true then ((yT p0.text)>>=fun y5=>some y5.2) else (if (decide (p0.kind=4))=true then (some (decide ((p0.text.length:Int)≤40))) else (if (decide (p0.kind=5))=true then ((aBg p0.text)>>=fun y6=>some y6) else (some false)))))
def uO (p0:aU) (p1:Int):Option Bool :=
  (nY p0 0)>>=fun y1=>(if (true&&((decide (y1.kind=p1))==true))=true then zW y1 else some default)>>=fun y2=>(some (if (decide (y1.kind=p1))=true then y2 else false))>>=fun y3=>some y3
def qF (p0:aU) (p1:Int):Option ((List UInt8)×aU) :=
  (nY p0 0)>>=fun y1=>(uO p0 p1)>>=fun y2=>(gX p0 y2)>>=fun y3=>if y3.bad=true then (some ([],y3)) else (some (y1.text,y3))
def Y2 (p0:aU):Option ((List UInt8)×aU) :=
  (jR p0 12)>>=fun y1=>if y1.1=true then ((qF y1.2 2)>>=fun y2=>some (y2.1,y2.2)) else (some ([],y1.2))
def aAr (y1:aA×aU) (y15:Bool×aU) (bF:Bool):Option (aA×aU) :=
  some (y1.1,(aU.mk y15.2.t y15.2.at_ bF))
mutual
def V6 (p1:Int) (x5:Int) (p0:aU):Option Int :=
  yV p1 p0 (IntKind.wrap .i64 (x5+1))
  partial_fixpoint
def yV (p1:Int) (p0:aU) (x5:Int):Option Int :=
  if (decide (x5≤14))=true then ((vG (aA.mk 4 x5 false (bJ.mk 0 0 []) [] [] ([]:List aA) ([]:List aX)))>>=fun y1=>if (!decide (y1=p1))=true then (V6 p1 x5 p0) else ((zY x5)>>=fun y2=>(nY p0 0)>>=fun y3=>(some (if (decide (y3.kind=y2.kind))=true then (decide (y3.text=y2.text)) else false))>>=fun y4=>if y4=true then (some x5) else (V6 p1 x5 p0))) else (some 0)
  partial_fixpoint
end
def vW (p0:aU) (p1:Int):Option Int :=
  yV p1 p0 1
def lF (p0:aU) (p1:List UInt8):Option Bool :=
  (nY p0 0)>>=fun y1=>(some (if (decide (y1.kind=5))=true then (decide (y1.text=p1)) else false))>>=fun y2=>some y2
def aA7 (iV:Int) (bL:Int) (bP:Bool) (eQ:Int) (fK:Int) (lX:List UInt8) (wQ:List UInt8) (xN:List UInt8) (xR:List aA) (wW:List aX) (bD:List aJ) (bC:Int) (bF:Bool):Option (aA×aU) :=
  some ((aA.mk iV bL bP (bJ.mk eQ fK lX) wQ xN xR wW),(aU.mk bD bC bF))
def X6 (rY:List UInt8) (sS:List UInt8) (bD:List aJ) (bC:Int) (bF:Bool):Option (aA×aU) :=
  some ((aA.mk 2 0 false (bJ.mk 0 0 []) rY sS ([]:List aA) ([]:List aX)),(aU.mk bD bC bF))
def aF2 (y3:Bool×aU) (bG:List bU) (dZ:List bR) (y29:(List aA)×aU) (kH:List dY) (lQ:Int) (wE:List aJ) (wR:Int) (yC:Bool):Option (aX×aU) :=
  some ((aX.mk y3.1 bG dZ y29.1 kH lQ),(aU.mk wE wR yC))
def X8 (y3:Bool×aU) (bG:List bU) (dZ:List bR) (y29:(List aA)×aU) (kH:List dY) (xI:List aJ) (vV:Int) (wG:Bool):Option (aX×aU) :=
  (jR (aU.mk xI vV wG) 11)>>=fun y47=>if y47.1=true then ((qF y47.2 3)>>=fun y48=>(yT y48.1)>>=fun y49=>aF2 y3 bG dZ y29 kH y49.1 y48.2.t y48.2.at_ y48.2.bad) else (aF2 y3 bG dZ y29 kH (-1) y47.2.t y47.2.at_ y47.2.bad)
def U4 (p0:aU):Option (bR×aU) :=
  (qF p0 2)>>=fun y1=>(Y2 y1.2)>>=fun y2=>some ((bR.mk y1.1 y2.1 ([]:List aA)),y2.2)
mutual
def Q4 (p0:aU):Option ((List aA)×aU) :=
  (jR p0 6)>>=fun y1=>if y1.1=true then ((fE y1.2 1)>>=fun y2=>some (([y2.1]:List aA),y2.2)) else (some (([]:List aA),y1.2))
  partial_fixpoint
def zG (p0:aU):Option (dY×aU) :=
  (fE p0 1)>>=fun y1=>(jR y1.2 10)>>=fun y2=>if y2.1=true then (some ((dY.mk y1.1 true),y2.2)) else ((jR y2.2 9)>>=fun y3=>some ((dY.mk y1.1 false),y3.2))
  partial_fixpoint
def vP (y3:Bool×aU) (bG:List bU) (dZ:List bR) (y29:(List aA)×aU) (gM:List dY) (nK:List aJ) (kX:Int×Bool):Option (aX×aU) :=
  (lF (aU.mk nK kX.1 kX.2) [44])>>=fun y43=>if y43=true then ((gX (aU.mk nK kX.1 kX.2) true)>>=fun y44=>(zG y44)>>=fun y45=>(appG 144 gM ([y45.1]:List dY))>>=fun y46=>vP y3 bG dZ y29 y46 y45.2.t (y45.2.at_,y45.2.bad)) else (X8 y3 bG dZ y29 gM nK kX.1 kX.2)
  partial_fixpoint
def Z5 (y3:Bool×aU) (bG:List bU) (dZ:List bR) (y22:bR×aU) (bP:List aA) (pW:List aJ) (nD:Int×Bool):Option (aX×aU) :=
  (appG 56 dZ ([(bR.mk y22.1.table y22.1.as_ bP)]:List bR))>>=fun y42=>qR y3 bG y42 pW nD.1 nD.2
  partial_fixpoint
def qR (y3:Bool×aU) (bG:List bU) (dZ:List bR) (kZ:List aJ) (lG:Int) (lD:Bool):Option (aX×aU) :=
  (lF (aU.mk kZ lG lD) [44])>>=fun y17=>(if (true&&(y17==false))=true then mW (aU.mk kZ lG lD) 4 else some (default:Bool))>>=fun y18=>(some (if y17=true then true else y18))>>=fun y19=>if y19=true then ((mW (aU.mk kZ lG lD) 4)>>=fun y20=>(gX (aU.mk kZ lG lD) true)>>=fun y21=>(U4 y21)>>=fun y22=>if y20=true then ((mW y22.2 5)>>=fun y23=>(gX y22.2 y23)>>=fun y24=>(fE y24 1)>>=fun y25=>Z5 y3 bG dZ y22 ([y25.1]:List aA) y25.2.t (y25.2.at_,y25.2.bad)) else (Z5 y3 bG dZ y22 y22.1.on_ y22.2.t (y22.2.at_,y22.2.bad))) else ((Q4 (aU.mk kZ lG lD))>>=fun y29=>(jR y29.2 7)>>=fun y30=>if y30.1=true then ((mW y30.2 8)>>=fun y31=>(gX y30.2 y31)>>=fun y32=>(zG y32)>>=fun y33=>(appG 144 [] ([y33.1]:List dY))>>=fun y34=>vP y3 bG dZ y29 y34 y33.2.t (y33.2.at_,y33.2.bad)) else (X8 y3 bG dZ y29 ([]:List dY) y30.2.t y30.2.at_ y30.2.bad))
  partial_fixpoint
def uG (y3:Bool×aU) (bG:List bU) (bD:List aJ) (bC:Int) (bF:Bool):Option (aX×aU) :=
  (lF (aU.mk bD bC bF) [44])>>=fun y6=>if y6=true then ((gX (aU.mk bD bC bF) true)>>=fun y7=>(H5 y7)>>=fun y8=>(appG 176 bG ([y8.1]:List bU))>>=fun y9=>uG y3 y9 y8.2.t y8.2.at_ y8.2.bad) else ((mW (aU.mk bD bC bF) 3)>>=fun y10=>(gX (aU.mk bD bC bF) y10)>>=fun y11=>(U4 y11)>>=fun y12=>(appG 56 [] ([y12.1]:List bR))>>=fun y13=>qR y3 bG y13 y12.2.t y12.2.at_ y12.2.bad)
  partial_fixpoint
def I1 (p0:aU):Option (aA×aU) :=
  (uO p0 3)>>=fun y1=>if y1=true then ((qF p0 3)>>=fun y2=>(yT y2.1)>>=fun y3=>some ((aA.mk 1 0 false (bJ.mk 1 y3.1 []) [] [] ([]:List aA) ([]:List aX)),y2.2)) else ((uO p0 4)>>=fun y4=>if y4=true then ((qF p0 4)>>=fun y5=>(aBs y5.1)>>=fun y6=>some ((aA.mk 1 0 false y6 [] [] ([]:List aA) ([]:List aX)),y5.2)) else ((jR p0 20)>>=fun y7=>if y7.1=true then (some ((aA.mk 1 0 false (bJ.mk 0 0 []) [] [] ([]:List aA) ([]:List aX)),y7.2)) else ((jR y7.2 21)>>=fun y8=>if y8.1=true then ((yE true)>>=fun y9=>some ((aA.mk 1 0 false y9 [] [] ([]:List aA) ([]:List aX)),y8.2)) else ((jR y8.2 22)>>=fun y10=>if y10.1=true then ((yE false)>>=fun y11=>some ((aA.mk 1 0 false y11 [] [] ([]:List aA) ([]:List aX)),y10.2)) else ((uO y10.2 2)>>=fun y12=>if y12=true then ((qF y10.2 2)>>=fun y13=>(lF y13.2 [46])>>=fun y14=>if y14=true then ((gX y13.2 true)>>=fun y15=>(qF y15 2)>>=fun y16=>X6 y13.1 y16.1 y16.2.t y16.2.at_ y16.2.bad) else (X6 [] y13.1 y13.2.t y13.2.at_ y13.2.bad)) else ((jR y10.2 19)>>=fun y17=>if y17.1=true then ((lF y17.2 [40])>>=fun y18=>(gX y17.2 y18)>>=fun y19=>(qP y19)>>=fun y20=>(lF y20.2 [41])>>=fun y21=>(gX y20.2 y21)>>=fun y22=>some ((aA.mk 9 0 false (bJ.mk 0 0 []) [] [] ([]:List aA) ([y20.1]:List aX)),y22)) else ((lF y17.2 [40])>>=fun y23=>(gX y17.2 y23)>>=fun y24=>if y24.bad=true then (some ((aA.mk 0 0 false (bJ.mk 0 0 []) [] [] ([]:List aA) ([]:List aX)),y24)) else ((fE y24 1)>>=fun y25=>(lF y25.2 [41])>>=fun y26=>(gX y25.2 y26)>>=fun y27=>some (y25.1,y27)))))))))
  partial_fixpoint
def yJ (p1:Int) (iV:Int) (bL:Int) (bP:Bool) (eQ:Int) (fK:Int) (fD:(List UInt8)×(List UInt8)×(List UInt8)×(List aA)×(List aX)×(List aJ)×Int×Bool):Option (aA×aU) :=
  if (!fD.2.2.2.2.2.2.2)=true then ((vW (aU.mk fD.2.2.2.2.2.1 fD.2.2.2.2.2.2.1 fD.2.2.2.2.2.2.2) p1)>>=fun y10=>if (decide (y10=0))=true then (aA7 iV bL bP eQ fK fD.1 fD.2.1 fD.2.2.1 fD.2.2.2.1 fD.2.2.2.2.1 fD.2.2.2.2.2.1 fD.2.2.2.2.2.2.1 fD.2.2.2.2.2.2.2) else ((gX (aU.mk fD.2.2.2.2.2.1 fD.2.2.2.2.2.2.1 fD.2.2.2.2.2.2.2) true)>>=fun y11=>(fE y11 (IntKind.wrap .i64 (p1+1)))>>=fun y12=>yJ p1 4 y10 false 0 0 ([],[],[],([(aA.mk iV bL bP (bJ.mk eQ fK fD.1) fD.2.1 fD.2.2.1 fD.2.2.2.1 fD.2.2.2.2.1),y12.1]:List aA),([]:List aX),y12.2.t,y12.2.at_,y12.2.bad))) else (aA7 iV bL bP eQ fK fD.1 fD.2.1 fD.2.2.1 fD.2.2.2.1 fD.2.2.2.2.1 fD.2.2.2.2.2.1 fD.2.2.2.2.2.2.1 fD.2.2.2.2.2.2.2)
  partial_fixpoint
def H7 (p2:Bool) (x8:List aA) (bD:List aJ) (bC:Int) (bF:Bool):Option (aA×aU) :=
  (lF (aU.mk bD bC bF) [44])>>=fun y8=>if y8=true then ((gX (aU.mk bD bC bF) true)>>=fun y9=>(fE y9 1)>>=fun y10=>(appG 136 x8 ([y10.1]:List aA))>>=fun y11=>H7 p2 y11 y10.2.t y10.2.at_ y10.2.bad) else ((lF (aU.mk bD bC bF) [41])>>=fun y12=>(gX (aU.mk bD bC bF) y12)>>=fun y13=>some ((aA.mk 7 0 p2 (bJ.mk 0 0 []) [] [] x8 ([]:List aX)),y13))
  partial_fixpoint
def aCf (p0:aU) (p1:aA) (p2:Bool):Option (aA×aU) :=
  (lF p0 [40])>>=fun y1=>(gX p0 y1)>>=fun y2=>(mW y2 1)>>=fun y3=>if y3=true then ((qP y2)>>=fun y4=>(lF y4.2 [41])>>=fun y5=>(gX y4.2 y5)>>=fun y6=>some ((aA.mk 8 0 p2 (bJ.mk 0 0 []) [] [] ([p1]:List aA) ([y4.1]:List aX)),y6)) else ((fE y2 1)>>=fun y7=>H7 p2 ([p1,y7.1]:List aA) y7.2.t y7.2.at_ y7.2.bad)
  partial_fixpoint
def aFj (p0:aU):Option (aA×aU) :=
  (fE p0 5)>>=fun y1=>(vW y1.2 4)>>=fun y2=>if (decide (0<y2))=true then ((gX y1.2 true)>>=fun y3=>(fE y3 5)>>=fun y4=>some ((aA.mk 4 y2 false (bJ.mk 0 0 []) [] [] ([y1.1,y4.1]:List aA) ([]:List aX)),y4.2)) else ((jR y1.2 16)>>=fun y5=>if y5.1=true then ((jR y5.2 15)>>=fun y6=>(mW y6.2 20)>>=fun y7=>(gX y6.2 y7)>>=fun y8=>some ((aA.mk 5 0 y6.1 (bJ.mk 0 0 []) [] [] ([y1.1]:List aA) ([]:List aX)),y8)) else ((jR y5.2 15)>>=fun y9=>(jR y9.2 18)>>=fun y10=>if y10.1=true then ((fE y10.2 5)>>=fun y11=>(mW y11.2 13)>>=fun y12=>(gX y11.2 y12)>>=fun y13=>(fE y13 5)>>=fun y14=>some ((aA.mk 6 0 y9.1 (bJ.mk 0 0 []) [] [] ([y1.1,y11.1,y14.1]:List aA) ([]:List aX)),y14.2)) else ((jR y10.2 17)>>=fun y15=>if y15.1=true then ((aCf y15.2 y1.1 y9.1)>>=fun y16=>some (y16.1,y16.2)) else (if y9.1=true then (aAr y1 y15 true) else (aAr y1 y15 y15.2.bad)))))
  partial_fixpoint
def fE (p0:aU) (p1:Int):Option (aA×aU) :=
  if (decide (p1=3))=true then ((jR p0 15)>>=fun y1=>if y1.1=true then ((fE y1.2 3)>>=fun y2=>some ((aA.mk 3 15 false (bJ.mk 0 0 []) [] [] ([y2.1]:List aA) ([]:List aX)),y2.2)) else ((fE y1.2 4)>>=fun y3=>some (y3.1,y3.2))) else (if (decide (p1=4))=true then ((aFj p0)>>=fun y4=>some (y4.1,y4.2)) else (if (decide (p1=8))=true then ((lF p0 [45])>>=fun y5=>if y5=true then ((gX p0 true)>>=fun y6=>(fE y6 8)>>=fun y7=>some ((aA.mk 3 16 false (bJ.mk 0 0 []) [] [] ([y7.1]:List aA) ([]:List aX)),y7.2)) else ((I1 p0)>>=fun y8=>some (y8.1,y8.2))) else ((fE p0 (IntKind.wrap .i64 (p1+1)))>>=fun y9=>yJ p1 y9.1.kind y9.1.op y9.1.not_ y9.1.value.kind y9.1.value.num (y9.1.value.text,y9.1.qual,y9.1.name,y9.1.kids,y9.1.sub,y9.2.t,y9.2.at_,y9.2.bad))))
  partial_fixpoint
def H5 (p0:aU):Option (bU×aU) :=
  (nY p0 1)>>=fun y1=>(nY p0 2)>>=fun y2=>(lF p0 [42])>>=fun y3=>if y3=true then ((gX p0 true)>>=fun y4=>some ((bU.mk true [] (aA.mk 0 0 false (bJ.mk 0 0 []) [] [] ([]:List aA) ([]:List aX)) []),y4)) else ((uO p0 2)>>=fun y5=>(some (if y5=true then (decide (y1.kind=5)) else false))>>=fun y6=>(some (if y6=true then (decide (y1.text=[46])) else false))>>=fun y7=>(some (if y7=true then (decide (y2.kind=5)) else false))>>=fun y8=>(some (if y8=true then (decide (y2.text=[42])) else false))>>=fun y9=>if y9=true then ((qF p0 2)>>=fun y10=>(gX y10.2 true)>>=fun y11=>(gX y11 true)>>=fun y12=>some ((bU.mk true y10.1 (aA.mk 0 0 false (bJ.mk 0 0 []) [] [] ([]:List aA) ([]:List aX)) []),y12)) else ((fE p0 1)>>=fun y13=>(Y2 y13.2)>>=fun y14=>some ((bU.mk false [] y13.1 y14.1),y14.2)))
  partial_fixpoint
def qP (p0:aU):Option (aX×aU) :=
  (mW p0 1)>>=fun y1=>(gX p0 y1)>>=fun y2=>(jR y2 2)>>=fun y3=>(H5 y3.2)>>=fun y4=>(appG 176 [] ([y4.1]:List bU))>>=fun y5=>uG y3 y5 y4.2.t y4.2.at_ y4.2.bad
  partial_fixpoint
end
def aC3 (p0:List aJ):Option (aX×Int) :=
  (qP (aU.mk p0 0 false))>>=fun y1=>(aAu y1.2)>>=fun y2=>if (decide (0≤y2))=true then (some ((aX.mk false ([]:List bU) ([]:List bR) ([]:List aA) ([]:List dY) 0),y2)) else (some (y1.1,(-1)))
def aFr (p0:List Int):Option Bool :=
  some (decide (1048576<(p0.length:Int)))
def aBt (p0:List Int):Option (List Int) :=
  if (decide ((p0.length:Int)=0))=true then (some p0) else ((oH p0 1 (p0.length:Int))>>=fun y1=>some y1)
def aCj (p0:List Int):Option Bool :=
  (aFr p0)>>=fun y1=>if y1=true then (some true) else ((aD3 p0)>>=fun y2=>(O0 y2)>>=fun y3=>(aC3 y2)>>=fun y4=>if (!decide (y3.2=y4.2))=true then (some false) else ((appG 32 ([]:List aJ) y2)>>=fun y5=>(aBt p0)>>=fun y6=>(aCp y6)>>=fun y7=>(appG 32 y5 y7)>>=fun y8=>(O0 y8)>>=fun y9=>(some (if (decide (y3.2<0))=true then true else (decide (y3.2=(y2.length:Int)))))>>=fun y10=>(some (if y10=true then true else (decide (y9.2=y3.2))))>>=fun y11=>some y11))
end Go.Ab
