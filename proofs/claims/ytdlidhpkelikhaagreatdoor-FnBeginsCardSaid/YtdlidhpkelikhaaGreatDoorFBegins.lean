/- The functions of the program,as Lean functions (printed by a program). -/
import Derived.Test.YtdlidhpkelikhaaGreatDoorAbF1
namespace Go.Ab
open Go
structure aJ where
  kind:Int
  text:(List UInt8)
  at_:Int
instance:Inhabited aJ:=⟨(aJ.mk 0 [] 0)⟩
structure bJ where
  kind:Int
  num:Int
  text:(List UInt8)
instance:Inhabited bJ:=⟨(bJ.mk 0 0 [])⟩
mutual
structure aA where
  kind:Int
  op:Int
  not_:Bool
  value:bJ
  qual:(List UInt8)
  name:(List UInt8)
  kids:(List aA)
  sub:(List aY)
structure bV where
  star:Bool
  qual:(List UInt8)
  expr:aA
  as_:(List UInt8)
structure aY where
  distinct:Bool
  items:(List bV)
  from_:(List bR)
  where_:(List aA)
  order:(List eB)
  limit:Int
structure eB where
  expr:aA
  desc:Bool
structure bR where
  table:(List UInt8)
  as_:(List UInt8)
  on_:(List aA)
end
instance:Inhabited aA:=⟨(aA.mk 0 0 false (bJ.mk 0 0 []) [] [] [] [])⟩
instance:Inhabited bV:=⟨(bV.mk false [] (aA.mk 0 0 false (bJ.mk 0 0 []) [] [] [] []) [])⟩
instance:Inhabited aY:=⟨(aY.mk false [] [] [] [] 0)⟩
instance:Inhabited eB:=⟨(eB.mk (aA.mk 0 0 false (bJ.mk 0 0 []) [] [] [] []) false)⟩
instance:Inhabited bR:=⟨(bR.mk [] [] [])⟩
structure aP where
  list:(List aJ)
  at_:Int
  failed:Bool
instance:Inhabited aP:=⟨(aP.mk [] 0 false)⟩
structure aQ where
  b:(List Int)
  i:Int
  h:Int
instance:Inhabited aQ:=⟨(aQ.mk [] 0 0)⟩
structure aU where
  t:(List aJ)
  at_:Int
  bad:Bool
instance:Inhabited aU:=⟨(aU.mk [] 0 false)⟩
def okGToken (x:aJ):Prop:=okI x.kind∧okS x.text∧okI x.at_
def okGValue (x:bJ):Prop:=okI x.kind∧okI x.num∧okS x.text
mutual
def okGExpr:aA→Prop
  | ⟨a0,a1,a2,a3,a4,a5,a6,a7⟩=>okI a0∧okI a1∧okB a2∧okGValue a3∧okS a4∧okS a5∧(a6.length≤9223372036854775807∧okLGExpr a6)∧(a7.length≤9223372036854775807∧okLGQuery a7)
def okGItem:bV→Prop
  | ⟨a0,a1,a2,a3⟩=>okB a0∧okS a1∧okGExpr a2∧okS a3
def okGQuery:aY→Prop
  | ⟨a0,a1,a2,a3,a4,a5⟩=>okB a0∧(a1.length≤9223372036854775807∧okLGItem a1)∧(a2.length≤9223372036854775807∧okLGSource a2)∧(a3.length≤9223372036854775807∧okLGExpr a3)∧(a4.length≤9223372036854775807∧okLGSortKey a4)∧okI a5
def okGSortKey:eB→Prop
  | ⟨a0,a1⟩=>okGExpr a0∧okB a1
def okGSource:bR→Prop
  | ⟨a0,a1,a2⟩=>okS a0∧okS a1∧(a2.length≤9223372036854775807∧okLGExpr a2)
def okLGExpr:List aA→Prop
  | []=>True
  | x::l=>okGExpr x∧okLGExpr l
def okLGItem:List bV→Prop
  | []=>True
  | x::l=>okGItem x∧okLGItem l
def okLGQuery:List aY→Prop
  | []=>True
  | x::l=>okGQuery x∧okLGQuery l
def okLGSortKey:List eB→Prop
  | []=>True
  | x::l=>okGSortKey x∧okLGSortKey l
def okLGSource:List bR→Prop
  | []=>True
  | x::l=>okGSource x∧okLGSource l
end
def okGParser (x:aP):Prop:=(okL okGToken) x.list∧okI x.at_∧okB x.failed
def okGL1Cur (x:aQ):Prop:=(okL okU8) x.b∧okI x.i∧okI x.h
def okGL12In (x:aU):Prop:=(okL okGToken) x.t∧okI x.at_∧okB x.bad
def aBd (p0:aP):Option Int :=
  (some (if p0.failed=true then true else (decide (p0.at_<(p0.list.length:Int)))))>>=fun y1=>if y1=true then (some p0.at_) else (some (-1))
def rA (p0:Int) (p1:aA) (p2:aA):Option aA :=
  some (aA.mk 4 p0 false (bJ.mk 0 0 []) [] [] ([p1,p2]:List aA) ([]:List aY))
def aHb (bG:Int):Option bJ :=
  some (bJ.mk 3 bG [])
def P8 (p0:Bool):Option bJ :=
  if p0=true then (aHb 1) else (aHb 0)
def aH9 (p0:Int):Option bJ :=
  some (bJ.mk 1 p0 [])
def qH (p0:bJ):Option aA :=
  some (aA.mk 1 0 false p0 [] [] ([]:List aA) ([]:List aY))
def aFo (x3:List Int):Option (List UInt8) :=
  (ofBytes x3)>>=fun y3=>some y3
mutual
def D7 (p0:List UInt8) (x10:Int) (nD:List Int):Option (List UInt8) :=
  C8 p0 (IntKind.wrap .i64 (x10+1)) nD
  partial_fixpoint
def C8 (p0:List UInt8) (x10:Int) (iQ:List Int):Option (List UInt8) :=
  if (decide (x10<((jO p0).length:Int)))=true then ((idx iQ x10)>>=fun y1=>(some (if (decide (97≤y1))=true then (decide (y1≤122)) else false))>>=fun y2=>if y2=true then (D7 p0 x10 (iQ.set (x10).toNat (IntKind.wrap .u8 ((IntKind.wrap .u8 (y1 - 97))+65)))) else (D7 p0 x10 (iQ.set (x10).toNat y1))) else (aFo iQ)
  partial_fixpoint
end
def O9 (p0:List UInt8):Option (List UInt8) :=
  C8 p0 0 (jO p0)
def oH (p0:List (List UInt8)) (p1:List UInt8) (x8:Int):Option Int :=
  if (decide (x8<(p0.length:Int)))=true then ((idx p0 x8)>>=fun y1=>if (decide (p1=y1))=true then (some x8) else (oH p0 p1 (IntKind.wrap .i64 (x8+1)))) else (some (-1))
  partial_fixpoint
def L9 (p0:List (List UInt8)) (p1:List UInt8):Option Int :=
  oH p0 p1 0
def aIo (p0:List UInt8) (p1:List UInt8):Option (List (List UInt8)) :=
  aJ1 p0 p1
def aHs:Option (List (List UInt8)) :=
  (aIo [83,69,76,69,67,84,32,68,73,83,84,73,78,67,84,32,70,82,79,77,32,74,79,73,78,32,79,78,32,87,72,69,82,69,32,79,82,68,69,82,32,66,89,32,65,83,67,32,68,69,83,67,32,76,73,77,73,84,32,65,83,32,65,78,68,32,79,82,32,78,79,84,32,73,83,32,73,78,32,66,69,84,87,69,69,78,32,69,88,73,83,84,83,32,78,85,76,76,32,84,82,85,69,32,70,65,76,83,69,32,73,78,83,69,82,84,32,73,78,84,79,32,86,65,76,85,69,83,32,85,80,68,65,84,69,32,83,69,84,32,68,69,76,69,84,69] [32])>>=fun y1=>some y1
def Y4 (p0:List UInt8):Option Int :=
  (aHs)>>=fun y1=>(O9 p0)>>=fun y2=>(L9 y1 y2)>>=fun y3=>some (IntKind.wrap .i64 (y3+1))
def aC0 (p0:List UInt8):Option Bool :=
  (some (if (decide (1≤(p0.length:Int)))=true then (decide ((p0.length:Int)≤20)) else false))>>=fun y1=>some y1
def vR (p0:List UInt8):Option (Int×Bool) :=
  aAx p0
def aFu (p0:List (List UInt8)) (p1:List UInt8):Option Bool :=
  (L9 p0 p1)>>=fun y1=>some (decide (0≤y1))
def aE1:Option (List (List UInt8)) :=
  some ([[40],[41],[44],[46],[42],[43],[45],[47],[37],[61],[60,62],[60],[60,61],[62],[62,61],[124,124]]:List (List UInt8))
def aCj (p0:List UInt8):Option Bool :=
  (aE1)>>=fun y1=>(aFu y1 p0)>>=fun y2=>some y2
def O3 (p0:aJ):Option Bool :=
  if (decide (p0.kind=1))=true then ((Y4 p0.text)>>=fun y1=>(if (true&&((!decide (y1=0))==true))=true then O9 p0.text else some default)>>=fun y2=>(some (if (!decide (y1=0))=true then (decide (y2=p0.text)) else false))>>=fun y3=>some y3) else (if (decide (p0.kind=2))=true then ((aC0 p0.text)>>=fun y4=>some y4) else (if (decide (p0.kind=3))=true then ((vR p0.text)>>=fun y5=>some y5.2) else (if (decide (p0.kind=4))=true then (some (decide ((p0.text.length:Int)≤40))) else (if (decide (p0.kind=5))=true then ((aCj p0.text)>>=fun y6=>some y6) else (some false)))))
def uJ (p0:aP) (p1:Int):Option Bool :=
  (some (if (!p0.failed)=true then (decide (p0.at_<(p0.list.length:Int))) else false))>>=fun y1=>(if (true&&(y1==true))=true then idx p0.list p0.at_ else some default)>>=fun y2=>(some (if y1=true then (decide (y2.kind=p1)) else false))>>=fun y3=>(if (true&&(y3==true))=true then idx p0.list p0.at_ else some default)>>=fun y4=>(if (true&&(y3==true))=true then O3 y4 else some default)>>=fun y5=>(some (if y3=true then y5 else false))>>=fun y6=>some y6
def qR (p0:aP) (p1:Int):Option ((List UInt8)×aP) :=
  (uJ p0 p1)>>=fun y1=>if (!y1)=true then (some ([],(aP.mk p0.list p0.at_ true))) else ((idx p0.list (IntKind.wrap .i64 ((IntKind.wrap .i64 (p0.at_+1)) - 1)))>>=fun y2=>some (y2.text,(aP.mk p0.list (IntKind.wrap .i64 (p0.at_+1)) p0.failed)))
def Z7 (p0:aP):Option (Int×aP) :=
  (qR p0 3)>>=fun y1=>(vR y1.1)>>=fun y2=>some (y2.1,y1.2)
def oJ (p0:aP) (p1:Int) (p2:Int) (p3:List UInt8):Option Bool :=
  (some (if (!p0.failed)=true then (decide ((IntKind.wrap .i64 (p0.at_+p1))<(p0.list.length:Int))) else false))>>=fun y1=>(if (true&&(y1==true))=true then idx p0.list (IntKind.wrap .i64 (p0.at_+p1)) else some default)>>=fun y2=>(some (if y1=true then (decide (y2.kind=p2)) else false))>>=fun y3=>(if (true&&(y3==true))=true then idx p0.list (IntKind.wrap .i64 (p0.at_+p1)) else some default)>>=fun y4=>(some (if y3=true then (decide (y4.text=p3)) else false))>>=fun y5=>some y5
def aB5 (p0:aP) (p1:List UInt8):Option Bool :=
  (oJ p0 0 5 p1)>>=fun y1=>some y1
def aBn (y1:Bool) (p0:aP) (bC:Int):Option (Bool×aP) :=
  some (y1,(aP.mk p0.list bC p0.failed))
def oQ (p0:aP) (p1:List UInt8):Option (Bool×aP) :=
  (aB5 p0 p1)>>=fun y1=>if y1=true then (aBn y1 p0 (IntKind.wrap .i64 (p0.at_+1))) else (aBn y1 p0 p0.at_)
def vQ (p0:aP) (p1:List UInt8):Option aP :=
  (oQ p0 p1)>>=fun y1=>if (!y1.1)=true then (some (aP.mk y1.2.list y1.2.at_ true)) else (some y1.2)
def N8 (p0:aP) (p1:List UInt8):Option Bool :=
  (oJ p0 0 1 p1)>>=fun y1=>some y1
def aB2 (y1:Bool) (p0:aP) (bC:Int):Option (Bool×aP) :=
  some (y1,(aP.mk p0.list bC p0.failed))
def jE (p0:aP) (p1:List UInt8):Option (Bool×aP) :=
  (N8 p0 p1)>>=fun y1=>if y1=true then (aB2 y1 p0 (IntKind.wrap .i64 (p0.at_+1))) else (aB2 y1 p0 p0.at_)
def O1 (p0:aP):Option ((List UInt8)×aP) :=
  (jE p0 [65,83])>>=fun y1=>if y1.1=true then ((qR y1.2 2)>>=fun y2=>some (y2.1,y2.2)) else (some ([],y1.2))
def tL (p0:aP) (p1:List UInt8):Option aP :=
  (jE p0 p1)>>=fun y1=>if (!y1.1)=true then (some (aP.mk y1.2.list y1.2.at_ true)) else (some y1.2)
def aA9 (y1:aA×aP) (yA:Bool) (bD:List aJ) (bC:Int) (bF:Bool):Option (eB×aP) :=
  some ((eB.mk y1.1 yA),(aP.mk bD bC bF))
def aDu (y2:Bool×aP) (bG:List bV) (y8:(List bR)×aP) (y9:(List aA)×aP) (kE:List eB) (lK:Int) (yT:List aJ) (xC:Int) (wH:Bool):Option (aY×aP) :=
  some ((aY.mk y2.1 bG y8.1 y9.1 kE lK),(aP.mk yT xC wH))
def Z5 (y2:Bool×aP) (bG:List bV) (y8:(List bR)×aP) (y9:(List aA)×aP) (kE:List eB) (wQ:List aJ) (wU:Int) (wP:Bool):Option (aY×aP) :=
  (jE (aP.mk wQ wU wP) [76,73,77,73,84])>>=fun y23=>if y23.1=true then ((Z7 y23.2)>>=fun y24=>aDu y2 bG y8 y9 kE y24.1 y24.2.list y24.2.at_ y24.2.failed) else (aDu y2 bG y8 y9 kE (-1) y23.2.list y23.2.at_ y23.2.failed)
def E8 (p0:aP):Option (bR×aP) :=
  (qR p0 2)>>=fun y1=>(O1 y1.2)>>=fun y2=>some ((bR.mk y1.1 y2.1 ([]:List aA)),y2.2)
def aFg (p0:List UInt8):Option bJ :=
  some (bJ.mk 2 0 p0)
def yZ (p0:Int):Option (List UInt8) :=
  (some (if (decide (p0<1))=true then true else (decide (16<p0))))>>=fun y1=>if y1=true then (some []) else ((idx ([[79,82],[65,78,68],[61],[60,62],[60],[60,61],[62],[62,61],[124,124],[43],[45],[42],[47],[37],[78,79,84],[45]]:List (List UInt8)) (IntKind.wrap .i64 (p0 - 1)))>>=fun y2=>some y2)
mutual
def zG (y1:Int) (p1:List Int) (x10:Int) (p0:aP) (x7:Int):Option (Int×aP) :=
  (yZ y1)>>=fun y3=>(oJ p0 0 x7 y3)>>=fun y4=>if y4=true then (some (y1,(aP.mk p0.list (IntKind.wrap .i64 (p0.at_+1)) p0.failed))) else (zH p1 p0 (IntKind.wrap .i64 (x10+1)))
  partial_fixpoint
def zH (p1:List Int) (p0:aP) (x10:Int):Option (Int×aP) :=
  if (decide (x10<(p1.length:Int)))=true then ((idx p1 x10)>>=fun y1=>(some (if (decide (y1=1))=true then true else (decide (y1=2))))>>=fun y2=>if y2=true then (zG y1 p1 x10 p0 1) else (zG y1 p1 x10 p0 5)) else (some (0,p0))
  partial_fixpoint
end
def nQ (p0:aP) (p1:List Int):Option (Int×aP) :=
  zH p1 p0 0
def Q4 (p2:Bool) (dF:Int) (vY:List aA) (wX:List aY) (bD:List aJ) (bC:Int) (bF:Bool):Option (aA×aP) :=
  (vQ (aP.mk bD bC bF) [41])>>=fun y6=>some ((aA.mk dF 0 p2 (bJ.mk 0 0 []) [] [] vY wX),y6)
mutual
def zN (p2:List Int) (dF:Int) (dJ:Int) (dW:Bool) (dN:Int) (dR:Int) (bH:(List UInt8)×(List UInt8)×(List UInt8)×(List aA)×(List aY)×(List aJ)×Int×Bool):Option (aA×aP) :=
  (nQ (aP.mk bH.2.2.2.2.2.1 bH.2.2.2.2.2.2.1 bH.2.2.2.2.2.2.2) p2)>>=fun y2=>if (decide (y2.1=0))=true then (some ((aA.mk dF dJ dW (bJ.mk dN dR bH.1) bH.2.1 bH.2.2.1 bH.2.2.2.1 bH.2.2.2.2.1),y2.2)) else ((zY y2.2)>>=fun y3=>(rA y2.1 (aA.mk dF dJ dW (bJ.mk dN dR bH.1) bH.2.1 bH.2.2.1 bH.2.2.2.1 bH.2.2.2.2.1) y3.1)>>=fun y4=>zN p2 y4.kind y4.op y4.not_ y4.value.kind y4.value.num (y4.value.text,y4.qual,y4.name,y4.kids,y4.sub,y3.2.list,y3.2.at_,y3.2.failed))
  partial_fixpoint
def H6 (x3:List aA) (bD:List aJ) (bC:Int) (bF:Bool):Option ((List aA)×aP) :=
  (oQ (aP.mk bD bC bF) [44])>>=fun y2=>if y2.1=true then ((jL y2.2)>>=fun y3=>(appG 136 x3 ([y3.1]:List aA))>>=fun y4=>H6 y4 y3.2.list y3.2.at_ y3.2.failed) else (some (x3,y2.2))
  partial_fixpoint
def aHc (p0:aP):Option ((List aA)×aP) :=
  (jL p0)>>=fun y1=>H6 ([y1.1]:List aA) y1.2.list y1.2.at_ y1.2.failed
  partial_fixpoint
def aAc (p0:aP) (p1:aA) (p2:Bool):Option (aA×aP) :=
  (vQ p0 [40])>>=fun y1=>(N8 y1 [83,69,76,69,67,84])>>=fun y2=>if y2=true then ((vP y1)>>=fun y3=>Q4 p2 8 ([p1]:List aA) ([y3.1]:List aY) y3.2.list y3.2.at_ y3.2.failed) else ((aHc y1)>>=fun y4=>(appG 136 ([p1]:List aA) y4.1)>>=fun y5=>Q4 p2 7 y5 ([]:List aY) y4.2.list y4.2.at_ y4.2.failed)
  partial_fixpoint
def aBs (p0:aP):Option ((List aA)×aP) :=
  (jE p0 [87,72,69,82,69])>>=fun y1=>if y1.1=true then ((jL y1.2)>>=fun y2=>some (([y2.1]:List aA),y2.2)) else (some (([]:List aA),y1.2))
  partial_fixpoint
def sF (x3:List bR) (bD:List aJ) (bC:Int) (bF:Bool):Option ((List bR)×aP) :=
  (oQ (aP.mk bD bC bF) [44])>>=fun y2=>if y2.1=true then ((E8 y2.2)>>=fun y3=>(appG 56 x3 ([y3.1]:List bR))>>=fun y4=>sF y4 y3.2.list y3.2.at_ y3.2.failed) else ((jE y2.2 [74,79,73,78])>>=fun y5=>if y5.1=true then ((E8 y5.2)>>=fun y6=>(tL y6.2 [79,78])>>=fun y7=>(jL y7)>>=fun y8=>(appG 56 x3 ([(bR.mk y6.1.table y6.1.as_ ([y8.1]:List aA))]:List bR))>>=fun y9=>sF y9 y8.2.list y8.2.at_ y8.2.failed) else (some (x3,y5.2)))
  partial_fixpoint
def aI4 (p0:aP):Option ((List bR)×aP) :=
  (E8 p0)>>=fun y1=>sF ([y1.1]:List bR) y1.2.list y1.2.at_ y1.2.failed
  partial_fixpoint
def uB (y2:Bool×aP) (bG:List bV) (y8:(List bR)×aP) (y9:(List aA)×aP) (gM:List eB) (nI:List aJ) (lJ:Int×Bool):Option (aY×aP) :=
  (oQ (aP.mk nI lJ.1 lJ.2) [44])>>=fun y20=>if y20.1=true then ((yY y20.2)>>=fun y21=>(appG 144 gM ([y21.1]:List eB))>>=fun y22=>uB y2 bG y8 y9 y22 y21.2.list (y21.2.at_,y21.2.failed)) else (Z5 y2 bG y8 y9 gM y20.2.list y20.2.at_ y20.2.failed)
  partial_fixpoint
def yY (p0:aP):Option (eB×aP) :=
  (jL p0)>>=fun y1=>(jE y1.2 [65,83,67])>>=fun y2=>if (!y2.1)=true then ((jE y2.2 [68,69,83,67])>>=fun y3=>aA9 y1 y3.1 y3.2.list y3.2.at_ y3.2.failed) else (aA9 y1 false y2.2.list y2.2.at_ y2.2.failed)
  partial_fixpoint
def vH (y2:Bool×aP) (bG:List bV) (bD:List aJ) (bC:Int) (bF:Bool):Option (aY×aP) :=
  (oQ (aP.mk bD bC bF) [44])>>=fun y4=>if y4.1=true then ((yU y4.2)>>=fun y5=>(appG 176 bG ([y5.1]:List bV))>>=fun y6=>vH y2 y6 y5.2.list y5.2.at_ y5.2.failed) else ((tL y4.2 [70,82,79,77])>>=fun y7=>(aI4 y7)>>=fun y8=>(aBs y8.2)>>=fun y9=>(jE y9.2 [79,82,68,69,82])>>=fun y10=>if y10.1=true then ((tL y10.2 [66,89])>>=fun y11=>(yY y11)>>=fun y12=>uB y2 bG y8 y9 ([y12.1]:List eB) y12.2.list (y12.2.at_,y12.2.failed)) else (Z5 y2 bG y8 y9 ([]:List eB) y10.2.list y10.2.at_ y10.2.failed))
  partial_fixpoint
def yU (p0:aP):Option (bV×aP) :=
  (oQ p0 [42])>>=fun y1=>if y1.1=true then (some ((bV.mk true [] (aA.mk 0 0 false (bJ.mk 0 0 []) [] [] ([]:List aA) ([]:List aY)) []),y1.2)) else ((uJ y1.2 2)>>=fun y2=>(if (true&&(y2==true))=true then oJ y1.2 1 5 [46] else some (default:Bool))>>=fun y3=>(some (if y2=true then y3 else false))>>=fun y4=>(if (true&&(y4==true))=true then oJ y1.2 2 5 [42] else some (default:Bool))>>=fun y5=>(some (if y4=true then y5 else false))>>=fun y6=>if y6=true then ((qR y1.2 2)>>=fun y7=>some ((bV.mk true y7.1 (aA.mk 0 0 false (bJ.mk 0 0 []) [] [] ([]:List aA) ([]:List aY)) []),(aP.mk y7.2.list (IntKind.wrap .i64 (y7.2.at_+2)) y7.2.failed))) else ((jL y1.2)>>=fun y8=>(O1 y8.2)>>=fun y9=>some ((bV.mk false [] y8.1 y9.1),y9.2)))
  partial_fixpoint
def vP (p0:aP):Option (aY×aP) :=
  (tL p0 [83,69,76,69,67,84])>>=fun y1=>(jE y1 [68,73,83,84,73,78,67,84])>>=fun y2=>(yU y2.2)>>=fun y3=>vH y2 ([y3.1]:List bV) y3.2.list y3.2.at_ y3.2.failed
  partial_fixpoint
def A8 (p0:aP):Option (aA×aP) :=
  (uJ p0 3)>>=fun y1=>if y1=true then ((Z7 p0)>>=fun y2=>(aH9 y2.1)>>=fun y3=>(qH y3)>>=fun y4=>some (y4,y2.2)) else ((uJ p0 4)>>=fun y5=>if y5=true then ((qR p0 4)>>=fun y6=>(aFg y6.1)>>=fun y7=>(qH y7)>>=fun y8=>some (y8,y6.2)) else ((jE p0 [78,85,76,76])>>=fun y9=>if y9.1=true then ((qH (bJ.mk 0 0 []))>>=fun y10=>some (y10,y9.2)) else ((jE y9.2 [84,82,85,69])>>=fun y11=>if y11.1=true then ((P8 true)>>=fun y12=>(qH y12)>>=fun y13=>some (y13,y11.2)) else ((jE y11.2 [70,65,76,83,69])>>=fun y14=>if y14.1=true then ((P8 false)>>=fun y15=>(qH y15)>>=fun y16=>some (y16,y14.2)) else ((uJ y14.2 2)>>=fun y17=>if y17=true then ((qR y14.2 2)>>=fun y18=>(oQ y18.2 [46])>>=fun y19=>if y19.1=true then ((qR y19.2 2)>>=fun y20=>some ((aA.mk 2 0 false (bJ.mk 0 0 []) y18.1 y20.1 ([]:List aA) ([]:List aY)),y20.2)) else (some ((aA.mk 2 0 false (bJ.mk 0 0 []) [] y18.1 ([]:List aA) ([]:List aY)),y19.2))) else ((oQ y14.2 [40])>>=fun y21=>if y21.1=true then ((jL y21.2)>>=fun y22=>(vQ y22.2 [41])>>=fun y23=>some (y22.1,y23)) else ((jE y21.2 [69,88,73,83,84,83])>>=fun y24=>if y24.1=true then ((vQ y24.2 [40])>>=fun y25=>(vP y25)>>=fun y26=>(vQ y26.2 [41])>>=fun y27=>some ((aA.mk 9 0 false (bJ.mk 0 0 []) [] [] ([]:List aA) ([y26.1]:List aY)),y27)) else (some ((aA.mk 0 0 false (bJ.mk 0 0 []) [] [] ([]:List aA) ([]:List aY)),(aP.mk y24.2.list y24.2.at_ true))))))))))
  partial_fixpoint
def tC (p0:aP):Option (aA×aP) :=
  (oQ p0 [45])>>=fun y1=>if y1.1=true then ((tC y1.2)>>=fun y2=>some ((aA.mk 3 16 false (bJ.mk 0 0 []) [] [] ([y2.1]:List aA) ([]:List aY)),y2.2)) else ((A8 y1.2)>>=fun y3=>some (y3.1,y3.2))
  partial_fixpoint
def V7 (p2:List Int) (dF:Int) (dJ:Int) (dW:Bool) (dN:Int) (dR:Int) (bH:(List UInt8)×(List UInt8)×(List UInt8)×(List aA)×(List aY)×(List aJ)×Int×Bool):Option (aA×aP) :=
  (nQ (aP.mk bH.2.2.2.2.2.1 bH.2.2.2.2.2.2.1 bH.2.2.2.2.2.2.2) p2)>>=fun y2=>if (decide (y2.1=0))=true then (some ((aA.mk dF dJ dW (bJ.mk dN dR bH.1) bH.2.1 bH.2.2.1 bH.2.2.2.1 bH.2.2.2.2.1),y2.2)) else ((tC y2.2)>>=fun y3=>(rA y2.1 (aA.mk dF dJ dW (bJ.mk dN dR bH.1) bH.2.1 bH.2.2.1 bH.2.2.2.1 bH.2.2.2.2.1) y3.1)>>=fun y4=>V7 p2 y4.kind y4.op y4.not_ y4.value.kind y4.value.num (y4.value.text,y4.qual,y4.name,y4.kids,y4.sub,y3.2.list,y3.2.at_,y3.2.failed))
  partial_fixpoint
def aBl (p0:aP) (p2:List Int):Option (aA×aP) :=
  (tC p0)>>=fun y1=>V7 p2 y1.1.kind y1.1.op y1.1.not_ y1.1.value.kind y1.1.value.num (y1.1.value.text,y1.1.qual,y1.1.name,y1.1.kids,y1.1.sub,y1.2.list,y1.2.at_,y1.2.failed)
  partial_fixpoint
def zO (p0:aP):Option (aA×aP) :=
  (aBl p0 ([12,13,14]:List Int))>>=fun y1=>some (y1.1,y1.2)
  partial_fixpoint
def U2 (p2:List Int) (dF:Int) (dJ:Int) (dW:Bool) (dN:Int) (dR:Int) (bH:(List UInt8)×(List UInt8)×(List UInt8)×(List aA)×(List aY)×(List aJ)×Int×Bool):Option (aA×aP) :=
  (nQ (aP.mk bH.2.2.2.2.2.1 bH.2.2.2.2.2.2.1 bH.2.2.2.2.2.2.2) p2)>>=fun y2=>if (decide (y2.1=0))=true then (some ((aA.mk dF dJ dW (bJ.mk dN dR bH.1) bH.2.1 bH.2.2.1 bH.2.2.2.1 bH.2.2.2.2.1),y2.2)) else ((zO y2.2)>>=fun y3=>(rA y2.1 (aA.mk dF dJ dW (bJ.mk dN dR bH.1) bH.2.1 bH.2.2.1 bH.2.2.2.1 bH.2.2.2.2.1) y3.1)>>=fun y4=>U2 p2 y4.kind y4.op y4.not_ y4.value.kind y4.value.num (y4.value.text,y4.qual,y4.name,y4.kids,y4.sub,y3.2.list,y3.2.at_,y3.2.failed))
  partial_fixpoint
def aBa (p0:aP) (p2:List Int):Option (aA×aP) :=
  (zO p0)>>=fun y1=>U2 p2 y1.1.kind y1.1.op y1.1.not_ y1.1.value.kind y1.1.value.num (y1.1.value.text,y1.1.qual,y1.1.name,y1.1.kids,y1.1.sub,y1.2.list,y1.2.at_,y1.2.failed)
  partial_fixpoint
def zL (p0:aP):Option (aA×aP) :=
  (aBa p0 ([10,11]:List Int))>>=fun y1=>some (y1.1,y1.2)
  partial_fixpoint
def X4 (p2:List Int) (dF:Int) (dJ:Int) (dW:Bool) (dN:Int) (dR:Int) (bH:(List UInt8)×(List UInt8)×(List UInt8)×(List aA)×(List aY)×(List aJ)×Int×Bool):Option (aA×aP) :=
  (nQ (aP.mk bH.2.2.2.2.2.1 bH.2.2.2.2.2.2.1 bH.2.2.2.2.2.2.2) p2)>>=fun y2=>if (decide (y2.1=0))=true then (some ((aA.mk dF dJ dW (bJ.mk dN dR bH.1) bH.2.1 bH.2.2.1 bH.2.2.2.1 bH.2.2.2.2.1),y2.2)) else ((zL y2.2)>>=fun y3=>(rA y2.1 (aA.mk dF dJ dW (bJ.mk dN dR bH.1) bH.2.1 bH.2.2.1 bH.2.2.2.1 bH.2.2.2.2.1) y3.1)>>=fun y4=>X4 p2 y4.kind y4.op y4.not_ y4.value.kind y4.value.num (y4.value.text,y4.qual,y4.name,y4.kids,y4.sub,y3.2.list,y3.2.at_,y3.2.failed))
  partial_fixpoint
def aCl (p0:aP) (p2:List Int):Option (aA×aP) :=
  (zL p0)>>=fun y1=>X4 p2 y1.1.kind y1.1.op y1.1.not_ y1.1.value.kind y1.1.value.num (y1.1.value.text,y1.1.qual,y1.1.name,y1.1.kids,y1.1.sub,y1.2.list,y1.2.at_,y1.2.failed)
  partial_fixpoint
def uA (p0:aP):Option (aA×aP) :=
  (aCl p0 ([9]:List Int))>>=fun y1=>some (y1.1,y1.2)
  partial_fixpoint
def vU (p0:aP):Option (aA×aP) :=
  (uA p0)>>=fun y1=>(nQ y1.2 ([3,4,5,6,7,8]:List Int))>>=fun y2=>if (!decide (y2.1=0))=true then ((uA y2.2)>>=fun y3=>(rA y2.1 y1.1 y3.1)>>=fun y4=>some (y4,y3.2)) else ((jE y2.2 [73,83])>>=fun y5=>if y5.1=true then ((jE y5.2 [78,79,84])>>=fun y6=>(tL y6.2 [78,85,76,76])>>=fun y7=>some ((aA.mk 5 0 y6.1 (bJ.mk 0 0 []) [] [] ([y1.1]:List aA) ([]:List aY)),y7)) else ((jE y5.2 [78,79,84])>>=fun y8=>(jE y8.2 [66,69,84,87,69,69,78])>>=fun y9=>if y9.1=true then ((uA y9.2)>>=fun y10=>(tL y10.2 [65,78,68])>>=fun y11=>(uA y11)>>=fun y12=>some ((aA.mk 6 0 y8.1 (bJ.mk 0 0 []) [] [] ([y1.1,y10.1,y12.1]:List aA) ([]:List aY)),y12.2)) else ((jE y9.2 [73,78])>>=fun y13=>if y13.1=true then ((aAc y13.2 y1.1 y8.1)>>=fun y14=>some (y14.1,y14.2)) else ((some (if y13.2.failed=true then true else y8.1))>>=fun y15=>some (y1.1,(aP.mk y13.2.list y13.2.at_ y15))))))
  partial_fixpoint
def tH (p0:aP):Option (aA×aP) :=
  (jE p0 [78,79,84])>>=fun y1=>if y1.1=true then ((tH y1.2)>>=fun y2=>some ((aA.mk 3 15 false (bJ.mk 0 0 []) [] [] ([y2.1]:List aA) ([]:List aY)),y2.2)) else ((vU y1.2)>>=fun y3=>some (y3.1,y3.2))
  partial_fixpoint
def R5 (p2:List Int) (dF:Int) (dJ:Int) (dW:Bool) (dN:Int) (dR:Int) (bH:(List UInt8)×(List UInt8)×(List UInt8)×(List aA)×(List aY)×(List aJ)×Int×Bool):Option (aA×aP) :=
  (nQ (aP.mk bH.2.2.2.2.2.1 bH.2.2.2.2.2.2.1 bH.2.2.2.2.2.2.2) p2)>>=fun y2=>if (decide (y2.1=0))=true then (some ((aA.mk dF dJ dW (bJ.mk dN dR bH.1) bH.2.1 bH.2.2.1 bH.2.2.2.1 bH.2.2.2.2.1),y2.2)) else ((tH y2.2)>>=fun y3=>(rA y2.1 (aA.mk dF dJ dW (bJ.mk dN dR bH.1) bH.2.1 bH.2.2.1 bH.2.2.2.1 bH.2.2.2.2.1) y3.1)>>=fun y4=>R5 p2 y4.kind y4.op y4.not_ y4.value.kind y4.value.num (y4.value.text,y4.qual,y4.name,y4.kids,y4.sub,y3.2.list,y3.2.at_,y3.2.failed))
  partial_fixpoint
def aCo (p0:aP) (p2:List Int):Option (aA×aP) :=
  (tH p0)>>=fun y1=>R5 p2 y1.1.kind y1.1.op y1.1.not_ y1.1.value.kind y1.1.value.num (y1.1.value.text,y1.1.qual,y1.1.name,y1.1.kids,y1.1.sub,y1.2.list,y1.2.at_,y1.2.failed)
  partial_fixpoint
def zY (p0:aP):Option (aA×aP) :=
  (aCo p0 ([2]:List Int))>>=fun y1=>some (y1.1,y1.2)
  partial_fixpoint
def aAo (p0:aP) (p2:List Int):Option (aA×aP) :=
  (zY p0)>>=fun y1=>zN p2 y1.1.kind y1.1.op y1.1.not_ y1.1.value.kind y1.1.value.num (y1.1.value.text,y1.1.qual,y1.1.name,y1.1.kids,y1.1.sub,y1.2.list,y1.2.at_,y1.2.failed)
  partial_fixpoint
def jL (p0:aP):Option (aA×aP) :=
  (aAo p0 ([1]:List Int))>>=fun y1=>some (y1.1,y1.2)
  partial_fixpoint
end
def aH4 (p0:List aJ):Option (aA×Int) :=
  (jL (aP.mk p0 0 false))>>=fun y1=>(aBd y1.2)>>=fun y2=>if (decide (0≤y2))=true then (some ((aA.mk 0 0 false (bJ.mk 0 0 []) [] [] ([]:List aA) ([]:List aY)),y2)) else (some (y1.1,(-1)))
def vT (p0:List aJ):Option Bool :=
  (aH4 p0)>>=fun y1=>(some (if (decide (y1.2<0))=true then true else (decide (y1.2=(p0.length:Int)))))>>=fun y2=>some y2
def aC1 (p0:aU):Option Int :=
  (some (if (!p0.bad)=true then (decide (p0.at_=(p0.t.length:Int))) else false))>>=fun y1=>if y1=true then (some (-1)) else (some p0.at_)
def aAl (y1:aA×aU) (y15:Bool×aU) (bF:Bool):Option (aA×aU) :=
  some (y1.1,(aU.mk y15.2.t y15.2.at_ bF))
def oI (p0:Int) (p1:Int) (p2:Int):Option Bool :=
  (some (if (decide (p1≤p0))=true then (decide (p0≤p2)) else false))>>=fun y1=>some y1
def Y8:Option (List (List UInt8)) :=
  some ([[],[83,69,76,69,67,84],[68,73,83,84,73,78,67,84],[70,82,79,77],[74,79,73,78],[79,78],[87,72,69,82,69],[79,82,68,69,82],[66,89],[65,83,67],[68,69,83,67],[76,73,77,73,84],[65,83],[65,78,68],[79,82],[78,79,84],[73,83],[73,78],[66,69,84,87,69,69,78],[69,88,73,83,84,83],[78,85,76,76],[84,82,85,69],[70,65,76,83,69],[73,78,83,69,82,84],[73,78,84,79],[86,65,76,85,69,83],[85,80,68,65,84,69],[83,69,84],[68,69,76,69,84,69]]:List (List UInt8))
def gY (p0:Int):Option (List UInt8) :=
  (oI p0 1 28)>>=fun y1=>if (!y1)=true then (some []) else ((Y8)>>=fun y2=>(idx y2 p0)>>=fun y3=>some y3)
def nT (p0:aU) (p1:Int):Option aJ :=
  (some (if p0.bad=true then true else (decide ((p0.t.length:Int)≤(IntKind.wrap .i64 (p0.at_+p1))))))>>=fun y1=>if y1=true then (some (aJ.mk 0 [] 0)) else ((idx p0.t (IntKind.wrap .i64 (p0.at_+p1)))>>=fun y2=>some y2)
def nA (p0:aU) (p1:Int):Option Bool :=
  (nT p0 0)>>=fun y1=>(if (true&&((decide (y1.kind=1))==true))=true then gY p1 else some default)>>=fun y2=>(some (if (decide (y1.kind=1))=true then (decide (y1.text=y2)) else false))>>=fun y3=>some y3
def aAy (y1:Bool) (bD:List aJ) (bC:Int) (bF:Bool):Option (Bool×aU) :=
  some (y1,(aU.mk bD bC bF))
def gU (p0:aU) (p1:Bool):Option aU :=
  (some (if (!p1)=true then true else p0.bad))>>=fun y1=>if y1=true then (some (aU.mk p0.t p0.at_ true)) else (some (aU.mk p0.t (IntKind.wrap .i64 (p0.at_+1)) p0.bad))
def jQ (p0:aU) (p1:Int):Option (Bool×aU) :=
  (nA p0 p1)>>=fun y1=>if y1=true then ((gU p0 true)>>=fun y2=>aAy y1 y2.t y2.at_ y2.bad) else (aAy y1 p0.t p0.at_ p0.bad)
def mE (p0:List UInt8):Option aJ :=
  some (aJ.mk 5 p0 0)
def aFv (p0:Int):Option (List UInt8) :=
  (oI p0 1 16)>>=fun y1=>if (!y1)=true then (some []) else ((idx ([[],[79,82],[65,78,68],[61],[60,62],[60],[60,61],[62],[62,61],[124,124],[43],[45],[42],[47],[37],[78,79,84],[45]]:List (List UInt8)) p0)>>=fun y2=>some y2)
def zX (p0:Int):Option aJ :=
  (some (if (decide (p0=1))=true then true else (decide (p0=2))))>>=fun y1=>(some (if y1=true then true else (decide (p0=15))))>>=fun y2=>if y2=true then ((aFv p0)>>=fun y3=>some (aJ.mk 1 y3 0)) else ((aFv p0)>>=fun y4=>(mE y4)>>=fun y5=>some y5)
def uX:Option Int :=
  some 0
def F7 (p0:aA) (x9:Bool):Option Int :=
  if x9=true then (some 4) else (if (decide (p0.kind=3))=true then (if (decide (p0.op=15))=true then (some 3) else (if (decide (p0.op=16))=true then (some 8) else (uX))) else (if (decide (p0.kind=4))=true then ((oI p0.op 1 14)>>=fun y1=>if y1=true then ((idx ([0,1,2,4,4,4,4,4,4,5,6,6,7,7,7]:List Int) p0.op)>>=fun y2=>some y2) else (uX)) else (uX)))
def Q7 (p0:aA) (x5:Bool):Option Int :=
  if x5=true then (some 9) else (if (decide (p0.kind=5))=true then (F7 p0 (decide (p0.kind=5))) else (if (decide (p0.kind=6))=true then (F7 p0 (decide (p0.kind=6))) else (if (decide (p0.kind=7))=true then (F7 p0 (decide (p0.kind=7))) else (F7 p0 (decide (p0.kind=8))))))
def tY (p0:aA):Option Int :=
  if (decide (p0.kind=1))=true then (Q7 p0 (decide (p0.kind=1))) else (if (decide (p0.kind=2))=true then (Q7 p0 (decide (p0.kind=2))) else (Q7 p0 (decide (p0.kind=9))))
mutual
def Z9 (p1:Int) (x5:Int) (p0:aU):Option Int :=
  H8 p1 p0 (IntKind.wrap .i64 (x5+1))
  partial_fixpoint
def H8 (p1:Int) (p0:aU) (x5:Int):Option Int :=
  if (decide (x5≤14))=true then ((tY (aA.mk 4 x5 false (bJ.mk 0 0 []) [] [] ([]:List aA) ([]:List aY)))>>=fun y1=>if (!decide (y1=p1))=true then (Z9 p1 x5 p0) else ((zX x5)>>=fun y2=>(nT p0 0)>>=fun y3=>(some (if (decide (y3.kind=y2.kind))=true then (decide (y3.text=y2.text)) else false))>>=fun y4=>if y4=true then (some x5) else (Z9 p1 x5 p0))) else (some 0)
  partial_fixpoint
end
def wG (p0:aU) (p1:Int):Option Int :=
  H8 p1 p0 1
def aEj (x3:List Int):Option (List UInt8) :=
  (ofBytes x3)>>=fun y3=>some y3
mutual
def H5 (x4:Int) (pK:List Int):Option (List UInt8) :=
  D5 (IntKind.wrap .i64 (x4+1)) pK
  partial_fixpoint
def D5 (x4:Int) (gX:List Int):Option (List UInt8) :=
  if (decide (x4<(gX.length:Int)))=true then ((idx gX x4)>>=fun y1=>(some (if (decide (97≤y1))=true then (decide (y1≤122)) else false))>>=fun y2=>if y2=true then (H5 x4 (gX.set (x4).toNat (IntKind.wrap .u8 (y1 - 32)))) else (H5 x4 (gX.set (x4).toNat y1))) else (aEj gX)
  partial_fixpoint
end
def K6 (p0:List UInt8):Option (List UInt8) :=
  D5 0 (jO p0)
def wJ (y1:List UInt8) (y2:List (List UInt8)) (x5:Int):Option Int :=
  if (decide (x5<(y2.length:Int)))=true then ((idx y2 x5)>>=fun y3=>if (decide (y3=y1))=true then (some x5) else (wJ y1 y2 (IntKind.wrap .i64 (x5+1)))) else (some 0)
  partial_fixpoint
def aBz (p0:List UInt8):Option Int :=
  if (decide (8<(p0.length:Int)))=true then (some 0) else ((K6 p0)>>=fun y1=>(Y8)>>=fun y2=>wJ y1 y2 1)
def M4 (p0:List UInt8):Option Bool :=
  (oI (p0.length:Int) 1 20)>>=fun y1=>some y1
mutual
def F5 (x0:Int) (p0:Int) (x4:List UInt8) (x5:Int):Option (List UInt8) :=
  (ofBytes ([(IntKind.wrap .u8 (IntKind.wrap .i64 (48+x5)))]:List Int))>>=fun y2=>(vX y2 x4)>>=fun y3=>I8 p0 (IntKind.wrap .i64 (Int.tdiv x0 10)) y3
  partial_fixpoint
def I8 (p0:Int) (x0:Int) (x4:List UInt8):Option (List UInt8) :=
  if (!decide (x0=0))=true then (if (decide ((Int.tmod x0 10)<0))=true then (F5 x0 p0 x4 (IntKind.wrap .i64 (0 - (Int.tmod x0 10)))) else (F5 x0 p0 x4 (Int.tmod x0 10))) else (if (decide (p0<0))=true then ((vX [45] x4)>>=fun y1=>some y1) else (some x4))
  partial_fixpoint
end
def xH (p0:Int):Option (List UInt8) :=
  if (decide (p0=0))=true then (some [48]) else (I8 p0 p0 [])
def xA (p0:List UInt8) (x4:Int) (x5:Int):Option (Int×Bool) :=
  if (decide (x5<(p0.length:Int)))=true then ((K4 p0 x5)>>=fun y2=>(if (true&&((decide (y2<48))==false))=true then K4 p0 x5 else some default)>>=fun y3=>(some (if (decide (y2<48))=true then true else (decide (57<y3))))>>=fun y4=>if y4=true then (some (0,false)) else ((K4 p0 x5)>>=fun y5=>if (decide ((IntKind.wrap .i64 (Int.tdiv (IntKind.wrap .i64 (9223372036854775807 - (IntKind.wrap .i64 ((IntKind.wrap .i64 y5) - 48)))) 10))<x4))=true then (some (0,false)) else (xA p0 (IntKind.wrap .i64 ((IntKind.wrap .i64 (10 * x4))+(IntKind.wrap .i64 ((IntKind.wrap .i64 y5) - 48)))) (IntKind.wrap .i64 (x5+1))))) else ((xH x4)>>=fun y6=>if (!decide (y6=p0))=true then (some (0,false)) else (some (x4,true)))
  partial_fixpoint
def wZ (p0:List UInt8):Option (Int×Bool) :=
  (some (if (decide ((p0.length:Int)<1))=true then true else (decide (19<(p0.length:Int)))))>>=fun y1=>if y1=true then (some (0,false)) else (xA p0 0 0)
def kR (x4:Bool):Option Bool :=
  if x4=true then (some true) else (some false)
def aCr (p0:List UInt8):Option Bool :=
  if (decide (p0=[40]))=true then (kR (decide (p0=[40]))) else (if (decide (p0=[41]))=true then (kR (decide (p0=[41]))) else (if (decide (p0=[44]))=true then (kR (decide (p0=[44]))) else (if (decide (p0=[46]))=true then (kR (decide (p0=[46]))) else (if (decide (p0=[42]))=true then (kR (decide (p0=[42]))) else (if (decide (p0=[43]))=true then (kR (decide (p0=[43]))) else (if (decide (p0=[45]))=true then (kR (decide (p0=[45]))) else (if (decide (p0=[47]))=true then (kR (decide (p0=[47]))) else (if (decide (p0=[37]))=true then (kR (decide (p0=[37]))) else (if (decide (p0=[61]))=true then (kR (decide (p0=[61]))) else (if (decide (p0=[60,62]))=true then (kR (decide (p0=[60,62]))) else (if (decide (p0=[60]))=true then (kR (decide (p0=[60]))) else (if (decide (p0=[60,61]))=true then (kR (decide (p0=[60,61]))) else (if (decide (p0=[62]))=true then (kR (decide (p0=[62]))) else (if (decide (p0=[62,61]))=true then (kR (decide (p0=[62,61]))) else (kR (decide (p0=[124,124])))))))))))))))))
def I1 (p0:aJ):Option Bool :=
  if (decide (p0.kind=1))=true then ((aBz p0.text)>>=fun y1=>(if (true&&((decide (0<y1))==true))=true then K6 p0.text else some default)>>=fun y2=>(some (if (decide (0<y1))=true then (decide (y2=p0.text)) else false))>>=fun y3=>some y3) else (if (decide (p0.kind=2))=true then ((M4 p0.text)>>=fun y4=>some y4) else (if (decide (p0.kind=3))=true then ((wZ p0.text)>>=fun y5=>some y5.2) else (if (decide (p0.kind=4))=true then (some (decide ((p0.text.length:Int)≤40))) else (if (decide (p0.kind=5))=true then ((aCr p0.text)>>=fun y6=>some y6) else (some false)))))
def vL (p0:aU) (p1:Int):Option Bool :=
  (nT p0 0)>>=fun y1=>(if (true&&((decide (y1.kind=p1))==true))=true then I1 y1 else some default)>>=fun y2=>(some (if (decide (y1.kind=p1))=true then y2 else false))>>=fun y3=>some y3
def qA (p0:aU) (p1:Int):Option ((List UInt8)×aU) :=
  (nT p0 0)>>=fun y1=>(vL p0 p1)>>=fun y2=>(gU p0 y2)>>=fun y3=>if y3.bad=true then (some ([],y3)) else (some (y1.text,y3))
def M8 (p0:aU):Option ((List UInt8)×aU) :=
  (jQ p0 12)>>=fun y1=>if y1.1=true then ((qA y1.2 2)>>=fun y2=>some (y2.1,y2.2)) else (some ([],y1.2))
def lF (p0:aU) (p1:List UInt8):Option Bool :=
  (nT p0 0)>>=fun y1=>(some (if (decide (y1.kind=5))=true then (decide (y1.text=p1)) else false))>>=fun y2=>some y2
def aHd (y3:Bool×aU) (bG:List bV) (dX:List bR) (y29:(List aA)×aU) (kG:List eB) (lK:Int) (wW:List aJ) (yG:Int) (vW:Bool):Option (aY×aU) :=
  some ((aY.mk y3.1 bG dX y29.1 kG lK),(aU.mk wW yG vW))
def V3 (y3:Bool×aU) (bG:List bV) (dX:List bR) (y29:(List aA)×aU) (kG:List eB) (yN:List aJ) (yF:Int) (xZ:Bool):Option (aY×aU) :=
  (jQ (aU.mk yN yF xZ) 11)>>=fun y47=>if y47.1=true then ((qA y47.2 3)>>=fun y48=>(wZ y48.1)>>=fun y49=>aHd y3 bG dX y29 kG y49.1 y48.2.t y48.2.at_ y48.2.bad) else (aHd y3 bG dX y29 kG (-1) y47.2.t y47.2.at_ y47.2.bad)
def V6 (p0:aU):Option (bR×aU) :=
  (qA p0 2)>>=fun y1=>(M8 y1.2)>>=fun y2=>some ((bR.mk y1.1 y2.1 ([]:List aA)),y2.2)
def aA2 (iV:Int) (bL:Int) (bQ:Bool) (eQ:Int) (fP:Int) (lX:List UInt8) (xW:List UInt8) (wV:List UInt8) (yQ:List aA) (yD:List aY) (bD:List aJ) (bC:Int) (bF:Bool):Option (aA×aU) :=
  some ((aA.mk iV bL bQ (bJ.mk eQ fP lX) xW wV yQ yD),(aU.mk bD bC bF))
def yP (p0:Bool):Option bJ :=
  if p0=true then (some (bJ.mk 3 1 [])) else (some (bJ.mk 3 0 []))
def R8 (rZ:List UInt8) (rJ:List UInt8) (bD:List aJ) (bC:Int) (bF:Bool):Option (aA×aU) :=
  some ((aA.mk 2 0 false (bJ.mk 0 0 []) rZ rJ ([]:List aA) ([]:List aY)),(aU.mk bD bC bF))
def aCk (p0:List UInt8):Option bJ :=
  some (bJ.mk 2 0 p0)
mutual
def wM (p0:aU):Option (aA×aU) :=
  (vL p0 3)>>=fun y1=>if y1=true then ((qA p0 3)>>=fun y2=>(wZ y2.1)>>=fun y3=>some ((aA.mk 1 0 false (bJ.mk 1 y3.1 []) [] [] ([]:List aA) ([]:List aY)),y2.2)) else ((vL p0 4)>>=fun y4=>if y4=true then ((qA p0 4)>>=fun y5=>(aCk y5.1)>>=fun y6=>some ((aA.mk 1 0 false y6 [] [] ([]:List aA) ([]:List aY)),y5.2)) else ((jQ p0 20)>>=fun y7=>if y7.1=true then (some ((aA.mk 1 0 false (bJ.mk 0 0 []) [] [] ([]:List aA) ([]:List aY)),y7.2)) else ((jQ y7.2 21)>>=fun y8=>if y8.1=true then ((yP true)>>=fun y9=>some ((aA.mk 1 0 false y9 [] [] ([]:List aA) ([]:List aY)),y8.2)) else ((jQ y8.2 22)>>=fun y10=>if y10.1=true then ((yP false)>>=fun y11=>some ((aA.mk 1 0 false y11 [] [] ([]:List aA) ([]:List aY)),y10.2)) else ((vL y10.2 2)>>=fun y12=>if y12=true then ((qA y10.2 2)>>=fun y13=>(lF y13.2 [46])>>=fun y14=>if y14=true then ((gU y13.2 true)>>=fun y15=>(qA y15 2)>>=fun y16=>R8 y13.1 y16.1 y16.2.t y16.2.at_ y16.2.bad) else (R8 [] y13.1 y13.2.t y13.2.at_ y13.2.bad)) else ((jQ y10.2 19)>>=fun y17=>if y17.1=true then ((lF y17.2 [40])>>=fun y18=>(gU y17.2 y18)>>=fun y19=>(vD y19)>>=fun y20=>(lF y20.2 [41])>>=fun y21=>(gU y20.2 y21)>>=fun y22=>some ((aA.mk 9 0 false (bJ.mk 0 0 []) [] [] ([]:List aA) ([y20.1]:List aY)),y22)) else ((lF y17.2 [40])>>=fun y23=>(gU y17.2 y23)>>=fun y24=>if y24.bad=true then (some ((aA.mk 0 0 false (bJ.mk 0 0 []) [] [] ([]:List aA) ([]:List aY)),y24)) else ((fC y24 1)>>=fun y25=>(lF y25.2 [41])>>=fun y26=>(gU y25.2 y26)>>=fun y27=>some (y25.1,y27)))))))))
  partial_fixpoint
def vV (p1:Int) (iV:Int) (bL:Int) (bQ:Bool) (eQ:Int) (fP:Int) (fB:(List UInt8)×(List UInt8)×(List UInt8)×(List aA)×(List aY)×(List aJ)×Int×Bool):Option (aA×aU) :=
  if (!fB.2.2.2.2.2.2.2)=true then ((wG (aU.mk fB.2.2.2.2.2.1 fB.2.2.2.2.2.2.1 fB.2.2.2.2.2.2.2) p1)>>=fun y10=>if (decide (y10=0))=true then (aA2 iV bL bQ eQ fP fB.1 fB.2.1 fB.2.2.1 fB.2.2.2.1 fB.2.2.2.2.1 fB.2.2.2.2.2.1 fB.2.2.2.2.2.2.1 fB.2.2.2.2.2.2.2) else ((gU (aU.mk fB.2.2.2.2.2.1 fB.2.2.2.2.2.2.1 fB.2.2.2.2.2.2.2) true)>>=fun y11=>(fC y11 (IntKind.wrap .i64 (p1+1)))>>=fun y12=>vV p1 4 y10 false 0 0 ([],[],[],([(aA.mk iV bL bQ (bJ.mk eQ fP fB.1) fB.2.1 fB.2.2.1 fB.2.2.2.1 fB.2.2.2.2.1),y12.1]:List aA),([]:List aY),y12.2.t,y12.2.at_,y12.2.bad))) else (aA2 iV bL bQ eQ fP fB.1 fB.2.1 fB.2.2.1 fB.2.2.2.1 fB.2.2.2.2.1 fB.2.2.2.2.2.1 fB.2.2.2.2.2.2.1 fB.2.2.2.2.2.2.2)
  partial_fixpoint
def I4 (p2:Bool) (x8:List aA) (bD:List aJ) (bC:Int) (bF:Bool):Option (aA×aU) :=
  (lF (aU.mk bD bC bF) [44])>>=fun y8=>if y8=true then ((gU (aU.mk bD bC bF) true)>>=fun y9=>(fC y9 1)>>=fun y10=>(appG 136 x8 ([y10.1]:List aA))>>=fun y11=>I4 p2 y11 y10.2.t y10.2.at_ y10.2.bad) else ((lF (aU.mk bD bC bF) [41])>>=fun y12=>(gU (aU.mk bD bC bF) y12)>>=fun y13=>some ((aA.mk 7 0 p2 (bJ.mk 0 0 []) [] [] x8 ([]:List aY)),y13))
  partial_fixpoint
def aCe (p0:aU):Option ((List aA)×aU) :=
  (jQ p0 6)>>=fun y1=>if y1.1=true then ((fC y1.2 1)>>=fun y2=>some (([y2.1]:List aA),y2.2)) else (some (([]:List aA),y1.2))
  partial_fixpoint
def F9 (p0:aU):Option (eB×aU) :=
  (fC p0 1)>>=fun y1=>(jQ y1.2 10)>>=fun y2=>if y2.1=true then (some ((eB.mk y1.1 true),y2.2)) else ((jQ y2.2 9)>>=fun y3=>some ((eB.mk y1.1 false),y3.2))
  partial_fixpoint
def vO (y3:Bool×aU) (bG:List bV) (dX:List bR) (y29:(List aA)×aU) (gM:List eB) (mV:List aJ) (kW:Int×Bool):Option (aY×aU) :=
  (lF (aU.mk mV kW.1 kW.2) [44])>>=fun y43=>if y43=true then ((gU (aU.mk mV kW.1 kW.2) true)>>=fun y44=>(F9 y44)>>=fun y45=>(appG 144 gM ([y45.1]:List eB))>>=fun y46=>vO y3 bG dX y29 y46 y45.2.t (y45.2.at_,y45.2.bad)) else (V3 y3 bG dX y29 gM mV kW.1 kW.2)
  partial_fixpoint
def Q5 (y3:Bool×aU) (bG:List bV) (dX:List bR) (y22:bR×aU) (bQ:List aA) (oV:List aJ) (nJ:Int×Bool):Option (aY×aU) :=
  (appG 56 dX ([(bR.mk y22.1.table y22.1.as_ bQ)]:List bR))>>=fun y42=>rG y3 bG y42 oV nJ.1 nJ.2
  partial_fixpoint
def rG (y3:Bool×aU) (bG:List bV) (dX:List bR) (kY:List aJ) (kZ:Int) (lD:Bool):Option (aY×aU) :=
  (lF (aU.mk kY kZ lD) [44])>>=fun y17=>(if (true&&(y17==false))=true then nA (aU.mk kY kZ lD) 4 else some (default:Bool))>>=fun y18=>(some (if y17=true then true else y18))>>=fun y19=>if y19=true then ((nA (aU.mk kY kZ lD) 4)>>=fun y20=>(gU (aU.mk kY kZ lD) true)>>=fun y21=>(V6 y21)>>=fun y22=>if y20=true then ((nA y22.2 5)>>=fun y23=>(gU y22.2 y23)>>=fun y24=>(fC y24 1)>>=fun y25=>Q5 y3 bG dX y22 ([y25.1]:List aA) y25.2.t (y25.2.at_,y25.2.bad)) else (Q5 y3 bG dX y22 y22.1.on_ y22.2.t (y22.2.at_,y22.2.bad))) else ((aCe (aU.mk kY kZ lD))>>=fun y29=>(jQ y29.2 7)>>=fun y30=>if y30.1=true then ((nA y30.2 8)>>=fun y31=>(gU y30.2 y31)>>=fun y32=>(F9 y32)>>=fun y33=>(appG 144 [] ([y33.1]:List eB))>>=fun y34=>vO y3 bG dX y29 y34 y33.2.t (y33.2.at_,y33.2.bad)) else (V3 y3 bG dX y29 ([]:List eB) y30.2.t y30.2.at_ y30.2.bad))
  partial_fixpoint
def uF (y3:Bool×aU) (bG:List bV) (bD:List aJ) (bC:Int) (bF:Bool):Option (aY×aU) :=
  (lF (aU.mk bD bC bF) [44])>>=fun y6=>if y6=true then ((gU (aU.mk bD bC bF) true)>>=fun y7=>(C9 y7)>>=fun y8=>(appG 176 bG ([y8.1]:List bV))>>=fun y9=>uF y3 y9 y8.2.t y8.2.at_ y8.2.bad) else ((nA (aU.mk bD bC bF) 3)>>=fun y10=>(gU (aU.mk bD bC bF) y10)>>=fun y11=>(V6 y11)>>=fun y12=>(appG 56 [] ([y12.1]:List bR))>>=fun y13=>rG y3 bG y13 y12.2.t y12.2.at_ y12.2.bad)
  partial_fixpoint
def C9 (p0:aU):Option (bV×aU) :=
  (nT p0 1)>>=fun y1=>(nT p0 2)>>=fun y2=>(lF p0 [42])>>=fun y3=>if y3=true then ((gU p0 true)>>=fun y4=>some ((bV.mk true [] (aA.mk 0 0 false (bJ.mk 0 0 []) [] [] ([]:List aA) ([]:List aY)) []),y4)) else ((vL p0 2)>>=fun y5=>(some (if y5=true then (decide (y1.kind=5)) else false))>>=fun y6=>(some (if y6=true then (decide (y1.text=[46])) else false))>>=fun y7=>(some (if y7=true then (decide (y2.kind=5)) else false))>>=fun y8=>(some (if y8=true then (decide (y2.text=[42])) else false))>>=fun y9=>if y9=true then ((qA p0 2)>>=fun y10=>(gU y10.2 true)>>=fun y11=>(gU y11 true)>>=fun y12=>some ((bV.mk true y10.1 (aA.mk 0 0 false (bJ.mk 0 0 []) [] [] ([]:List aA) ([]:List aY)) []),y12)) else ((fC p0 1)>>=fun y13=>(M8 y13.2)>>=fun y14=>some ((bV.mk false [] y13.1 y14.1),y14.2)))
  partial_fixpoint
def vD (p0:aU):Option (aY×aU) :=
  (nA p0 1)>>=fun y1=>(gU p0 y1)>>=fun y2=>(jQ y2 2)>>=fun y3=>(C9 y3.2)>>=fun y4=>(appG 176 [] ([y4.1]:List bV))>>=fun y5=>uF y3 y5 y4.2.t y4.2.at_ y4.2.bad
  partial_fixpoint
def aCu (p0:aU) (p1:aA) (p2:Bool):Option (aA×aU) :=
  (lF p0 [40])>>=fun y1=>(gU p0 y1)>>=fun y2=>(nA y2 1)>>=fun y3=>if y3=true then ((vD y2)>>=fun y4=>(lF y4.2 [41])>>=fun y5=>(gU y4.2 y5)>>=fun y6=>some ((aA.mk 8 0 p2 (bJ.mk 0 0 []) [] [] ([p1]:List aA) ([y4.1]:List aY)),y6)) else ((fC y2 1)>>=fun y7=>I4 p2 ([p1,y7.1]:List aA) y7.2.t y7.2.at_ y7.2.bad)
  partial_fixpoint
def aFi (p0:aU):Option (aA×aU) :=
  (fC p0 5)>>=fun y1=>(wG y1.2 4)>>=fun y2=>if (decide (0<y2))=true then ((gU y1.2 true)>>=fun y3=>(fC y3 5)>>=fun y4=>some ((aA.mk 4 y2 false (bJ.mk 0 0 []) [] [] ([y1.1,y4.1]:List aA) ([]:List aY)),y4.2)) else ((jQ y1.2 16)>>=fun y5=>if y5.1=true then ((jQ y5.2 15)>>=fun y6=>(nA y6.2 20)>>=fun y7=>(gU y6.2 y7)>>=fun y8=>some ((aA.mk 5 0 y6.1 (bJ.mk 0 0 []) [] [] ([y1.1]:List aA) ([]:List aY)),y8)) else ((jQ y5.2 15)>>=fun y9=>(jQ y9.2 18)>>=fun y10=>if y10.1=true then ((fC y10.2 5)>>=fun y11=>(nA y11.2 13)>>=fun y12=>(gU y11.2 y12)>>=fun y13=>(fC y13 5)>>=fun y14=>some ((aA.mk 6 0 y9.1 (bJ.mk 0 0 []) [] [] ([y1.1,y11.1,y14.1]:List aA) ([]:List aY)),y14.2)) else ((jQ y10.2 17)>>=fun y15=>if y15.1=true then ((aCu y15.2 y1.1 y9.1)>>=fun y16=>some (y16.1,y16.2)) else (if y9.1=true then (aAl y1 y15 true) else (aAl y1 y15 y15.2.bad)))))
  partial_fixpoint
def fC (p0:aU) (p1:Int):Option (aA×aU) :=
  if (decide (p1=3))=true then ((jQ p0 15)>>=fun y1=>if y1.1=true then ((fC y1.2 3)>>=fun y2=>some ((aA.mk 3 15 false (bJ.mk 0 0 []) [] [] ([y2.1]:List aA) ([]:List aY)),y2.2)) else ((fC y1.2 4)>>=fun y3=>some (y3.1,y3.2))) else (if (decide (p1=4))=true then ((aFi p0)>>=fun y4=>some (y4.1,y4.2)) else (if (decide (p1=8))=true then ((lF p0 [45])>>=fun y5=>if y5=true then ((gU p0 true)>>=fun y6=>(fC y6 8)>>=fun y7=>some ((aA.mk 3 16 false (bJ.mk 0 0 []) [] [] ([y7.1]:List aA) ([]:List aY)),y7.2)) else ((wM p0)>>=fun y8=>some (y8.1,y8.2))) else ((fC p0 (IntKind.wrap .i64 (p1+1)))>>=fun y9=>vV p1 y9.1.kind y9.1.op y9.1.not_ y9.1.value.kind y9.1.value.num (y9.1.value.text,y9.1.qual,y9.1.name,y9.1.kids,y9.1.sub,y9.2.t,y9.2.at_,y9.2.bad))))
  partial_fixpoint
end
def aGx (p0:List aJ):Option (aA×Int) :=
  (fC (aU.mk p0 0 false) 1)>>=fun y1=>(aC1 y1.2)>>=fun y2=>if (decide (0≤y2))=true then (some ((aA.mk 0 0 false (bJ.mk 0 0 []) [] [] ([]:List aA) ([]:List aY)),y2)) else (some (y1.1,(-1)))
def aCb (p0:List aJ):Option Bool :=
  (aGx p0)>>=fun y1=>(some (if (decide (y1.2<0))=true then true else (decide (y1.2=(p0.length:Int)))))>>=fun y2=>some y2
def I5 (p0:List UInt8):Option aJ :=
  some (aJ.mk 2 p0 0)
def O4 (p1:aA) (x0:List aJ):Option (List aJ) :=
  (I5 p1.name)>>=fun y41=>(appG 32 x0 ([y41]:List aJ))>>=fun y42=>some y42
def aCn:Option Int :=
  some 5
def aC8 (p0:aA) (p1:Int):Option Int :=
  (tY p0)>>=fun y1=>(oI p1 0 (IntKind.wrap .i64 ((p0.kids.length:Int) - 1)))>>=fun y2=>(some (if (!y2)=true then true else (decide (y1=0))))>>=fun y3=>(some (if y3=true then true else (decide (y1=9))))>>=fun y4=>if y4=true then (some 0) else (if (decide (p0.kind=3))=true then (some y1) else (if (decide (p0.kind=4))=true then (if (decide (y1=4))=true then (some 5) else (if (decide (p1=0))=true then (some y1) else (some (IntKind.wrap .i64 (y1+1))))) else (if (decide (p0.kind=7))=true then (if (decide (0<p1))=true then (some 1) else (aCn)) else (aCn))))
def aC7 (p0:aA) (p1:Int):Option Bool :=
  (oI p1 0 (IntKind.wrap .i64 ((p0.kids.length:Int) - 1)))>>=fun y1=>(if (true&&(y1==true))=true then idx p0.kids p1 else some default)>>=fun y2=>(if (true&&(y1==true))=true then tY y2 else some default)>>=fun y3=>(if (true&&(y1==true))=true then aC8 p0 p1 else some default)>>=fun y4=>(some (if y1=true then (decide (y3<y4)) else false))>>=fun y5=>some y5
def jF (p0:Int):Option aJ :=
  (gY p0)>>=fun y1=>some (aJ.mk 1 y1 0)
def aBo (p0:bJ):Option aJ :=
  if (decide (p0.kind=1))=true then ((xH p0.num)>>=fun y1=>some (aJ.mk 3 y1 0)) else (if (decide (p0.kind=2))=true then (some (aJ.mk 4 p0.text 0)) else (if (decide (p0.kind=3))=true then (if (decide (p0.num=1))=true then ((jF 21)>>=fun y2=>some y2) else ((jF 22)>>=fun y3=>some y3)) else ((jF 20)>>=fun y4=>some y4)))
def zI (p0:List aJ) (p1:aA):Option (List aJ) :=
  if p1.not_=true then ((jF 15)>>=fun y1=>(appG 32 p0 ([y1]:List aJ))>>=fun y2=>some y2) else (some p0)
def Z0 (p0:List aJ) (p1:List UInt8):Option (List aJ) :=
  if (decide (p1=[]))=true then (some p0) else ((jF 12)>>=fun y1=>(I5 p1)>>=fun y2=>(appG 32 p0 ([y1,y2]:List aJ))>>=fun y3=>some y3)
def M5 (x0:List aJ):Option (List aJ) :=
  (mE [42])>>=fun y6=>(appG 32 x0 ([y6]:List aJ))>>=fun y7=>some y7
def aHt (vN:List aJ):Option (List aJ) :=
  some vN
mutual
def Y2 (p0:List aJ) (p1:List aA) (p2:Bool):Option (List aJ) :=
  if (decide ((p1.length:Int)=0))=true then (some p0) else ((jF 6)>>=fun y1=>(appG 32 p0 ([y1]:List aJ))>>=fun y2=>(idx p1 0)>>=fun y3=>(kH y2 y3 p2)>>=fun y4=>some y4)
  partial_fixpoint
def V5 (p2:Bool) (x8:Int) (p1:aY) (oM:List aJ):Option (List aJ) :=
  yR p2 p1 oM (IntKind.wrap .i64 (x8+1))
  partial_fixpoint
def V9 (p2:Bool) (x8:Int) (p1:aY) (oL:List aJ):Option (List aJ) :=
  (idx p1.order x8)>>=fun y26=>(kH oL y26.expr p2)>>=fun y27=>(idx p1.order x8)>>=fun y28=>if y28.desc=true then ((jF 10)>>=fun y29=>(appG 32 y27 ([y29]:List aJ))>>=fun y30=>V5 p2 x8 p1 y30) else (V5 p2 x8 p1 y27)
  partial_fixpoint
def yR (p2:Bool) (p1:aY) (mI:List aJ) (x8:Int):Option (List aJ) :=
  if (decide (x8<(p1.order.length:Int)))=true then (if (decide (x8=0))=true then ((jF 7)>>=fun y16=>(jF 8)>>=fun y17=>(appG 32 mI ([y16,y17]:List aJ))>>=fun y18=>V9 p2 x8 p1 y18) else ((mE [44])>>=fun y20=>(appG 32 mI ([y20]:List aJ))>>=fun y21=>V9 p2 x8 p1 y21)) else (if (decide (0≤p1.limit))=true then ((jF 11)>>=fun y22=>(xH p1.limit)>>=fun y23=>(appG 32 mI ([y22,(aJ.mk 3 y23 0)]:List aJ))>>=fun y24=>aHt y24) else (aHt mI))
  partial_fixpoint
def aBj (p0:List aJ) (p1:bV) (p2:Bool):Option (List aJ) :=
  if (!p1.star)=true then ((kH p0 p1.expr p2)>>=fun y1=>(Z0 y1 p1.as_)>>=fun y2=>some y2) else (if (!decide (p1.qual=[]))=true then ((I5 p1.qual)>>=fun y3=>(mE [46])>>=fun y4=>(appG 32 p0 ([y3,y4]:List aJ))>>=fun y5=>M5 y5) else (M5 p0))
  partial_fixpoint
def Y0 (p2:Bool) (x7:Int) (p1:aY) (oW:List aJ):Option (List aJ) :=
  (idx p1.items x7)>>=fun y14=>(aBj oW y14 p2)>>=fun y15=>wN p2 p1 y15 (IntKind.wrap .i64 (x7+1))
  partial_fixpoint
def Q6 (p1:List bR) (p2:Bool) (x7:Int) (mW:List aJ):Option (List aJ) :=
  xB p1 p2 mW (IntKind.wrap .i64 (x7+1))
  partial_fixpoint
def X3 (p1:List bR) (p2:Bool) (x7:Int) (nC:List aJ):Option (List aJ) :=
  (idx p1 x7)>>=fun y11=>(I5 y11.table)>>=fun y12=>(appG 32 nC ([y12]:List aJ))>>=fun y13=>(idx p1 x7)>>=fun y14=>(Z0 y13 y14.as_)>>=fun y15=>(idx p1 x7)>>=fun y16=>if (decide (0<(y16.on_.length:Int)))=true then ((jF 5)>>=fun y17=>(appG 32 y15 ([y17]:List aJ))>>=fun y18=>(idx p1 x7)>>=fun y19=>(idx y19.on_ 0)>>=fun y20=>(kH y18 y20 p2)>>=fun y21=>Q6 p1 p2 x7 y21) else (Q6 p1 p2 x7 y15)
  partial_fixpoint
def R7 (p1:List bR) (p2:Bool) (x7:Int) (gQ:List aJ):Option (List aJ) :=
  (if (true&&((decide (0<x7))==true))=true then idx p1 x7 else some default)>>=fun y6=>(some (if (decide (0<x7))=true then (decide ((y6.on_.length:Int)=0)) else false))>>=fun y7=>if y7=true then ((mE [44])>>=fun y8=>(appG 32 gQ ([y8]:List aJ))>>=fun y9=>X3 p1 p2 x7 y9) else (X3 p1 p2 x7 gQ)
  partial_fixpoint
def xB (p1:List bR) (p2:Bool) (x0:List aJ) (x7:Int):Option (List aJ) :=
  if (decide (x7<(p1.length:Int)))=true then ((if (true&&((decide (0<x7))==true))=true then idx p1 x7 else some default)>>=fun y1=>(some (if (decide (0<x7))=true then (decide (0<(y1.on_.length:Int))) else false))>>=fun y2=>if y2=true then ((jF 4)>>=fun y3=>(appG 32 x0 ([y3]:List aJ))>>=fun y4=>R7 p1 p2 x7 y4) else (R7 p1 p2 x7 x0)) else (some x0)
  partial_fixpoint
def aFm (p0:List aJ) (p1:List bR) (p2:Bool):Option (List aJ) :=
  xB p1 p2 p0 0
  partial_fixpoint
def wN (p2:Bool) (p1:aY) (gQ:List aJ) (x7:Int):Option (List aJ) :=
  if (decide (x7<(p1.items.length:Int)))=true then (if (decide (0<x7))=true then ((mE [44])>>=fun y6=>(appG 32 gQ ([y6]:List aJ))>>=fun y7=>Y0 p2 x7 p1 y7) else (Y0 p2 x7 p1 gQ)) else ((jF 3)>>=fun y9=>(appG 32 gQ ([y9]:List aJ))>>=fun y10=>(aFm y10 p1.from_ p2)>>=fun y11=>(Y2 y11 p1.where_ p2)>>=fun y12=>yR p2 p1 y12 0)
  partial_fixpoint
def U4 (p2:Bool) (p1:aY) (x0:List aJ):Option (List aJ) :=
  wN p2 p1 x0 0
  partial_fixpoint
def X9 (p0:List aJ) (p1:aY) (p2:Bool):Option (List aJ) :=
  (jF 1)>>=fun y1=>(appG 32 p0 ([y1]:List aJ))>>=fun y2=>if p1.distinct=true then ((jF 2)>>=fun y3=>(appG 32 y2 ([y3]:List aJ))>>=fun y4=>U4 p2 p1 y4) else (U4 p2 p1 y2)
  partial_fixpoint
def rQ (p0:List aJ) (p1:aA) (p2:Int) (p3:Bool):Option (List aJ) :=
  (idx p1.kids p2)>>=fun y1=>(aC7 p1 p2)>>=fun y2=>(if ((true&&(y2==false))&&(p3==true))=true then tY y1 else some default)>>=fun y3=>(if (true&&(y2==false))=true then some (if p3=true then (decide (y3<9)) else false) else some default)>>=fun y4=>(some (if y2=true then true else y4))>>=fun y5=>if y5=true then ((mE [40])>>=fun y6=>(appG 32 p0 ([y6]:List aJ))>>=fun y7=>(kH y7 y1 p3)>>=fun y8=>(mE [41])>>=fun y9=>(appG 32 y8 ([y9]:List aJ))>>=fun y10=>some y10) else ((kH p0 y1 p3)>>=fun y11=>some y11)
  partial_fixpoint
def O5 (p2:Bool) (x7:Int) (p1:aA) (oO:List aJ):Option (List aJ) :=
  (rQ oO p1 x7 p2)>>=fun y48=>wK p2 p1 y48 (IntKind.wrap .i64 (x7+1))
  partial_fixpoint
def wK (p2:Bool) (p1:aA) (nE:List aJ) (x7:Int):Option (List aJ) :=
  if (decide (x7<(p1.kids.length:Int)))=true then (if (decide (1<x7))=true then ((mE [44])>>=fun y43=>(appG 32 nE ([y43]:List aJ))>>=fun y44=>O5 p2 x7 p1 y44) else (O5 p2 x7 p1 nE)) else ((mE [41])>>=fun y46=>(appG 32 nE ([y46]:List aJ))>>=fun y47=>some y47)
  partial_fixpoint
def kH (p0:List aJ) (p1:aA) (p2:Bool):Option (List aJ) :=
  if (decide (p1.kind=1))=true then ((aBo p1.value)>>=fun y1=>(appG 32 p0 ([y1]:List aJ))>>=fun y2=>some y2) else (if (decide (p1.kind=2))=true then (if (!decide (p1.qual=[]))=true then ((I5 p1.qual)>>=fun y3=>(mE [46])>>=fun y4=>(appG 32 p0 ([y3,y4]:List aJ))>>=fun y5=>O4 p1 y5) else (O4 p1 p0)) else (if (decide (p1.kind=3))=true then ((zX p1.op)>>=fun y6=>(appG 32 p0 ([y6]:List aJ))>>=fun y7=>(rQ y7 p1 0 p2)>>=fun y8=>some y8) else (if (decide (p1.kind=9))=true then ((jF 19)>>=fun y9=>(mE [40])>>=fun y10=>(appG 32 p0 ([y9,y10]:List aJ))>>=fun y11=>(idx p1.sub 0)>>=fun y12=>(X9 y11 y12 p2)>>=fun y13=>(mE [41])>>=fun y14=>(appG 32 y13 ([y14]:List aJ))>>=fun y15=>some y15) else ((rQ p0 p1 0 p2)>>=fun y16=>if (decide (p1.kind=4))=true then ((zX p1.op)>>=fun y17=>(appG 32 y16 ([y17]:List aJ))>>=fun y18=>(rQ y18 p1 1 p2)>>=fun y19=>some y19) else (if (decide (p1.kind=5))=true then ((jF 16)>>=fun y20=>(appG 32 y16 ([y20]:List aJ))>>=fun y21=>(zI y21 p1)>>=fun y22=>(jF 20)>>=fun y23=>(appG 32 y22 ([y23]:List aJ))>>=fun y24=>some y24) else (if (decide (p1.kind=6))=true then ((zI y16 p1)>>=fun y25=>(jF 18)>>=fun y26=>(appG 32 y25 ([y26]:List aJ))>>=fun y27=>(rQ y27 p1 1 p2)>>=fun y28=>(jF 13)>>=fun y29=>(appG 32 y28 ([y29]:List aJ))>>=fun y30=>(rQ y30 p1 2 p2)>>=fun y31=>some y31) else ((zI y16 p1)>>=fun y32=>(jF 17)>>=fun y33=>(mE [40])>>=fun y34=>(appG 32 y32 ([y33,y34]:List aJ))>>=fun y35=>if (decide (p1.kind=8))=true then ((idx p1.sub 0)>>=fun y36=>(X9 y35 y36 p2)>>=fun y37=>(mE [41])>>=fun y38=>(appG 32 y37 ([y38]:List aJ))>>=fun y39=>some y39) else (wK p2 p1 y35 1))))))))
  partial_fixpoint
end
def aC9 (p0:aQ) (x3:Int) (bC:Int):Option (Int×aQ) :=
  some (x3,(aQ.mk p0.b bC (IntKind.wrap .i64 ((IntKind.wrap .i64 (p0.h * 6364136223846793005))+1442695040888963407))))
def uR (p0:aQ):Option (Int×aQ) :=
  if (decide (p0.i<(p0.b.length:Int)))=true then ((idx p0.b p0.i)>>=fun y1=>aC9 p0 (IntKind.wrap .i64 ((BitVec.ofInt (IntKind.bits .i64) (IntKind.wrap .i64 ((IntKind.wrap .i64 ((BitVec.ofInt (IntKind.bits .i64) (IntKind.wrap .i64 ((BitVec.ofInt (IntKind.bits .i64) (Int.fdiv (IntKind.wrap .i64 ((IntKind.wrap .i64 (p0.h * 6364136223846793005))+1442695040888963407)) (2 ^ 33)) ^^^ BitVec.ofInt (IntKind.bits .i64) (Int.fdiv (IntKind.wrap .i64 ((IntKind.wrap .i64 (p0.h * 6364136223846793005))+1442695040888963407)) (2 ^ 45))).toNat:Int)) &&& BitVec.ofInt (IntKind.bits .i64) 255).toNat:Int))+(IntKind.wrap .i64 y1))) &&& BitVec.ofInt (IntKind.bits .i64) 255).toNat:Int)) (IntKind.wrap .i64 (p0.i+1))) else (aC9 p0 (IntKind.wrap .i64 ((BitVec.ofInt (IntKind.bits .i64) (IntKind.wrap .i64 ((BitVec.ofInt (IntKind.bits .i64) (Int.fdiv (IntKind.wrap .i64 ((IntKind.wrap .i64 (p0.h * 6364136223846793005))+1442695040888963407)) (2 ^ 33)) ^^^ BitVec.ofInt (IntKind.bits .i64) (Int.fdiv (IntKind.wrap .i64 ((IntKind.wrap .i64 (p0.h * 6364136223846793005))+1442695040888963407)) (2 ^ 45))).toNat:Int)) &&& BitVec.ofInt (IntKind.bits .i64) 255).toNat:Int)) p0.i)
def iL (p0:aQ) (p1:Int):Option (Int×aQ) :=
  if (decide (p1≤0))=true then (some (0,p0)) else (if (decide (p1≤256))=true then ((uR p0)>>=fun y1=>(J7 y1.1 p1)>>=fun y2=>some (y2,y1.2)) else ((uR p0)>>=fun y3=>(uR y3.2)>>=fun y4=>(uR y4.2)>>=fun y5=>(uR y5.2)>>=fun y6=>(J7 (IntKind.wrap .i64 ((IntKind.wrap .i64 ((IntKind.wrap .i64 ((IntKind.wrap .i64 (y3.1 * 16777216))+(IntKind.wrap .i64 (y4.1 * 65536))))+(IntKind.wrap .i64 (y5.1 * 256))))+y6.1)) p1)>>=fun y7=>some (y7,y6.2)))
def yL (p0:List Int) (x3:Int) (x4:Int):Option aQ :=
  (some (if (decide (x4<(p0.length:Int)))=true then (decide (x4<4000)) else false))>>=fun y1=>if y1=true then ((idx p0 x4)>>=fun y2=>yL p0 (IntKind.wrap .i64 ((BitVec.ofInt (IntKind.bits .i64) (IntKind.wrap .i64 ((IntKind.wrap .i64 ((IntKind.wrap .i64 (x3 * 131))+(IntKind.wrap .i64 y2)))+7)) &&& BitVec.ofInt (IntKind.bits .i64) 1073741823).toNat:Int)) (IntKind.wrap .i64 (x4+1))) else (some (aQ.mk p0 0 x3))
  partial_fixpoint
def aB7 (p0:List Int):Option aQ :=
  yL p0 (IntKind.wrap .i64 (28322+(p0.length:Int))) 0
def aAs (p0:List Int) (p1:Int):Option Int :=
  if (decide (p1<(IntKind.wrap .i64 (2+(IntKind.wrap .i64 (Int.tdiv (p0.length:Int) 20))))))=true then (some p1) else (some (IntKind.wrap .i64 (2+(IntKind.wrap .i64 (Int.tdiv (p0.length:Int) 20)))))
def iJ (p0:aQ) (p1:Int):Option (Bool×aQ) :=
  (iL p0 p1)>>=fun y1=>some ((decide (y1.1=0)),y1.2)
def nL (p0:aQ) (p1:List (List UInt8)):Option ((List UInt8)×aQ) :=
  (iL p0 (p1.length:Int))>>=fun y1=>(idx p1 y1.1)>>=fun y2=>some (y2,y1.2)
def yS (p0:aQ):Option ((List UInt8)×aQ) :=
  (iJ p0 6)>>=fun y1=>if y1.1=true then ((nL y1.2 ([[97,32,98],[102,114,111,109],[83,101,108,101,99,116],[49,120],[113,34,113],[0],[34],[105,116,39,115],[120,46,121],[45]]:List (List UInt8)))>>=fun y2=>some (y2.1,y2.2)) else ((nL y1.2 ([[97],[98],[99],[116],[117],[118],[105,100],[110,97,109,101],[65],[95,120,49]]:List (List UInt8)))>>=fun y3=>some (y3.1,y3.2))
def aAt (jY:List UInt8) (rP:List UInt8) (jG:List Int) (vF:Int) (uN:Int):Option (aA×aQ) :=
  some ((aA.mk 2 0 false (bJ.mk 0 0 []) jY rP ([]:List aA) ([]:List aY)),(aQ.mk jG vF uN))
def Y7 (y1:(List UInt8)×aQ) (jY:List UInt8) (bD:List Int) (bC:Int) (bF:Int):Option (aA×aQ) :=
  (iJ (aQ.mk bD bC bF) 12)>>=fun y4=>if y4.1=true then ((yS y4.2)>>=fun y5=>aAt jY y5.1 y5.2.b y5.2.i y5.2.h) else (aAt jY y1.1 y4.2.b y4.2.i y4.2.h)
def X6 (p0:aQ):Option (aA×aQ) :=
  (nL p0 ([[97],[98],[99],[105,100],[110,97,109,101]]:List (List UInt8)))>>=fun y1=>(iJ y1.2 3)>>=fun y2=>if y2.1=true then ((nL y2.2 ([[116],[117],[118]]:List (List UInt8)))>>=fun y3=>Y7 y1 y3.1 y3.2.b y3.2.i y3.2.h) else (Y7 y1 [] y2.2.b y2.2.i y2.2.h)
def J5 (p0:aQ) (p1:List Int):Option (Int×aQ) :=
  (iL p0 (p1.length:Int))>>=fun y1=>(idx p1 y1.1)>>=fun y2=>some (y2,y1.2)
def aBw (y1:Bool×aQ) (bL:List bV) (bQ:List bR) (eQ:List aA) (fP:List eB) (lX:Int) (xK:List Int) (wE:Int) (xI:Int):Option (aY×aQ) :=
  some ((aY.mk y1.1 bL bQ eQ fP lX),(aQ.mk xK wE xI))
def Q9 (y1:Bool×aQ) (bL:List bV) (bQ:List bR) (eQ:List aA) (fP:List eB) (xO:List Int) (wL:Int) (wB:Int):Option (aY×aQ) :=
  (iJ (aQ.mk xO wL wB) 4)>>=fun y47=>if y47.1=true then ((J5 y47.2 ([0,1,2,9223372036854775807]:List Int))>>=fun y48=>aBw y1 bL bQ eQ fP y48.1 y48.2.b y48.2.i y48.2.h) else (aBw y1 bL bQ eQ fP (-1) y47.2.b y47.2.i y47.2.h)
def aDz (p0:Int):Option bJ :=
  some (bJ.mk 1 p0 [])
def H7 (p0:aQ):Option (Int×aQ) :=
  (iL p0 3)>>=fun y1=>if (decide (y1.1=0))=true then ((J5 y1.2 ([0,1,(-1),63,64,(-64),(-65),127,128,16383,16384,9223372036854775807,(-9223372036854775808),4611686018427387904]:List Int))>>=fun y2=>some (y2.1,y2.2)) else (if (decide (y1.1=1))=true then ((iL y1.2 1000000)>>=fun y3=>some ((IntKind.wrap .i64 (y3.1 - 500000)),y3.2)) else ((iL y1.2 20)>>=fun y4=>some (y4.1,y4.2)))
def aAa (p0:aQ):Option (bJ×aQ) :=
  (iL p0 6)>>=fun y1=>if (decide (y1.1=0))=true then (some ((bJ.mk 0 0 []),y1.2)) else (if (decide (y1.1=1))=true then ((nL y1.2 ([[],[97],[98],[105,116,39,115],[97,98],[255]]:List (List UInt8)))>>=fun y2=>(aCk y2.1)>>=fun y3=>some (y3,y2.2)) else (if (decide (y1.1=2))=true then ((iJ y1.2 2)>>=fun y4=>(yP y4.1)>>=fun y5=>some (y5,y4.2)) else (if (decide (y1.1=3))=true then ((H7 y1.2)>>=fun y6=>(aDz y6.1)>>=fun y7=>some (y7,y6.2)) else ((iL y1.2 7)>>=fun y8=>(aDz (IntKind.wrap .i64 (y8.1 - 2)))>>=fun y9=>some (y9,y8.2)))))
def aD0 (y1:bJ×aQ) (bG:Int):Option (bJ×aQ) :=
  some ((bJ.mk y1.1.kind bG y1.1.text),y1.2)
def M3 (p0:aQ):Option (bJ×aQ) :=
  (aAa p0)>>=fun y1=>(some (if (decide (y1.1.kind=1))=true then (decide (y1.1.num<0)) else false))>>=fun y2=>if y2=true then (aD0 y1 9223372036854775807) else (aD0 y1 y1.1.num)
mutual
def F4 (p1:Int) (y1:Bool×aQ) (bL:List bV) (bQ:List bR) (eQ:List aA) (pV:List Int) (nH:Int×Int):Option (aY×aQ) :=
  (iJ (aQ.mk pV nH.1 nH.2) 3)>>=fun y39=>if y39.1=true then ((oD y39.2 p1)>>=fun y40=>(iJ y40.2 2)>>=fun y41=>(appG 144 [] ([(eB.mk y40.1 y41.1)]:List eB))>>=fun y42=>Q9 y1 bL bQ eQ y42 y41.2.b y41.2.i y41.2.h) else (Q9 y1 bL bQ eQ ([]:List eB) y39.2.b y39.2.i y39.2.h)
  partial_fixpoint
def N7 (p1:Int) (y17:Int×aQ) (x9:Int) (y1:Bool×aQ) (bL:List bV) (bQ:List bR) (ky22q:((List UInt8)×aQ)×(List UInt8)×(List aA)×(List Int)×Int×Int):Option (aY×aQ) :=
  (appG 56 bQ ([(bR.mk ky22q.1.1 ky22q.2.1 ky22q.2.2.1)]:List bR))>>=fun y46=>xY p1 y17 y1 bL (IntKind.wrap .i64 (x9+1)) y46 (ky22q.2.2.2.1,ky22q.2.2.2.2.1,ky22q.2.2.2.2.2)
  partial_fixpoint
def U9 (p1:Int) (y17:Int×aQ) (x9:Int) (y1:Bool×aQ) (bL:List bV) (bQ:List bR) (ky22:((List UInt8)×aQ)×(List UInt8)×(List Int)×Int×Int):Option (aY×aQ) :=
  (if (true&&((decide (0<x9))==true))=true then iJ (aQ.mk ky22.2.2.1 ky22.2.2.2.1 ky22.2.2.2.2) 2 else some ((default:Bool),(aQ.mk ky22.2.2.1 ky22.2.2.2.1 ky22.2.2.2.2)))>>=fun y33=>(some (if (decide (0<x9))=true then y33.1 else false))>>=fun y34=>if y34=true then ((oD y33.2 p1)>>=fun y35=>N7 p1 y17 x9 y1 bL bQ (ky22.1,ky22.2.1,([y35.1]:List aA),y35.2.b,y35.2.i,y35.2.h)) else (N7 p1 y17 x9 y1 bL bQ (ky22.1,ky22.2.1,([]:List aA),y33.2.b,y33.2.i,y33.2.h))
  partial_fixpoint
def xY (p1:Int) (y17:Int×aQ) (y1:Bool×aQ) (bL:List bV) (x9:Int) (bQ:List bR) (jZ:(List Int)×Int×Int):Option (aY×aQ) :=
  if (decide (x9<(IntKind.wrap .i64 (1+y17.1))))=true then ((nL (aQ.mk jZ.1 jZ.2.1 jZ.2.2) ([[116],[117],[118]]:List (List UInt8)))>>=fun y22=>(iJ y22.2 3)>>=fun y23=>if y23.1=true then ((yS y23.2)>>=fun y24=>U9 p1 y17 x9 y1 bL bQ (y22,y24.1,y24.2.b,y24.2.i,y24.2.h)) else (U9 p1 y17 x9 y1 bL bQ (y22,[],y23.2.b,y23.2.i,y23.2.h))) else ((iJ (aQ.mk jZ.1 jZ.2.1 jZ.2.2) 2)>>=fun y28=>if y28.1=true then ((oD y28.2 p1)>>=fun y29=>F4 p1 y1 bL bQ ([y29.1]:List aA) y29.2.b (y29.2.i,y29.2.h)) else (F4 p1 y1 bL bQ ([]:List aA) y28.2.b (y28.2.i,y28.2.h)))
  partial_fixpoint
def Z4 (p1:Int) (y2:Int×aQ) (x7:Int) (y1:Bool×aQ) (bL:List bV) (y11:aA×aQ) (jX:(List UInt8)×(List Int)×Int×Int):Option (aY×aQ) :=
  (appG 176 bL ([(bV.mk false [] y11.1 jX.1)]:List bV))>>=fun y21=>H9 p1 y2 x7 y1 y21 jX.2.1 (jX.2.2.1,jX.2.2.2)
  partial_fixpoint
def H9 (p1:Int) (y2:Int×aQ) (x7:Int) (y1:Bool×aQ) (nV:List bV) (jG:List Int) (mZ:Int×Int):Option (aY×aQ) :=
  yE p1 y2 y1 (IntKind.wrap .i64 (x7+1)) nV jG (mZ.1,mZ.2)
  partial_fixpoint
def yE (p1:Int) (y2:Int×aQ) (y1:Bool×aQ) (x7:Int) (bL:List bV) (bD:List Int) (lQ:Int×Int):Option (aY×aQ) :=
  if (decide (x7<(IntKind.wrap .i64 (1+y2.1))))=true then ((iL (aQ.mk bD lQ.1 lQ.2) 5)>>=fun y3=>if (decide (y3.1=0))=true then ((appG 176 bL ([(bV.mk true [] (aA.mk 0 0 false (bJ.mk 0 0 []) [] [] ([]:List aA) ([]:List aY)) [])]:List bV))>>=fun y4=>H9 p1 y2 x7 y1 y4 y3.2.b (y3.2.i,y3.2.h)) else (if (decide (y3.1=1))=true then ((nL y3.2 ([[116],[117]]:List (List UInt8)))>>=fun y9=>(appG 176 bL ([(bV.mk true y9.1 (aA.mk 0 0 false (bJ.mk 0 0 []) [] [] ([]:List aA) ([]:List aY)) [])]:List bV))>>=fun y10=>H9 p1 y2 x7 y1 y10 y9.2.b (y9.2.i,y9.2.h)) else ((oD y3.2 p1)>>=fun y11=>(iJ y11.2 2)>>=fun y12=>if y12.1=true then ((yS y12.2)>>=fun y13=>Z4 p1 y2 x7 y1 bL y11 (y13.1,y13.2.b,y13.2.i,y13.2.h)) else (Z4 p1 y2 x7 y1 bL y11 ([],y12.2.b,y12.2.i,y12.2.h))))) else ((iL (aQ.mk bD lQ.1 lQ.2) 2)>>=fun y17=>xY p1 y17 y1 bL 0 ([]:List bR) (y17.2.b,y17.2.i,y17.2.h))
  partial_fixpoint
def I7 (p0:aQ) (p1:Int):Option (aY×aQ) :=
  (iJ p0 4)>>=fun y1=>(iL y1.2 2)>>=fun y2=>yE p1 y2 y1 0 ([]:List bV) y2.2.b (y2.2.i,y2.2.h)
  partial_fixpoint
def E5 (p1:Int) (p2:Int) (x7:List aA) (x8:Int) (bD:List Int) (bC:Int) (bF:Int):Option ((List aA)×aQ) :=
  if (decide (x8<p2))=true then ((oD (aQ.mk bD bC bF) (IntKind.wrap .i64 (p1 - 1)))>>=fun y1=>(appG 136 x7 ([y1.1]:List aA))>>=fun y2=>E5 p1 p2 y2 (IntKind.wrap .i64 (x8+1)) y1.2.b y1.2.i y1.2.h) else (some (x7,(aQ.mk bD bC bF)))
  partial_fixpoint
def qI (p0:aQ) (p1:Int) (p2:Int):Option ((List aA)×aQ) :=
  E5 p1 p2 ([]:List aA) 0 p0.b p0.i p0.h
  partial_fixpoint
def yV (p1:Int) (y6:Int×aQ):Option (aA×aQ) :=
  (iL y6.2 14)>>=fun y20=>(qI y20.2 p1 2)>>=fun y21=>some ((aA.mk 4 (IntKind.wrap .i64 (1+y20.1)) false (bJ.mk 0 0 []) [] [] y21.1 ([]:List aY)),y21.2)
  partial_fixpoint
def oD (p0:aQ) (p1:Int):Option (aA×aQ) :=
  (if (true&&((decide (p1≤0))==false))=true then iJ p0 5 else some ((default:Bool),p0))>>=fun y1=>(some (if (decide (p1≤0))=true then true else y1.1))>>=fun y2=>if y2=true then ((iJ y1.2 2)>>=fun y3=>if y3.1=true then ((X6 y3.2)>>=fun y4=>some (y4.1,y4.2)) else ((M3 y3.2)>>=fun y5=>some ((aA.mk 1 0 false y5.1 [] [] ([]:List aA) ([]:List aY)),y5.2))) else ((iL y1.2 12)>>=fun y6=>if (decide (y6.1=0))=true then ((qI y6.2 p1 1)>>=fun y7=>some ((aA.mk 3 15 false (bJ.mk 0 0 []) [] [] y7.1 ([]:List aY)),y7.2)) else (if (decide (y6.1=1))=true then ((qI y6.2 p1 1)>>=fun y8=>some ((aA.mk 3 16 false (bJ.mk 0 0 []) [] [] y8.1 ([]:List aY)),y8.2)) else (if (decide (y6.1=2))=true then ((iJ y6.2 2)>>=fun y9=>(qI y9.2 p1 1)>>=fun y10=>some ((aA.mk 5 0 y9.1 (bJ.mk 0 0 []) [] [] y10.1 ([]:List aY)),y10.2)) else (if (decide (y6.1=3))=true then ((iJ y6.2 2)>>=fun y11=>(qI y11.2 p1 3)>>=fun y12=>some ((aA.mk 6 0 y11.1 (bJ.mk 0 0 []) [] [] y12.1 ([]:List aY)),y12.2)) else (if (decide (y6.1=4))=true then ((iJ y6.2 2)>>=fun y13=>(iL y13.2 2)>>=fun y14=>(qI y14.2 p1 (IntKind.wrap .i64 (2+y14.1)))>>=fun y15=>some ((aA.mk 7 0 y13.1 (bJ.mk 0 0 []) [] [] y15.1 ([]:List aY)),y15.2)) else (if (decide (y6.1=5))=true then (if (decide (1<p1))=true then ((iJ y6.2 2)>>=fun y16=>(qI y16.2 p1 1)>>=fun y17=>(I7 y17.2 (IntKind.wrap .i64 (p1 - 2)))>>=fun y18=>some ((aA.mk 8 0 y16.1 (bJ.mk 0 0 []) [] [] y17.1 ([y18.1]:List aY)),y18.2)) else (yV p1 y6)) else (if (decide (y6.1=6))=true then (if (decide (1<p1))=true then ((I7 y6.2 (IntKind.wrap .i64 (p1 - 2)))>>=fun y19=>some ((aA.mk 9 0 false (bJ.mk 0 0 []) [] [] ([]:List aA) ([y19.1]:List aY)),y19.2)) else (yV p1 y6)) else (yV p1 y6))))))))
  partial_fixpoint
end
def aCh (p0:List Int):Option (aQ×aA) :=
  (aB7 p0)>>=fun y1=>(aAs p0 4)>>=fun y2=>(iL y1 y2)>>=fun y3=>(oD y3.2 y3.1)>>=fun y4=>some (y4.2,y4.1)
def uW (bD:List Int) (bC:Int) (bF:Int) (uL:List aJ):Option ((List aJ)×aQ) :=
  some (uL,(aQ.mk bD bC bF))
def tQ (xV:Int) (bG:List UInt8) (dX:Int) (bD:List Int) (bC:Int) (bF:Int):Option (aJ×aQ) :=
  some ((aJ.mk xV bG dX),(aQ.mk bD bC bF))
def aB8 (p0:Int) (p1:Int):Option Int :=
  if (decide (p1<p0))=true then (some p0) else (some p1)
def aD2 (p0:aQ):Option ((List UInt8)×aQ) :=
  (nL p0 ([[40],[41],[44],[46],[42],[43],[45],[47],[37],[61],[60,62],[60],[60,61],[62],[62,61],[124,124]]:List (List UInt8)))>>=fun y1=>some (y1.1,y1.2)
def aBe (p0:aQ):Option (aJ×aQ) :=
  (iL p0 6)>>=fun y1=>if (decide (y1.1=0))=true then ((Y8)>>=fun y2=>(iL y1.2 28)>>=fun y3=>(idx y2 (IntKind.wrap .i64 (1+y3.1)))>>=fun y4=>some ((aJ.mk 1 y4 0),y3.2)) else (if (decide (y1.1=1))=true then ((yS y1.2)>>=fun y5=>some ((aJ.mk 2 y5.1 0),y5.2)) else (if (decide (y1.1=2))=true then ((H7 y1.2)>>=fun y6=>(aB8 0 y6.1)>>=fun y7=>(xH y7)>>=fun y8=>some ((aJ.mk 3 y8 0),y6.2)) else (if (decide (y1.1=3))=true then ((nL y1.2 ([[],[120],[105,116,39,115],[39,39],[116,119,111,32,119,111,114,100,115],[34],[45,45],[0,255]]:List (List UInt8)))>>=fun y9=>some ((aJ.mk 4 y9.1 0),y9.2)) else ((aD2 y1.2)>>=fun y10=>some ((aJ.mk 5 y10.1 0),y10.2)))))
def X0 (p0:aQ):Option (aJ×aQ) :=
  (aBe p0)>>=fun y1=>(iL y1.2 10)>>=fun y2=>if (decide (y2.1=0))=true then ((iL y2.2 7)>>=fun y3=>tQ y3.1 y1.1.text y1.1.at_ y3.2.b y3.2.i y3.2.h) else (if (decide (y2.1=1))=true then ((nL y2.2 ([[],[115,101,108,101,99,116],[83,69,76,69,67,84,83],[48,49],[57,50,50,51,51,55,50,48,51,54,56,53,52,55,55,53,56,48,56],[61,62],[124],[97,98,99,100,101,102,103,104,105,106,107,108,109,110,111,112,113,114,115,116,117],[49,50,51,52,53,54,55,56,57,48,49,50,51,52,53,54,55,56,57,48,49,50,51,52,53,54,55,56,57,48,49,50,51,52,53,54,55,56,57,48,49]]:List (List UInt8)))>>=fun y4=>tQ y1.1.kind y4.1 y1.1.at_ y4.2.b y4.2.i y4.2.h) else (if (decide (y2.1=2))=true then ((H7 y2.2)>>=fun y5=>tQ y1.1.kind y1.1.text y5.1 y5.2.b y5.2.i y5.2.h) else (tQ y1.1.kind y1.1.text y1.1.at_ y2.2.b y2.2.i y2.2.h)))
def aBr (p0:aQ) (p1:List aJ):Option ((List aJ)×aQ) :=
  (appG 32 ([]:List aJ) p1)>>=fun y1=>(iL p0 (IntKind.wrap .i64 ((y1.length:Int)+1)))>>=fun y2=>(iL y2.2 7)>>=fun y3=>if (decide (y3.1=0))=true then ((lU y1 0 y2.1)>>=fun y4=>some (y4,y3.2)) else (if (decide (y3.1=1))=true then ((lU p1 0 y2.1)>>=fun y5=>(appG 32 ([]:List aJ) y5)>>=fun y6=>(X0 y3.2)>>=fun y7=>(appG 32 y6 ([y7.1]:List aJ))>>=fun y8=>(lU p1 y2.1 (p1.length:Int))>>=fun y9=>(appG 32 y8 y9)>>=fun y10=>uW y7.2.b y7.2.i y7.2.h y10) else (if (decide (y3.1=2))=true then (if (decide (y2.1<(y1.length:Int)))=true then ((lU p1 0 y2.1)>>=fun y11=>(appG 32 ([]:List aJ) y11)>>=fun y12=>(lU p1 (IntKind.wrap .i64 (y2.1+1)) (p1.length:Int))>>=fun y13=>(appG 32 y12 y13)>>=fun y14=>uW y3.2.b y3.2.i y3.2.h y14) else (uW y3.2.b y3.2.i y3.2.h y1)) else (if (decide (y3.1=3))=true then (if (decide (y2.1<(y1.length:Int)))=true then ((X0 y3.2)>>=fun y15=>(idx y1 y2.1)>>=fun y16=>uW y15.2.b y15.2.i y15.2.h (y1.set (y2.1).toNat y15.1)) else (uW y3.2.b y3.2.i y3.2.h y1)) else (uW y3.2.b y3.2.i y3.2.h y1))))
def aBf (p0:List Int):Option (List aJ) :=
  (aCh p0)>>=fun y1=>(kH ([]:List aJ) y1.2 false)>>=fun y2=>(aBr y1.1 y2)>>=fun y3=>(iJ y3.2 2)>>=fun y4=>if y4.1=true then ((iL y4.2 (IntKind.wrap .i64 ((y3.1.length:Int)+1)))>>=fun y5=>(lU y3.1 0 y5.1)>>=fun y6=>some y6) else (some y3.1)
def R4 (p0:List Int) (p1:Int):Option Int :=
  if (decide (p1<(p0.length:Int)))=true then ((idx p0 p1)>>=fun y1=>some (IntKind.wrap .i64 y1)) else (some (Int.tmod (IntKind.wrap .i64 ((IntKind.wrap .i64 (p1 * 7))+(p0.length:Int))) 256))
def aEs (p0:List Int):Option Bool :=
  some (decide (1048576<(p0.length:Int)))
def aAn (p0:List Int):Option Bool :=
  (aEs p0)>>=fun y1=>if y1=true then (some true) else ((aBf p0)>>=fun y2=>(vT y2)>>=fun y3=>(aCb y2)>>=fun y4=>if (!(y3==y4))=true then (some false) else ((R4 p0 3)>>=fun y5=>(J7 y5 (IntKind.wrap .i64 ((y2.length:Int)+1)))>>=fun y6=>(if (true&&((!y3)==false))=true then lU y2 0 y6 else some default)>>=fun y7=>(if (true&&((!y3)==false))=true then vT y7 else some default)>>=fun y8=>(some (if (!y3)=true then true else y8))>>=fun y9=>some y9))
end Go.Ab
