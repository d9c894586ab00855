/- The functions of the program,as Lean functions (printed by a program). -/
import Derived.Test.YteephiaimgcliaaGreatDoorAbF1
namespace Go.Ab
open Go
structure aJ where
  kind:Int
  text:(List UInt8)
  at_:Int
instance:Inhabited aJ:=⟨(aJ.mk 0 [] 0)⟩
structure bJ where
  kind:Int
  num:Int
  text:(List UInt8)
instance:Inhabited bJ:=⟨(bJ.mk 0 0 [])⟩
mutual
structure aA where
  kind:Int
  op:Int
  not_:Bool
  value:bJ
  qual:(List UInt8)
  name:(List UInt8)
  kids:(List aA)
  sub:(List aY)
structure bV where
  star:Bool
  qual:(List UInt8)
  expr:aA
  as_:(List UInt8)
structure aY where
  distinct:Bool
  items:(List bV)
  from_:(List bR)
  where_:(List aA)
  order:(List eB)
  limit:Int
structure eB where
  expr:aA
  desc:Bool
structure bR where
  table:(List UInt8)
  as_:(List UInt8)
  on_:(List aA)
end
instance:Inhabited aA:=⟨(aA.mk 0 0 false (bJ.mk 0 0 []) [] [] [] [])⟩
instance:Inhabited bV:=⟨(bV.mk false [] (aA.mk 0 0 false (bJ.mk 0 0 []) [] [] [] []) [])⟩
instance:Inhabited aY:=⟨(aY.mk false [] [] [] [] 0)⟩
instance:Inhabited eB:=⟨(eB.mk (aA.mk 0 0 false (bJ.mk 0 0 []) [] [] [] []) false)⟩
instance:Inhabited bR:=⟨(bR.mk [] [] [])⟩
structure aP where
  list:(List aJ)
  at_:Int
  failed:Bool
instance:Inhabited aP:=⟨(aP.mk [] 0 false)⟩
structure aU where
  t:(List aJ)
  at_:Int
  bad:Bool
instance:Inhabited aU:=⟨(aU.mk [] 0 false)⟩
structure aQ where
  b:(List Int)
  i:Int
  h:Int
instance:Inhabited aQ:=⟨(aQ.mk [] 0 0)⟩
def okGToken (x:aJ):Prop:=okI x.kind∧okS x.text∧okI x.at_
def okGValue (x:bJ):Prop:=okI x.kind∧okI x.num∧okS x.text
mutual
def okGExpr:aA→Prop
  | ⟨a0,a1,a2,a3,a4,a5,a6,a7⟩=>okI a0∧okI a1∧okB a2∧okGValue a3∧okS a4∧okS a5∧(a6.length≤9223372036854775807∧okLGExpr a6)∧(a7.length≤9223372036854775807∧okLGQuery a7)
def okGItem:bV→Prop
  | ⟨a0,a1,a2,a3⟩=>okB a0∧okS a1∧okGExpr a2∧okS a3
def okGQuery:aY→Prop
  | ⟨a0,a1,a2,a3,a4,a5⟩=>okB a0∧(a1.length≤9223372036854775807∧okLGItem a1)∧(a2.length≤9223372036854775807∧okLGSource a2)∧(a3.length≤9223372036854775807∧okLGExpr a3)∧(a4.length≤9223372036854775807∧okLGSortKey a4)∧okI a5
def okGSortKey:eB→Prop
  | ⟨a0,a1⟩=>okGExpr a0∧okB a1
def okGSource:bR→Prop
  | ⟨a0,a1,a2⟩=>okS a0∧okS a1∧(a2.length≤9223372036854775807∧okLGExpr a2)
def okLGExpr:List aA→Prop
  | []=>True
  | x::l=>okGExpr x∧okLGExpr l
def okLGItem:List bV→Prop
  | []=>True
  | x::l=>okGItem x∧okLGItem l
def okLGQuery:List aY→Prop
  | []=>True
  | x::l=>okGQuery x∧okLGQuery l
def okLGSortKey:List eB→Prop
  | []=>True
  | x::l=>okGSortKey x∧okLGSortKey l
def okLGSource:List bR→Prop
  | []=>True
  | x::l=>okGSource x∧okLGSource l
end
def okGParser (x:aP):Prop:=(okL okGToken) x.list∧okI x.at_∧okB x.failed
def okGL12In (x:aU):Prop:=(okL okGToken) x.t∧okI x.at_∧okB x.bad
def okGL1Cur (x:aQ):Prop:=(okL okU8) x.b∧okI x.i∧okI x.h
def aAs (p0:aP):Option Int :=
  (some (if p0.failed=true then true else (decide (p0.at_<(p0.list.length:Int)))))>>=fun y1=>if y1=true then (some p0.at_) else (some (-1))
def qN (p0:Int) (p1:aA) (p2:aA):Option aA :=
  some (aA.mk 4 p0 false (bJ.mk 0 0 []) [] [] ([p1,p2]:List aA) ([]:List aY))
def aHu (bG:Int):Option bJ :=
  some (bJ.mk 3 bG [])
def Z8 (p0:Bool):Option bJ :=
  if p0=true then (aHu 1) else (aHu 0)
def aFa (p0:Int):Option bJ :=
  some (bJ.mk 1 p0 [])
def qA (p0:bJ):Option aA :=
  some (aA.mk 1 0 false p0 [] [] ([]:List aA) ([]:List aY))
def aHy (x3:List Int):Option (List UInt8) :=
  (ofBytes x3)>>=fun y3=>some y3
mutual
def zT (p0:List UInt8) (x10:Int) (nK:List Int):Option (List UInt8) :=
  E9 p0 (IntKind.wrap .i64 (x10+1)) nK
  partial_fixpoint
def E9 (p0:List UInt8) (x10:Int) (iP:List Int):Option (List UInt8) :=
  if (decide (x10<((jL p0).length:Int)))=true then ((idx iP x10)>>=fun y1=>(some (if (decide (97≤y1))=true then (decide (y1≤122)) else false))>>=fun y2=>if y2=true then (zT p0 x10 (iP.set (x10).toNat (IntKind.wrap .u8 ((IntKind.wrap .u8 (y1 - 97))+65)))) else (zT p0 x10 (iP.set (x10).toNat y1))) else (aHy iP)
  partial_fixpoint
end
def P7 (p0:List UInt8):Option (List UInt8) :=
  E9 p0 0 (jL p0)
def pM (p0:List (List UInt8)) (p1:List UInt8) (x8:Int):Option Int :=
  if (decide (x8<(p0.length:Int)))=true then ((idx p0 x8)>>=fun y1=>if (decide (p1=y1))=true then (some x8) else (pM p0 p1 (IntKind.wrap .i64 (x8+1)))) else (some (-1))
  partial_fixpoint
def Q7 (p0:List (List UInt8)) (p1:List UInt8):Option Int :=
  pM p0 p1 0
def aMi (p0:List UInt8) (p1:List UInt8):Option (List (List UInt8)) :=
  aJt p0 p1
def aGo:Option (List (List UInt8)) :=
  (aMi [83,69,76,69,67,84,32,68,73,83,84,73,78,67,84,32,70,82,79,77,32,74,79,73,78,32,79,78,32,87,72,69,82,69,32,79,82,68,69,82,32,66,89,32,65,83,67,32,68,69,83,67,32,76,73,77,73,84,32,65,83,32,65,78,68,32,79,82,32,78,79,84,32,73,83,32,73,78,32,66,69,84,87,69,69,78,32,69,88,73,83,84,83,32,78,85,76,76,32,84,82,85,69,32,70,65,76,83,69,32,73,78,83,69,82,84,32,73,78,84,79,32,86,65,76,85,69,83,32,85,80,68,65,84,69,32,83,69,84,32,68,69,76,69,84,69] [32])>>=fun y1=>some y1
def P6 (p0:List UInt8):Option Int :=
  (aGo)>>=fun y1=>(P7 p0)>>=fun y2=>(Q7 y1 y2)>>=fun y3=>some (IntKind.wrap .i64 (y3+1))
def aAm (p0:List UInt8):Option Bool :=
  (some (if (decide (1≤(p0.length:Int)))=true then (decide ((p0.length:Int)≤20)) else false))>>=fun y1=>some y1
def wM (p0:List UInt8):Option (Int×Bool) :=
  aBx p0
def aFb (p0:List (List UInt8)) (p1:List UInt8):Option Bool :=
  (Q7 p0 p1)>>=fun y1=>some (decide (0≤y1))
def aH8:Option (List (List UInt8)) :=
  some ([[40],[41],[44],[46],[42],[43],[45],[47],[37],[61],[60,62],[60],[60,61],[62],[62,61],[124,124]]:List (List UInt8))
def aC0 (p0:List UInt8):Option Bool :=
  (aH8)>>=fun y1=>(aFb y1 p0)>>=fun y2=>some y2
def V5 (p0:aJ):Option Bool :=
  if (decide (p0.kind=1))=true then ((P6 p0.text)>>=fun y1=>(if (true&&((!decide (y1=0))==true))=true then P7 p0.text else some default)>>=fun y2=>(some (if (!decide (y1=0))=true then (decide (y2=p0.text)) else false))>>=fun y3=>some y3) else (if (decide (p0.kind=2))=true then ((aAm p0.text)>>=fun y4=>some y4) else (if (decide (p0.kind=3))=true then ((wM p0.text)>>=fun y5=>some y5.2) else (if (decide (p0.kind=4))=true then (some (decide ((p0.text.length:Int)≤40))) else (if (decide (p0.kind=5))=true then ((aC0 p0.text)>>=fun y6=>some y6) else (some false)))))
def uK (p0:aP) (p1:Int):Option Bool :=
  (some (if (!p0.failed)=true then (decide (p0.at_<(p0.list.length:Int))) else false))>>=fun y1=>(if (true&&(y1==true))=true then idx p0.list p0.at_ else some default)>>=fun y2=>(some (if y1=true then (decide (y2.kind=p1)) else false))>>=fun y3=>(if (true&&(y3==true))=true then idx p0.list p0.at_ else some default)>>=fun y4=>(if (true&&(y3==true))=true then V5 y4 else some default)>>=fun y5=>(some (if y3=true then y5 else false))>>=fun y6=>some y6
def rF (p0:aP) (p1:Int):Option ((List UInt8)×aP) :=
  (uK p0 p1)>>=fun y1=>if (!y1)=true then (some ([],(aP.mk p0.list p0.at_ true))) else ((idx p0.list (IntKind.wrap .i64 ((IntKind.wrap .i64 (p0.at_+1)) - 1)))>>=fun y2=>some (y2.text,(aP.mk p0.list (IntKind.wrap .i64 (p0.at_+1)) p0.failed)))
def Z7 (p0:aP):Option (Int×aP) :=
  (rF p0 3)>>=fun y1=>(wM y1.1)>>=fun y2=>some (y2.1,y1.2)
def oV (p0:aP) (p1:Int) (p2:Int) (p3:List UInt8):Option Bool :=
  (some (if (!p0.failed)=true then (decide ((IntKind.wrap .i64 (p0.at_+p1))<(p0.list.length:Int))) else false))>>=fun y1=>(if (true&&(y1==true))=true then idx p0.list (IntKind.wrap .i64 (p0.at_+p1)) else some default)>>=fun y2=>(some (if y1=true then (decide (y2.kind=p2)) else false))>>=fun y3=>(if (true&&(y3==true))=true then idx p0.list (IntKind.wrap .i64 (p0.at_+p1)) else some default)>>=fun y4=>(some (if y3=true then (decide (y4.text=p3)) else false))>>=fun y5=>some y5
def aCs (p0:aP) (p1:List UInt8):Option Bool :=
  (oV p0 0 5 p1)>>=fun y1=>some y1
def aAz (y1:Bool) (p0:aP) (bC:Int):Option (Bool×aP) :=
  some (y1,(aP.mk p0.list bC p0.failed))
def oQ (p0:aP) (p1:List UInt8):Option (Bool×aP) :=
  (aCs p0 p1)>>=fun y1=>if y1=true then (aAz y1 p0 (IntKind.wrap .i64 (p0.at_+1))) else (aAz y1 p0 p0.at_)
def vM (p0:aP) (p1:List UInt8):Option aP :=
  (oQ p0 p1)>>=fun y1=>if (!y1.1)=true then (some (aP.mk y1.2.list y1.2.at_ true)) else (some y1.2)
def V3 (p0:aP) (p1:List UInt8):Option Bool :=
  (oV p0 0 1 p1)>>=fun y1=>some y1
def aCr (y1:Bool) (p0:aP) (bC:Int):Option (Bool×aP) :=
  some (y1,(aP.mk p0.list bC p0.failed))
def jI (p0:aP) (p1:List UInt8):Option (Bool×aP) :=
  (V3 p0 p1)>>=fun y1=>if y1=true then (aCr y1 p0 (IntKind.wrap .i64 (p0.at_+1))) else (aCr y1 p0 p0.at_)
def U7 (p0:aP):Option ((List UInt8)×aP) :=
  (jI p0 [65,83])>>=fun y1=>if y1.1=true then ((rF y1.2 2)>>=fun y2=>some (y2.1,y2.2)) else (some ([],y1.2))
def tK (p0:aP) (p1:List UInt8):Option aP :=
  (jI p0 p1)>>=fun y1=>if (!y1.1)=true then (some (aP.mk y1.2.list y1.2.at_ true)) else (some y1.2)
def aB1 (y1:aA×aP) (yF:Bool) (bD:List aJ) (bC:Int) (bF:Bool):Option (eB×aP) :=
  some ((eB.mk y1.1 yF),(aP.mk bD bC bF))
def aD4 (y2:Bool×aP) (bG:List bV) (y8:(List bR)×aP) (y9:(List aA)×aP) (jZ:List eB) (lJ:Int) (wF:List aJ) (wW:Int) (xH:Bool):Option (aY×aP) :=
  some ((aY.mk y2.1 bG y8.1 y9.1 jZ lJ),(aP.mk wF wW xH))
def V9 (y2:Bool×aP) (bG:List bV) (y8:(List bR)×aP) (y9:(List aA)×aP) (jZ:List eB) (yG:List aJ) (xM:Int) (wG:Bool):Option (aY×aP) :=
  (jI (aP.mk yG xM wG) [76,73,77,73,84])>>=fun y23=>if y23.1=true then ((Z7 y23.2)>>=fun y24=>aD4 y2 bG y8 y9 jZ y24.1 y24.2.list y24.2.at_ y24.2.failed) else (aD4 y2 bG y8 y9 jZ (-1) y23.2.list y23.2.at_ y23.2.failed)
def yT (p0:aP):Option (bR×aP) :=
  (rF p0 2)>>=fun y1=>(U7 y1.2)>>=fun y2=>some ((bR.mk y1.1 y2.1 ([]:List aA)),y2.2)
def aFr (p0:List UInt8):Option bJ :=
  some (bJ.mk 2 0 p0)
def I8 (p0:Int):Option (List UInt8) :=
  (some (if (decide (p0<1))=true then true else (decide (16<p0))))>>=fun y1=>if y1=true then (some []) else ((idx ([[79,82],[65,78,68],[61],[60,62],[60],[60,61],[62],[62,61],[124,124],[43],[45],[42],[47],[37],[78,79,84],[45]]:List (List UInt8)) (IntKind.wrap .i64 (p0 - 1)))>>=fun y2=>some y2)
mutual
def D6 (y1:Int) (p1:List Int) (x10:Int) (p0:aP) (x7:Int):Option (Int×aP) :=
  (I8 y1)>>=fun y3=>(oV p0 0 x7 y3)>>=fun y4=>if y4=true then (some (y1,(aP.mk p0.list (IntKind.wrap .i64 (p0.at_+1)) p0.failed))) else (D7 p1 p0 (IntKind.wrap .i64 (x10+1)))
  partial_fixpoint
def D7 (p1:List Int) (p0:aP) (x10:Int):Option (Int×aP) :=
  if (decide (x10<(p1.length:Int)))=true then ((idx p1 x10)>>=fun y1=>(some (if (decide (y1=1))=true then true else (decide (y1=2))))>>=fun y2=>if y2=true then (D6 y1 p1 x10 p0 1) else (D6 y1 p1 x10 p0 5)) else (some (0,p0))
  partial_fixpoint
end
def nT (p0:aP) (p1:List Int):Option (Int×aP) :=
  D7 p1 p0 0
def Z5 (p2:Bool) (dF:Int) (yJ:List aA) (yH:List aY) (bD:List aJ) (bC:Int) (bF:Bool):Option (aA×aP) :=
  (vM (aP.mk bD bC bF) [41])>>=fun y6=>some ((aA.mk dF 0 p2 (bJ.mk 0 0 []) [] [] yJ yH),y6)
mutual
def zK (p2:List Int) (dF:Int) (dN:Int) (dJ:Bool) (dW:Int) (dV:Int) (bH:(List UInt8)×(List UInt8)×(List UInt8)×(List aA)×(List aY)×(List aJ)×Int×Bool):Option (aA×aP) :=
  (nT (aP.mk bH.2.2.2.2.2.1 bH.2.2.2.2.2.2.1 bH.2.2.2.2.2.2.2) p2)>>=fun y2=>if (decide (y2.1=0))=true then (some ((aA.mk dF dN dJ (bJ.mk dW dV bH.1) bH.2.1 bH.2.2.1 bH.2.2.2.1 bH.2.2.2.2.1),y2.2)) else ((A7 y2.2)>>=fun y3=>(qN y2.1 (aA.mk dF dN dJ (bJ.mk dW dV bH.1) bH.2.1 bH.2.2.1 bH.2.2.2.1 bH.2.2.2.2.1) y3.1)>>=fun y4=>zK p2 y4.kind y4.op y4.not_ y4.value.kind y4.value.num (y4.value.text,y4.qual,y4.name,y4.kids,y4.sub,y3.2.list,y3.2.at_,y3.2.failed))
  partial_fixpoint
def zN (x3:List aA) (bD:List aJ) (bC:Int) (bF:Bool):Option ((List aA)×aP) :=
  (oQ (aP.mk bD bC bF) [44])>>=fun y2=>if y2.1=true then ((jO y2.2)>>=fun y3=>(appG 136 x3 ([y3.1]:List aA))>>=fun y4=>zN y4 y3.2.list y3.2.at_ y3.2.failed) else (some (x3,y2.2))
  partial_fixpoint
def aFd (p0:aP):Option ((List aA)×aP) :=
  (jO p0)>>=fun y1=>zN ([y1.1]:List aA) y1.2.list y1.2.at_ y1.2.failed
  partial_fixpoint
def aC3 (p0:aP) (p1:aA) (p2:Bool):Option (aA×aP) :=
  (vM p0 [40])>>=fun y1=>(V3 y1 [83,69,76,69,67,84])>>=fun y2=>if y2=true then ((uQ y1)>>=fun y3=>Z5 p2 8 ([p1]:List aA) ([y3.1]:List aY) y3.2.list y3.2.at_ y3.2.failed) else ((aFd y1)>>=fun y4=>(appG 136 ([p1]:List aA) y4.1)>>=fun y5=>Z5 p2 7 y5 ([]:List aY) y4.2.list y4.2.at_ y4.2.failed)
  partial_fixpoint
def aA0 (p0:aP):Option ((List aA)×aP) :=
  (jI p0 [87,72,69,82,69])>>=fun y1=>if y1.1=true then ((jO y1.2)>>=fun y2=>some (([y2.1]:List aA),y2.2)) else (some (([]:List aA),y1.2))
  partial_fixpoint
def sG (x3:List bR) (bD:List aJ) (bC:Int) (bF:Bool):Option ((List bR)×aP) :=
  (oQ (aP.mk bD bC bF) [44])>>=fun y2=>if y2.1=true then ((yT y2.2)>>=fun y3=>(appG 56 x3 ([y3.1]:List bR))>>=fun y4=>sG y4 y3.2.list y3.2.at_ y3.2.failed) else ((jI y2.2 [74,79,73,78])>>=fun y5=>if y5.1=true then ((yT y5.2)>>=fun y6=>(tK y6.2 [79,78])>>=fun y7=>(jO y7)>>=fun y8=>(appG 56 x3 ([(bR.mk y6.1.table y6.1.as_ ([y8.1]:List aA))]:List bR))>>=fun y9=>sG y9 y8.2.list y8.2.at_ y8.2.failed) else (some (x3,y5.2)))
  partial_fixpoint
def aE5 (p0:aP):Option ((List bR)×aP) :=
  (yT p0)>>=fun y1=>sG ([y1.1]:List bR) y1.2.list y1.2.at_ y1.2.failed
  partial_fixpoint
def uM (y2:Bool×aP) (bG:List bV) (y8:(List bR)×aP) (y9:(List aA)×aP) (gM:List eB) (nE:List aJ) (mE:Int×Bool):Option (aY×aP) :=
  (oQ (aP.mk nE mE.1 mE.2) [44])>>=fun y20=>if y20.1=true then ((F4 y20.2)>>=fun y21=>(appG 144 gM ([y21.1]:List eB))>>=fun y22=>uM y2 bG y8 y9 y22 y21.2.list (y21.2.at_,y21.2.failed)) else (V9 y2 bG y8 y9 gM y20.2.list y20.2.at_ y20.2.failed)
  partial_fixpoint
def F4 (p0:aP):Option (eB×aP) :=
  (jO p0)>>=fun y1=>(jI y1.2 [65,83,67])>>=fun y2=>if (!y2.1)=true then ((jI y2.2 [68,69,83,67])>>=fun y3=>aB1 y1 y3.1 y3.2.list y3.2.at_ y3.2.failed) else (aB1 y1 false y2.2.list y2.2.at_ y2.2.failed)
  partial_fixpoint
def uO (y2:Bool×aP) (bG:List bV) (bD:List aJ) (bC:Int) (bF:Bool):Option (aY×aP) :=
  (oQ (aP.mk bD bC bF) [44])>>=fun y4=>if y4.1=true then ((I6 y4.2)>>=fun y5=>(appG 176 bG ([y5.1]:List bV))>>=fun y6=>uO y2 y6 y5.2.list y5.2.at_ y5.2.failed) else ((tK y4.2 [70,82,79,77])>>=fun y7=>(aE5 y7)>>=fun y8=>(aA0 y8.2)>>=fun y9=>(jI y9.2 [79,82,68,69,82])>>=fun y10=>if y10.1=true then ((tK y10.2 [66,89])>>=fun y11=>(F4 y11)>>=fun y12=>uM y2 bG y8 y9 ([y12.1]:List eB) y12.2.list (y12.2.at_,y12.2.failed)) else (V9 y2 bG y8 y9 ([]:List eB) y10.2.list y10.2.at_ y10.2.failed))
  partial_fixpoint
def I6 (p0:aP):Option (bV×aP) :=
  (oQ p0 [42])>>=fun y1=>if y1.1=true then (some ((bV.mk true [] (aA.mk 0 0 false (bJ.mk 0 0 []) [] [] ([]:List aA) ([]:List aY)) []),y1.2)) else ((uK y1.2 2)>>=fun y2=>(if (true&&(y2==true))=true then oV y1.2 1 5 [46] else some (default:Bool))>>=fun y3=>(some (if y2=true then y3 else false))>>=fun y4=>(if (true&&(y4==true))=true then oV y1.2 2 5 [42] else some (default:Bool))>>=fun y5=>(some (if y4=true then y5 else false))>>=fun y6=>if y6=true then ((rF y1.2 2)>>=fun y7=>some ((bV.mk true y7.1 (aA.mk 0 0 false (bJ.mk 0 0 []) [] [] ([]:List aA) ([]:List aY)) []),(aP.mk y7.2.list (IntKind.wrap .i64 (y7.2.at_+2)) y7.2.failed))) else ((jO y1.2)>>=fun y8=>(U7 y8.2)>>=fun y9=>some ((bV.mk false [] y8.1 y9.1),y9.2)))
  partial_fixpoint
def uQ (p0:aP):Option (aY×aP) :=
  (tK p0 [83,69,76,69,67,84])>>=fun y1=>(jI y1 [68,73,83,84,73,78,67,84])>>=fun y2=>(I6 y2.2)>>=fun y3=>uO y2 ([y3.1]:List bV) y3.2.list y3.2.at_ y3.2.failed
  partial_fixpoint
def zF (p0:aP):Option (aA×aP) :=
  (uK p0 3)>>=fun y1=>if y1=true then ((Z7 p0)>>=fun y2=>(aFa y2.1)>>=fun y3=>(qA y3)>>=fun y4=>some (y4,y2.2)) else ((uK p0 4)>>=fun y5=>if y5=true then ((rF p0 4)>>=fun y6=>(aFr y6.1)>>=fun y7=>(qA y7)>>=fun y8=>some (y8,y6.2)) else ((jI p0 [78,85,76,76])>>=fun y9=>if y9.1=true then ((qA (bJ.mk 0 0 []))>>=fun y10=>some (y10,y9.2)) else ((jI y9.2 [84,82,85,69])>>=fun y11=>if y11.1=true then ((Z8 true)>>=fun y12=>(qA y12)>>=fun y13=>some (y13,y11.2)) else ((jI y11.2 [70,65,76,83,69])>>=fun y14=>if y14.1=true then ((Z8 false)>>=fun y15=>(qA y15)>>=fun y16=>some (y16,y14.2)) else ((uK y14.2 2)>>=fun y17=>if y17=true then ((rF y14.2 2)>>=fun y18=>(oQ y18.2 [46])>>=fun y19=>if y19.1=true then ((rF y19.2 2)>>=fun y20=>some ((aA.mk 2 0 false (bJ.mk 0 0 []) y18.1 y20.1 ([]:List aA) ([]:List aY)),y20.2)) else (some ((aA.mk 2 0 false (bJ.mk 0 0 []) [] y18.1 ([]:List aA) ([]:List aY)),y19.2))) else ((oQ y14.2 [40])>>=fun y21=>if y21.1=true then ((jO y21.2)>>=fun y22=>(vM y22.2 [41])>>=fun y23=>some (y22.1,y23)) else ((jI y21.2 [69,88,73,83,84,83])>>=fun y24=>if y24.1=true then ((vM y24.2 [40])>>=fun y25=>(uQ y25)>>=fun y26=>(vM y26.2 [41])>>=fun y27=>some ((aA.mk 9 0 false (bJ.mk 0 0 []) [] [] ([]:List aA) ([y26.1]:List aY)),y27)) else (some ((aA.mk 0 0 false (bJ.mk 0 0 []) [] [] ([]:List aA) ([]:List aY)),(aP.mk y24.2.list y24.2.at_ true))))))))))
  partial_fixpoint
def tN (p0:aP):Option (aA×aP) :=
  (oQ p0 [45])>>=fun y1=>if y1.1=true then ((tN y1.2)>>=fun y2=>some ((aA.mk 3 16 false (bJ.mk 0 0 []) [] [] ([y2.1]:List aA) ([]:List aY)),y2.2)) else ((zF y1.2)>>=fun y3=>some (y3.1,y3.2))
  partial_fixpoint
def U2 (p2:List Int) (dF:Int) (dN:Int) (dJ:Bool) (dW:Int) (dV:Int) (bH:(List UInt8)×(List UInt8)×(List UInt8)×(List aA)×(List aY)×(List aJ)×Int×Bool):Option (aA×aP) :=
  (nT (aP.mk bH.2.2.2.2.2.1 bH.2.2.2.2.2.2.1 bH.2.2.2.2.2.2.2) p2)>>=fun y2=>if (decide (y2.1=0))=true then (some ((aA.mk dF dN dJ (bJ.mk dW dV bH.1) bH.2.1 bH.2.2.1 bH.2.2.2.1 bH.2.2.2.2.1),y2.2)) else ((tN y2.2)>>=fun y3=>(qN y2.1 (aA.mk dF dN dJ (bJ.mk dW dV bH.1) bH.2.1 bH.2.2.1 bH.2.2.2.1 bH.2.2.2.2.1) y3.1)>>=fun y4=>U2 p2 y4.kind y4.op y4.not_ y4.value.kind y4.value.num (y4.value.text,y4.qual,y4.name,y4.kids,y4.sub,y3.2.list,y3.2.at_,y3.2.failed))
  partial_fixpoint
def aA6 (p0:aP) (p2:List Int):Option (aA×aP) :=
  (tN p0)>>=fun y1=>U2 p2 y1.1.kind y1.1.op y1.1.not_ y1.1.value.kind y1.1.value.num (y1.1.value.text,y1.1.qual,y1.1.name,y1.1.kids,y1.1.sub,y1.2.list,y1.2.at_,y1.2.failed)
  partial_fixpoint
def F6 (p0:aP):Option (aA×aP) :=
  (aA6 p0 ([12,13,14]:List Int))>>=fun y1=>some (y1.1,y1.2)
  partial_fixpoint
def Q3 (p2:List Int) (dF:Int) (dN:Int) (dJ:Bool) (dW:Int) (dV:Int) (bH:(List UInt8)×(List UInt8)×(List UInt8)×(List aA)×(List aY)×(List aJ)×Int×Bool):Option (aA×aP) :=
  (nT (aP.mk bH.2.2.2.2.2.1 bH.2.2.2.2.2.2.1 bH.2.2.2.2.2.2.2) p2)>>=fun y2=>if (decide (y2.1=0))=true then (some ((aA.mk dF dN dJ (bJ.mk dW dV bH.1) bH.2.1 bH.2.2.1 bH.2.2.2.1 bH.2.2.2.2.1),y2.2)) else ((F6 y2.2)>>=fun y3=>(qN y2.1 (aA.mk dF dN dJ (bJ.mk dW dV bH.1) bH.2.1 bH.2.2.1 bH.2.2.2.1 bH.2.2.2.2.1) y3.1)>>=fun y4=>Q3 p2 y4.kind y4.op y4.not_ y4.value.kind y4.value.num (y4.value.text,y4.qual,y4.name,y4.kids,y4.sub,y3.2.list,y3.2.at_,y3.2.failed))
  partial_fixpoint
def aAv (p0:aP) (p2:List Int):Option (aA×aP) :=
  (F6 p0)>>=fun y1=>Q3 p2 y1.1.kind y1.1.op y1.1.not_ y1.1.value.kind y1.1.value.num (y1.1.value.text,y1.1.qual,y1.1.name,y1.1.kids,y1.1.sub,y1.2.list,y1.2.at_,y1.2.failed)
  partial_fixpoint
def zO (p0:aP):Option (aA×aP) :=
  (aAv p0 ([10,11]:List Int))>>=fun y1=>some (y1.1,y1.2)
  partial_fixpoint
def O6 (p2:List Int) (dF:Int) (dN:Int) (dJ:Bool) (dW:Int) (dV:Int) (bH:(List UInt8)×(List UInt8)×(List UInt8)×(List aA)×(List aY)×(List aJ)×Int×Bool):Option (aA×aP) :=
  (nT (aP.mk bH.2.2.2.2.2.1 bH.2.2.2.2.2.2.1 bH.2.2.2.2.2.2.2) p2)>>=fun y2=>if (decide (y2.1=0))=true then (some ((aA.mk dF dN dJ (bJ.mk dW dV bH.1) bH.2.1 bH.2.2.1 bH.2.2.2.1 bH.2.2.2.2.1),y2.2)) else ((zO y2.2)>>=fun y3=>(qN y2.1 (aA.mk dF dN dJ (bJ.mk dW dV bH.1) bH.2.1 bH.2.2.1 bH.2.2.2.1 bH.2.2.2.2.1) y3.1)>>=fun y4=>O6 p2 y4.kind y4.op y4.not_ y4.value.kind y4.value.num (y4.value.text,y4.qual,y4.name,y4.kids,y4.sub,y3.2.list,y3.2.at_,y3.2.failed))
  partial_fixpoint
def aC9 (p0:aP) (p2:List Int):Option (aA×aP) :=
  (zO p0)>>=fun y1=>O6 p2 y1.1.kind y1.1.op y1.1.not_ y1.1.value.kind y1.1.value.num (y1.1.value.text,y1.1.qual,y1.1.name,y1.1.kids,y1.1.sub,y1.2.list,y1.2.at_,y1.2.failed)
  partial_fixpoint
def uN (p0:aP):Option (aA×aP) :=
  (aC9 p0 ([9]:List Int))>>=fun y1=>some (y1.1,y1.2)
  partial_fixpoint
def vZ (p0:aP):Option (aA×aP) :=
  (uN p0)>>=fun y1=>(nT y1.2 ([3,4,5,6,7,8]:List Int))>>=fun y2=>if (!decide (y2.1=0))=true then ((uN y2.2)>>=fun y3=>(qN y2.1 y1.1 y3.1)>>=fun y4=>some (y4,y3.2)) else ((jI y2.2 [73,83])>>=fun y5=>if y5.1=true then ((jI y5.2 [78,79,84])>>=fun y6=>(tK y6.2 [78,85,76,76])>>=fun y7=>some ((aA.mk 5 0 y6.1 (bJ.mk 0 0 []) [] [] ([y1.1]:List aA) ([]:List aY)),y7)) else ((jI y5.2 [78,79,84])>>=fun y8=>(jI y8.2 [66,69,84,87,69,69,78])>>=fun y9=>if y9.1=true then ((uN y9.2)>>=fun y10=>(tK y10.2 [65,78,68])>>=fun y11=>(uN y11)>>=fun y12=>some ((aA.mk 6 0 y8.1 (bJ.mk 0 0 []) [] [] ([y1.1,y10.1,y12.1]:List aA) ([]:List aY)),y12.2)) else ((jI y9.2 [73,78])>>=fun y13=>if y13.1=true then ((aC3 y13.2 y1.1 y8.1)>>=fun y14=>some (y14.1,y14.2)) else ((some (if y13.2.failed=true then true else y8.1))>>=fun y15=>some (y1.1,(aP.mk y13.2.list y13.2.at_ y15))))))
  partial_fixpoint
def rJ (p0:aP):Option (aA×aP) :=
  (jI p0 [78,79,84])>>=fun y1=>if y1.1=true then ((rJ y1.2)>>=fun y2=>some ((aA.mk 3 15 false (bJ.mk 0 0 []) [] [] ([y2.1]:List aA) ([]:List aY)),y2.2)) else ((vZ y1.2)>>=fun y3=>some (y3.1,y3.2))
  partial_fixpoint
def P8 (p2:List Int) (dF:Int) (dN:Int) (dJ:Bool) (dW:Int) (dV:Int) (bH:(List UInt8)×(List UInt8)×(List UInt8)×(List aA)×(List aY)×(List aJ)×Int×Bool):Option (aA×aP) :=
  (nT (aP.mk bH.2.2.2.2.2.1 bH.2.2.2.2.2.2.1 bH.2.2.2.2.2.2.2) p2)>>=fun y2=>if (decide (y2.1=0))=true then (some ((aA.mk dF dN dJ (bJ.mk dW dV bH.1) bH.2.1 bH.2.2.1 bH.2.2.2.1 bH.2.2.2.2.1),y2.2)) else ((rJ y2.2)>>=fun y3=>(qN y2.1 (aA.mk dF dN dJ (bJ.mk dW dV bH.1) bH.2.1 bH.2.2.1 bH.2.2.2.1 bH.2.2.2.2.1) y3.1)>>=fun y4=>P8 p2 y4.kind y4.op y4.not_ y4.value.kind y4.value.num (y4.value.text,y4.qual,y4.name,y4.kids,y4.sub,y3.2.list,y3.2.at_,y3.2.failed))
  partial_fixpoint
def aAh (p0:aP) (p2:List Int):Option (aA×aP) :=
  (rJ p0)>>=fun y1=>P8 p2 y1.1.kind y1.1.op y1.1.not_ y1.1.value.kind y1.1.value.num (y1.1.value.text,y1.1.qual,y1.1.name,y1.1.kids,y1.1.sub,y1.2.list,y1.2.at_,y1.2.failed)
  partial_fixpoint
def A7 (p0:aP):Option (aA×aP) :=
  (aAh p0 ([2]:List Int))>>=fun y1=>some (y1.1,y1.2)
  partial_fixpoint
def aBw (p0:aP) (p2:List Int):Option (aA×aP) :=
  (A7 p0)>>=fun y1=>zK p2 y1.1.kind y1.1.op y1.1.not_ y1.1.value.kind y1.1.value.num (y1.1.value.text,y1.1.qual,y1.1.name,y1.1.kids,y1.1.sub,y1.2.list,y1.2.at_,y1.2.failed)
  partial_fixpoint
def jO (p0:aP):Option (aA×aP) :=
  (aBw p0 ([1]:List Int))>>=fun y1=>some (y1.1,y1.2)
  partial_fixpoint
end
def zW (p0:List aJ):Option (aA×Int) :=
  (jO (aP.mk p0 0 false))>>=fun y1=>(aAs y1.2)>>=fun y2=>if (decide (0≤y2))=true then (some ((aA.mk 0 0 false (bJ.mk 0 0 []) [] [] ([]:List aA) ([]:List aY)),y2)) else (some (y1.1,(-1)))
def F7 (p0:List aJ):Option Bool :=
  (zW p0)>>=fun y1=>(some (if (decide (y1.2<0))=true then true else (decide (y1.2=(p0.length:Int)))))>>=fun y2=>some y2
def G6 (p0:List UInt8):Option aJ :=
  some (aJ.mk 2 p0 0)
def W9 (p1:aA) (x0:List aJ):Option (List aJ) :=
  (G6 p1.name)>>=fun y41=>(appG 32 x0 ([y41]:List aJ))>>=fun y42=>some y42
def lM (p0:List UInt8):Option aJ :=
  some (aJ.mk 5 p0 0)
def pO (p0:Int) (p1:Int) (p2:Int):Option Bool :=
  (some (if (decide (p1≤p0))=true then (decide (p0≤p2)) else false))>>=fun y1=>some y1
def vO:Option Int :=
  some 0
def yZ (p0:aA) (x9:Bool):Option Int :=
  if x9=true then (some 4) else (if (decide (p0.kind=3))=true then (if (decide (p0.op=15))=true then (some 3) else (if (decide (p0.op=16))=true then (some 8) else (vO))) else (if (decide (p0.kind=4))=true then ((pO p0.op 1 14)>>=fun y1=>if y1=true then ((idx ([0,1,2,4,4,4,4,4,4,5,6,6,7,7,7]:List Int) p0.op)>>=fun y2=>some y2) else (vO)) else (vO)))
def M0 (p0:aA) (x5:Bool):Option Int :=
  if x5=true then (some 9) else (if (decide (p0.kind=5))=true then (yZ p0 (decide (p0.kind=5))) else (if (decide (p0.kind=6))=true then (yZ p0 (decide (p0.kind=6))) else (if (decide (p0.kind=7))=true then (yZ p0 (decide (p0.kind=7))) else (yZ p0 (decide (p0.kind=8))))))
def vP (p0:aA):Option Int :=
  if (decide (p0.kind=1))=true then (M0 p0 (decide (p0.kind=1))) else (if (decide (p0.kind=2))=true then (M0 p0 (decide (p0.kind=2))) else (M0 p0 (decide (p0.kind=9))))
def aCp:Option Int :=
  some 5
def aC8 (p0:aA) (p1:Int):Option Int :=
  (vP p0)>>=fun y1=>(pO p1 0 (IntKind.wrap .i64 ((p0.kids.length:Int) - 1)))>>=fun y2=>(some (if (!y2)=true then true else (decide (y1=0))))>>=fun y3=>(some (if y3=true then true else (decide (y1=9))))>>=fun y4=>if y4=true then (some 0) else (if (decide (p0.kind=3))=true then (some y1) else (if (decide (p0.kind=4))=true then (if (decide (y1=4))=true then (some 5) else (if (decide (p1=0))=true then (some y1) else (some (IntKind.wrap .i64 (y1+1))))) else (if (decide (p0.kind=7))=true then (if (decide (0<p1))=true then (some 1) else (aCp)) else (aCp))))
def aBd (p0:aA) (p1:Int):Option Bool :=
  (pO p1 0 (IntKind.wrap .i64 ((p0.kids.length:Int) - 1)))>>=fun y1=>(if (true&&(y1==true))=true then idx p0.kids p1 else some default)>>=fun y2=>(if (true&&(y1==true))=true then vP y2 else some default)>>=fun y3=>(if (true&&(y1==true))=true then aC8 p0 p1 else some default)>>=fun y4=>(some (if y1=true then (decide (y3<y4)) else false))>>=fun y5=>some y5
def Y4:Option (List (List UInt8)) :=
  some ([[],[83,69,76,69,67,84],[68,73,83,84,73,78,67,84],[70,82,79,77],[74,79,73,78],[79,78],[87,72,69,82,69],[79,82,68,69,82],[66,89],[65,83,67],[68,69,83,67],[76,73,77,73,84],[65,83],[65,78,68],[79,82],[78,79,84],[73,83],[73,78],[66,69,84,87,69,69,78],[69,88,73,83,84,83],[78,85,76,76],[84,82,85,69],[70,65,76,83,69],[73,78,83,69,82,84],[73,78,84,79],[86,65,76,85,69,83],[85,80,68,65,84,69],[83,69,84],[68,69,76,69,84,69]]:List (List UInt8))
def gZ (p0:Int):Option (List UInt8) :=
  (pO p0 1 28)>>=fun y1=>if (!y1)=true then (some []) else ((Y4)>>=fun y2=>(idx y2 p0)>>=fun y3=>some y3)
def jH (p0:Int):Option aJ :=
  (gZ p0)>>=fun y1=>some (aJ.mk 1 y1 0)
mutual
def zV (x0:Int) (p0:Int) (x4:List UInt8) (x5:Int):Option (List UInt8) :=
  (ofBytes ([(IntKind.wrap .u8 (IntKind.wrap .i64 (48+x5)))]:List Int))>>=fun y2=>(xA y2 x4)>>=fun y3=>H9 p0 (IntKind.wrap .i64 (Int.tdiv x0 10)) y3
  partial_fixpoint
def H9 (p0:Int) (x0:Int) (x4:List UInt8):Option (List UInt8) :=
  if (!decide (x0=0))=true then (if (decide ((Int.tmod x0 10)<0))=true then (zV x0 p0 x4 (IntKind.wrap .i64 (0 - (Int.tmod x0 10)))) else (zV x0 p0 x4 (Int.tmod x0 10))) else (if (decide (p0<0))=true then ((xA [45] x4)>>=fun y1=>some y1) else (some x4))
  partial_fixpoint
end
def wU (p0:Int):Option (List UInt8) :=
  if (decide (p0=0))=true then (some [48]) else (H9 p0 p0 [])
def aCv (p0:bJ):Option aJ :=
  if (decide (p0.kind=1))=true then ((wU p0.num)>>=fun y1=>some (aJ.mk 3 y1 0)) else (if (decide (p0.kind=2))=true then (some (aJ.mk 4 p0.text 0)) else (if (decide (p0.kind=3))=true then (if (decide (p0.num=1))=true then ((jH 21)>>=fun y2=>some y2) else ((jH 22)>>=fun y3=>some y3)) else ((jH 20)>>=fun y4=>some y4)))
def I1 (p0:List aJ) (p1:aA):Option (List aJ) :=
  if p1.not_=true then ((jH 15)>>=fun y1=>(appG 32 p0 ([y1]:List aJ))>>=fun y2=>some y2) else (some p0)
def aF9 (p0:Int):Option (List UInt8) :=
  (pO p0 1 16)>>=fun y1=>if (!y1)=true then (some []) else ((idx ([[],[79,82],[65,78,68],[61],[60,62],[60],[60,61],[62],[62,61],[124,124],[43],[45],[42],[47],[37],[78,79,84],[45]]:List (List UInt8)) p0)>>=fun y2=>some y2)
def zI (p0:Int):Option aJ :=
  (some (if (decide (p0=1))=true then true else (decide (p0=2))))>>=fun y1=>(some (if y1=true then true else (decide (p0=15))))>>=fun y2=>if y2=true then ((aF9 p0)>>=fun y3=>some (aJ.mk 1 y3 0)) else ((aF9 p0)>>=fun y4=>(lM y4)>>=fun y5=>some y5)
def X3 (p0:List aJ) (p1:List UInt8):Option (List aJ) :=
  if (decide (p1=[]))=true then (some p0) else ((jH 12)>>=fun y1=>(G6 p1)>>=fun y2=>(appG 32 p0 ([y1,y2]:List aJ))>>=fun y3=>some y3)
def L6 (x0:List aJ):Option (List aJ) :=
  (lM [42])>>=fun y6=>(appG 32 x0 ([y6]:List aJ))>>=fun y7=>some y7
def aEq (uC:List aJ):Option (List aJ) :=
  some uC
mutual
def Y8 (p0:List aJ) (p1:List aA) (p2:Bool):Option (List aJ) :=
  if (decide ((p1.length:Int)=0))=true then (some p0) else ((jH 6)>>=fun y1=>(appG 32 p0 ([y1]:List aJ))>>=fun y2=>(idx p1 0)>>=fun y3=>(kX y2 y3 p2)>>=fun y4=>some y4)
  partial_fixpoint
def U0 (p2:Bool) (x8:Int) (p1:aY) (pG:List aJ):Option (List aJ) :=
  yS p2 p1 pG (IntKind.wrap .i64 (x8+1))
  partial_fixpoint
def Z6 (p2:Bool) (x8:Int) (p1:aY) (pV:List aJ):Option (List aJ) :=
  (idx p1.order x8)>>=fun y26=>(kX pV y26.expr p2)>>=fun y27=>(idx p1.order x8)>>=fun y28=>if y28.desc=true then ((jH 10)>>=fun y29=>(appG 32 y27 ([y29]:List aJ))>>=fun y30=>U0 p2 x8 p1 y30) else (U0 p2 x8 p1 y27)
  partial_fixpoint
def yS (p2:Bool) (p1:aY) (mJ:List aJ) (x8:Int):Option (List aJ) :=
  if (decide (x8<(p1.order.length:Int)))=true then (if (decide (x8=0))=true then ((jH 7)>>=fun y16=>(jH 8)>>=fun y17=>(appG 32 mJ ([y16,y17]:List aJ))>>=fun y18=>Z6 p2 x8 p1 y18) else ((lM [44])>>=fun y20=>(appG 32 mJ ([y20]:List aJ))>>=fun y21=>Z6 p2 x8 p1 y21)) else (if (decide (0≤p1.limit))=true then ((jH 11)>>=fun y22=>(wU p1.limit)>>=fun y23=>(appG 32 mJ ([y22,(aJ.mk 3 y23 0)]:List aJ))>>=fun y24=>aEq y24) else (aEq mJ))
  partial_fixpoint
def aAf (p0:List aJ) (p1:bV) (p2:Bool):Option (List aJ) :=
  if (!p1.star)=true then ((kX p0 p1.expr p2)>>=fun y1=>(X3 y1 p1.as_)>>=fun y2=>some y2) else (if (!decide (p1.qual=[]))=true then ((G6 p1.qual)>>=fun y3=>(lM [46])>>=fun y4=>(appG 32 p0 ([y3,y4]:List aJ))>>=fun y5=>L6 y5) else (L6 p0))
  partial_fixpoint
def N9 (p2:Bool) (x7:Int) (p1:aY) (oM:List aJ):Option (List aJ) :=
  (idx p1.items x7)>>=fun y14=>(aAf oM y14 p2)>>=fun y15=>xY p2 p1 y15 (IntKind.wrap .i64 (x7+1))
  partial_fixpoint
def P9 (p1:List bR) (p2:Bool) (x7:Int) (nJ:List aJ):Option (List aJ) :=
  wE p1 p2 nJ (IntKind.wrap .i64 (x7+1))
  partial_fixpoint
def L8 (p1:List bR) (p2:Bool) (x7:Int) (mU:List aJ):Option (List aJ) :=
  (idx p1 x7)>>=fun y11=>(G6 y11.table)>>=fun y12=>(appG 32 mU ([y12]:List aJ))>>=fun y13=>(idx p1 x7)>>=fun y14=>(X3 y13 y14.as_)>>=fun y15=>(idx p1 x7)>>=fun y16=>if (decide (0<(y16.on_.length:Int)))=true then ((jH 5)>>=fun y17=>(appG 32 y15 ([y17]:List aJ))>>=fun y18=>(idx p1 x7)>>=fun y19=>(idx y19.on_ 0)>>=fun y20=>(kX y18 y20 p2)>>=fun y21=>P9 p1 p2 x7 y21) else (P9 p1 p2 x7 y15)
  partial_fixpoint
def U5 (p1:List bR) (p2:Bool) (x7:Int) (gX:List aJ):Option (List aJ) :=
  (if (true&&((decide (0<x7))==true))=true then idx p1 x7 else some default)>>=fun y6=>(some (if (decide (0<x7))=true then (decide ((y6.on_.length:Int)=0)) else false))>>=fun y7=>if y7=true then ((lM [44])>>=fun y8=>(appG 32 gX ([y8]:List aJ))>>=fun y9=>L8 p1 p2 x7 y9) else (L8 p1 p2 x7 gX)
  partial_fixpoint
def wE (p1:List bR) (p2:Bool) (x0:List aJ) (x7:Int):Option (List aJ) :=
  if (decide (x7<(p1.length:Int)))=true then ((if (true&&((decide (0<x7))==true))=true then idx p1 x7 else some default)>>=fun y1=>(some (if (decide (0<x7))=true then (decide (0<(y1.on_.length:Int))) else false))>>=fun y2=>if y2=true then ((jH 4)>>=fun y3=>(appG 32 x0 ([y3]:List aJ))>>=fun y4=>U5 p1 p2 x7 y4) else (U5 p1 p2 x7 x0)) else (some x0)
  partial_fixpoint
def aFg (p0:List aJ) (p1:List bR) (p2:Bool):Option (List aJ) :=
  wE p1 p2 p0 0
  partial_fixpoint
def xY (p2:Bool) (p1:aY) (gX:List aJ) (x7:Int):Option (List aJ) :=
  if (decide (x7<(p1.items.length:Int)))=true then (if (decide (0<x7))=true then ((lM [44])>>=fun y6=>(appG 32 gX ([y6]:List aJ))>>=fun y7=>N9 p2 x7 p1 y7) else (N9 p2 x7 p1 gX)) else ((jH 3)>>=fun y9=>(appG 32 gX ([y9]:List aJ))>>=fun y10=>(aFg y10 p1.from_ p2)>>=fun y11=>(Y8 y11 p1.where_ p2)>>=fun y12=>yS p2 p1 y12 0)
  partial_fixpoint
def K6 (p2:Bool) (p1:aY) (x0:List aJ):Option (List aJ) :=
  xY p2 p1 x0 0
  partial_fixpoint
def O3 (p0:List aJ) (p1:aY) (p2:Bool):Option (List aJ) :=
  (jH 1)>>=fun y1=>(appG 32 p0 ([y1]:List aJ))>>=fun y2=>if p1.distinct=true then ((jH 2)>>=fun y3=>(appG 32 y2 ([y3]:List aJ))>>=fun y4=>K6 p2 p1 y4) else (K6 p2 p1 y2)
  partial_fixpoint
def tF (p0:List aJ) (p1:aA) (p2:Int) (p3:Bool):Option (List aJ) :=
  (idx p1.kids p2)>>=fun y1=>(aBd p1 p2)>>=fun y2=>(if ((true&&(y2==false))&&(p3==true))=true then vP y1 else some default)>>=fun y3=>(if (true&&(y2==false))=true then some (if p3=true then (decide (y3<9)) else false) else some default)>>=fun y4=>(some (if y2=true then true else y4))>>=fun y5=>if y5=true then ((lM [40])>>=fun y6=>(appG 32 p0 ([y6]:List aJ))>>=fun y7=>(kX y7 y1 p3)>>=fun y8=>(lM [41])>>=fun y9=>(appG 32 y8 ([y9]:List aJ))>>=fun y10=>some y10) else ((kX p0 y1 p3)>>=fun y11=>some y11)
  partial_fixpoint
def X7 (p2:Bool) (x7:Int) (p1:aA) (oU:List aJ):Option (List aJ) :=
  (tF oU p1 x7 p2)>>=fun y48=>xC p2 p1 y48 (IntKind.wrap .i64 (x7+1))
  partial_fixpoint
def xC (p2:Bool) (p1:aA) (mZ:List aJ) (x7:Int):Option (List aJ) :=
  if (decide (x7<(p1.kids.length:Int)))=true then (if (decide (1<x7))=true then ((lM [44])>>=fun y43=>(appG 32 mZ ([y43]:List aJ))>>=fun y44=>X7 p2 x7 p1 y44) else (X7 p2 x7 p1 mZ)) else ((lM [41])>>=fun y46=>(appG 32 mZ ([y46]:List aJ))>>=fun y47=>some y47)
  partial_fixpoint
def kX (p0:List aJ) (p1:aA) (p2:Bool):Option (List aJ) :=
  if (decide (p1.kind=1))=true then ((aCv p1.value)>>=fun y1=>(appG 32 p0 ([y1]:List aJ))>>=fun y2=>some y2) else (if (decide (p1.kind=2))=true then (if (!decide (p1.qual=[]))=true then ((G6 p1.qual)>>=fun y3=>(lM [46])>>=fun y4=>(appG 32 p0 ([y3,y4]:List aJ))>>=fun y5=>W9 p1 y5) else (W9 p1 p0)) else (if (decide (p1.kind=3))=true then ((zI p1.op)>>=fun y6=>(appG 32 p0 ([y6]:List aJ))>>=fun y7=>(tF y7 p1 0 p2)>>=fun y8=>some y8) else (if (decide (p1.kind=9))=true then ((jH 19)>>=fun y9=>(lM [40])>>=fun y10=>(appG 32 p0 ([y9,y10]:List aJ))>>=fun y11=>(idx p1.sub 0)>>=fun y12=>(O3 y11 y12 p2)>>=fun y13=>(lM [41])>>=fun y14=>(appG 32 y13 ([y14]:List aJ))>>=fun y15=>some y15) else ((tF p0 p1 0 p2)>>=fun y16=>if (decide (p1.kind=4))=true then ((zI p1.op)>>=fun y17=>(appG 32 y16 ([y17]:List aJ))>>=fun y18=>(tF y18 p1 1 p2)>>=fun y19=>some y19) else (if (decide (p1.kind=5))=true then ((jH 16)>>=fun y20=>(appG 32 y16 ([y20]:List aJ))>>=fun y21=>(I1 y21 p1)>>=fun y22=>(jH 20)>>=fun y23=>(appG 32 y22 ([y23]:List aJ))>>=fun y24=>some y24) else (if (decide (p1.kind=6))=true then ((I1 y16 p1)>>=fun y25=>(jH 18)>>=fun y26=>(appG 32 y25 ([y26]:List aJ))>>=fun y27=>(tF y27 p1 1 p2)>>=fun y28=>(jH 13)>>=fun y29=>(appG 32 y28 ([y29]:List aJ))>>=fun y30=>(tF y30 p1 2 p2)>>=fun y31=>some y31) else ((I1 y16 p1)>>=fun y32=>(jH 17)>>=fun y33=>(lM [40])>>=fun y34=>(appG 32 y32 ([y33,y34]:List aJ))>>=fun y35=>if (decide (p1.kind=8))=true then ((idx p1.sub 0)>>=fun y36=>(O3 y35 y36 p2)>>=fun y37=>(lM [41])>>=fun y38=>(appG 32 y37 ([y38]:List aJ))>>=fun y39=>some y39) else (xC p2 p1 y35 1))))))))
  partial_fixpoint
end
def aC6 (p0:aQ) (x3:Int) (bC:Int):Option (Int×aQ) :=
  some (x3,(aQ.mk p0.b bC (IntKind.wrap .i64 ((IntKind.wrap .i64 (p0.h * 6364136223846793005))+1442695040888963407))))
def uT (p0:aQ):Option (Int×aQ) :=
  if (decide (p0.i<(p0.b.length:Int)))=true then ((idx p0.b p0.i)>>=fun y1=>aC6 p0 (IntKind.wrap .i64 ((BitVec.ofInt (IntKind.bits .i64) (IntKind.wrap .i64 ((IntKind.wrap .i64 ((BitVec.ofInt (IntKind.bits .i64) (IntKind.wrap .i64 ((BitVec.ofInt (IntKind.bits .i64) (Int.fdiv (IntKind.wrap .i64 ((IntKind.wrap .i64 (p0.h * 6364136223846793005))+1442695040888963407)) (2 ^ 33)) ^^^ BitVec.ofInt (IntKind.bits .i64) (Int.fdiv (IntKind.wrap .i64 ((IntKind.wrap .i64 (p0.h * 6364136223846793005))+1442695040888963407)) (2 ^ 45))).toNat:Int)) &&& BitVec.ofInt (IntKind.bits .i64) 255).toNat:Int))+(IntKind.wrap .i64 y1))) &&& BitVec.ofInt (IntKind.bits .i64) 255).toNat:Int)) (IntKind.wrap .i64 (p0.i+1))) else (aC6 p0 (IntKind.wrap .i64 ((BitVec.ofInt (IntKind.bits .i64) (IntKind.wrap .i64 ((BitVec.ofInt (IntKind.bits .i64) (Int.fdiv (IntKind.wrap .i64 ((IntKind.wrap .i64 (p0.h * 6364136223846793005))+1442695040888963407)) (2 ^ 33)) ^^^ BitVec.ofInt (IntKind.bits .i64) (Int.fdiv (IntKind.wrap .i64 ((IntKind.wrap .i64 (p0.h * 6364136223846793005))+1442695040888963407)) (2 ^ 45))).toNat:Int)) &&& BitVec.ofInt (IntKind.bits .i64) 255).toNat:Int)) p0.i)
def iM (p0:aQ) (p1:Int):Option (Int×aQ) :=
  if (decide (p1≤0))=true then (some (0,p0)) else (if (decide (p1≤256))=true then ((uT p0)>>=fun y1=>(P5 y1.1 p1)>>=fun y2=>some (y2,y1.2)) else ((uT p0)>>=fun y3=>(uT y3.2)>>=fun y4=>(uT y4.2)>>=fun y5=>(uT y5.2)>>=fun y6=>(P5 (IntKind.wrap .i64 ((IntKind.wrap .i64 ((IntKind.wrap .i64 ((IntKind.wrap .i64 (y3.1 * 16777216))+(IntKind.wrap .i64 (y4.1 * 65536))))+(IntKind.wrap .i64 (y5.1 * 256))))+y6.1)) p1)>>=fun y7=>some (y7,y6.2)))
def yI (p0:List Int) (x3:Int) (x4:Int):Option aQ :=
  (some (if (decide (x4<(p0.length:Int)))=true then (decide (x4<4000)) else false))>>=fun y1=>if y1=true then ((idx p0 x4)>>=fun y2=>yI p0 (IntKind.wrap .i64 ((BitVec.ofInt (IntKind.bits .i64) (IntKind.wrap .i64 ((IntKind.wrap .i64 ((IntKind.wrap .i64 (x3 * 131))+(IntKind.wrap .i64 y2)))+7)) &&& BitVec.ofInt (IntKind.bits .i64) 1073741823).toNat:Int)) (IntKind.wrap .i64 (x4+1))) else (some (aQ.mk p0 0 x3))
  partial_fixpoint
def aBn (p0:List Int):Option aQ :=
  yI p0 (IntKind.wrap .i64 (28322+(p0.length:Int))) 0
def aBu (p0:List Int) (p1:Int):Option Int :=
  if (decide (p1<(IntKind.wrap .i64 (2+(IntKind.wrap .i64 (Int.tdiv (p0.length:Int) 20))))))=true then (some p1) else (some (IntKind.wrap .i64 (2+(IntKind.wrap .i64 (Int.tdiv (p0.length:Int) 20)))))
def iI (p0:aQ) (p1:Int):Option (Bool×aQ) :=
  (iM p0 p1)>>=fun y1=>some ((decide (y1.1=0)),y1.2)
def mR (p0:aQ) (p1:List (List UInt8)):Option ((List UInt8)×aQ) :=
  (iM p0 (p1.length:Int))>>=fun y1=>(idx p1 y1.1)>>=fun y2=>some (y2,y1.2)
def yC (p0:aQ):Option ((List UInt8)×aQ) :=
  (iI p0 6)>>=fun y1=>if y1.1=true then ((mR y1.2 ([[97,32,98],[102,114,111,109],[83,101,108,101,99,116],[49,120],[113,34,113],[0],[34],[105,116,39,115],[120,46,121],[45]]:List (List UInt8)))>>=fun y2=>some (y2.1,y2.2)) else ((mR y1.2 ([[97],[98],[99],[116],[117],[118],[105,100],[110,97,109,101],[65],[95,120,49]]:List (List UInt8)))>>=fun y3=>some (y3.1,y3.2))
def aCj (kG:List UInt8) (tC:List UInt8) (jG:List Int) (tY:Int) (vQ:Int):Option (aA×aQ) :=
  some ((aA.mk 2 0 false (bJ.mk 0 0 []) kG tC ([]:List aA) ([]:List aY)),(aQ.mk jG tY vQ))
def Z9 (y1:(List UInt8)×aQ) (kG:List UInt8) (bD:List Int) (bC:Int) (bF:Int):Option (aA×aQ) :=
  (iI (aQ.mk bD bC bF) 12)>>=fun y4=>if y4.1=true then ((yC y4.2)>>=fun y5=>aCj kG y5.1 y5.2.b y5.2.i y5.2.h) else (aCj kG y1.1 y4.2.b y4.2.i y4.2.h)
def Q8 (p0:aQ):Option (aA×aQ) :=
  (mR p0 ([[97],[98],[99],[105,100],[110,97,109,101]]:List (List UInt8)))>>=fun y1=>(iI y1.2 3)>>=fun y2=>if y2.1=true then ((mR y2.2 ([[116],[117],[118]]:List (List UInt8)))>>=fun y3=>Z9 y1 y3.1 y3.2.b y3.2.i y3.2.h) else (Z9 y1 [] y2.2.b y2.2.i y2.2.h)
def zM (p0:aQ) (p1:List Int):Option (Int×aQ) :=
  (iM p0 (p1.length:Int))>>=fun y1=>(idx p1 y1.1)>>=fun y2=>some (y2,y1.2)
def aA7 (y1:Bool×aQ) (bL:List bV) (bP:List bR) (eQ:List aA) (fO:List eB) (lQ:Int) (yK:List Int) (vV:Int) (wJ:Int):Option (aY×aQ) :=
  some ((aY.mk y1.1 bL bP eQ fO lQ),(aQ.mk yK vV wJ))
def N7 (y1:Bool×aQ) (bL:List bV) (bP:List bR) (eQ:List aA) (fO:List eB) (wN:List Int) (wX:Int) (xN:Int):Option (aY×aQ) :=
  (iI (aQ.mk wN wX xN) 4)>>=fun y47=>if y47.1=true then ((zM y47.2 ([0,1,2,9223372036854775807]:List Int))>>=fun y48=>aA7 y1 bL bP eQ fO y48.1 y48.2.b y48.2.i y48.2.h) else (aA7 y1 bL bP eQ fO (-1) y47.2.b y47.2.i y47.2.h)
def wR (p0:Bool):Option bJ :=
  if p0=true then (some (bJ.mk 3 1 [])) else (some (bJ.mk 3 0 []))
def aFo (p0:Int):Option bJ :=
  some (bJ.mk 1 p0 [])
def zG (p0:aQ):Option (Int×aQ) :=
  (iM p0 3)>>=fun y1=>if (decide (y1.1=0))=true then ((zM y1.2 ([0,1,(-1),63,64,(-64),(-65),127,128,16383,16384,9223372036854775807,(-9223372036854775808),4611686018427387904]:List Int))>>=fun y2=>some (y2.1,y2.2)) else (if (decide (y1.1=1))=true then ((iM y1.2 1000000)>>=fun y3=>some ((IntKind.wrap .i64 (y3.1 - 500000)),y3.2)) else ((iM y1.2 20)>>=fun y4=>some (y4.1,y4.2)))
def aB0 (p0:List UInt8):Option bJ :=
  some (bJ.mk 2 0 p0)
def aBi (p0:aQ):Option (bJ×aQ) :=
  (iM p0 6)>>=fun y1=>if (decide (y1.1=0))=true then (some ((bJ.mk 0 0 []),y1.2)) else (if (decide (y1.1=1))=true then ((mR y1.2 ([[],[97],[98],[105,116,39,115],[97,98],[255]]:List (List UInt8)))>>=fun y2=>(aB0 y2.1)>>=fun y3=>some (y3,y2.2)) else (if (decide (y1.1=2))=true then ((iI y1.2 2)>>=fun y4=>(wR y4.1)>>=fun y5=>some (y5,y4.2)) else (if (decide (y1.1=3))=true then ((zG y1.2)>>=fun y6=>(aFo y6.1)>>=fun y7=>some (y7,y6.2)) else ((iM y1.2 7)>>=fun y8=>(aFo (IntKind.wrap .i64 (y8.1 - 2)))>>=fun y9=>some (y9,y8.2)))))
def aAl (y1:bJ×aQ) (bG:Int):Option (bJ×aQ) :=
  some ((bJ.mk y1.1.kind bG y1.1.text),y1.2)
def X5 (p0:aQ):Option (bJ×aQ) :=
  (aBi p0)>>=fun y1=>(some (if (decide (y1.1.kind=1))=true then (decide (y1.1.num<0)) else false))>>=fun y2=>if y2=true then (aAl y1 9223372036854775807) else (aAl y1 y1.1.num)
mutual
def D8 (p1:Int) (y1:Bool×aQ) (bL:List bV) (bP:List bR) (eQ:List aA) (oH:List Int) (nD:Int×Int):Option (aY×aQ) :=
  (iI (aQ.mk oH nD.1 nD.2) 3)>>=fun y39=>if y39.1=true then ((nS y39.2 p1)>>=fun y40=>(iI y40.2 2)>>=fun y41=>(appG 144 [] ([(eB.mk y40.1 y41.1)]:List eB))>>=fun y42=>N7 y1 bL bP eQ y42 y41.2.b y41.2.i y41.2.h) else (N7 y1 bL bP eQ ([]:List eB) y39.2.b y39.2.i y39.2.h)
  partial_fixpoint
def Q9 (p1:Int) (y17:Int×aQ) (x9:Int) (y1:Bool×aQ) (bL:List bV) (bP:List bR) (ky22q:((List UInt8)×aQ)×(List UInt8)×(List aA)×(List Int)×Int×Int):Option (aY×aQ) :=
  (appG 56 bP ([(bR.mk ky22q.1.1 ky22q.2.1 ky22q.2.2.1)]:List bR))>>=fun y46=>wB p1 y17 y1 bL (IntKind.wrap .i64 (x9+1)) y46 (ky22q.2.2.2.1,ky22q.2.2.2.2.1,ky22q.2.2.2.2.2)
  partial_fixpoint
def Y1 (p1:Int) (y17:Int×aQ) (x9:Int) (y1:Bool×aQ) (bL:List bV) (bP:List bR) (ky22:((List UInt8)×aQ)×(List UInt8)×(List Int)×Int×Int):Option (aY×aQ) :=
  (if (true&&((decide (0<x9))==true))=true then iI (aQ.mk ky22.2.2.1 ky22.2.2.2.1 ky22.2.2.2.2) 2 else some ((default:Bool),(aQ.mk ky22.2.2.1 ky22.2.2.2.1 ky22.2.2.2.2)))>>=fun y33=>(some (if (decide (0<x9))=true then y33.1 else false))>>=fun y34=>if y34=true then ((nS y33.2 p1)>>=fun y35=>Q9 p1 y17 x9 y1 bL bP (ky22.1,ky22.2.1,([y35.1]:List aA),y35.2.b,y35.2.i,y35.2.h)) else (Q9 p1 y17 x9 y1 bL bP (ky22.1,ky22.2.1,([]:List aA),y33.2.b,y33.2.i,y33.2.h))
  partial_fixpoint
def wB (p1:Int) (y17:Int×aQ) (y1:Bool×aQ) (bL:List bV) (x9:Int) (bP:List bR) (kE:(List Int)×Int×Int):Option (aY×aQ) :=
  if (decide (x9<(IntKind.wrap .i64 (1+y17.1))))=true then ((mR (aQ.mk kE.1 kE.2.1 kE.2.2) ([[116],[117],[118]]:List (List UInt8)))>>=fun y22=>(iI y22.2 3)>>=fun y23=>if y23.1=true then ((yC y23.2)>>=fun y24=>Y1 p1 y17 x9 y1 bL bP (y22,y24.1,y24.2.b,y24.2.i,y24.2.h)) else (Y1 p1 y17 x9 y1 bL bP (y22,[],y23.2.b,y23.2.i,y23.2.h))) else ((iI (aQ.mk kE.1 kE.2.1 kE.2.2) 2)>>=fun y28=>if y28.1=true then ((nS y28.2 p1)>>=fun y29=>D8 p1 y1 bL bP ([y29.1]:List aA) y29.2.b (y29.2.i,y29.2.h)) else (D8 p1 y1 bL bP ([]:List aA) y28.2.b (y28.2.i,y28.2.h)))
  partial_fixpoint
def Z0 (p1:Int) (y2:Int×aQ) (x7:Int) (y1:Bool×aQ) (bL:List bV) (y11:aA×aQ) (jX:(List UInt8)×(List Int)×Int×Int):Option (aY×aQ) :=
  (appG 176 bL ([(bV.mk false [] y11.1 jX.1)]:List bV))>>=fun y21=>H5 p1 y2 x7 y1 y21 jX.2.1 (jX.2.2.1,jX.2.2.2)
  partial_fixpoint
def H5 (p1:Int) (y2:Int×aQ) (x7:Int) (y1:Bool×aQ) (nP:List bV) (jG:List Int) (mP:Int×Int):Option (aY×aQ) :=
  wT p1 y2 y1 (IntKind.wrap .i64 (x7+1)) nP jG (mP.1,mP.2)
  partial_fixpoint
def wT (p1:Int) (y2:Int×aQ) (y1:Bool×aQ) (x7:Int) (bL:List bV) (bD:List Int) (kW:Int×Int):Option (aY×aQ) :=
  if (decide (x7<(IntKind.wrap .i64 (1+y2.1))))=true then ((iM (aQ.mk bD kW.1 kW.2) 5)>>=fun y3=>if (decide (y3.1=0))=true then ((appG 176 bL ([(bV.mk true [] (aA.mk 0 0 false (bJ.mk 0 0 []) [] [] ([]:List aA) ([]:List aY)) [])]:List bV))>>=fun y4=>H5 p1 y2 x7 y1 y4 y3.2.b (y3.2.i,y3.2.h)) else (if (decide (y3.1=1))=true then ((mR y3.2 ([[116],[117]]:List (List UInt8)))>>=fun y9=>(appG 176 bL ([(bV.mk true y9.1 (aA.mk 0 0 false (bJ.mk 0 0 []) [] [] ([]:List aA) ([]:List aY)) [])]:List bV))>>=fun y10=>H5 p1 y2 x7 y1 y10 y9.2.b (y9.2.i,y9.2.h)) else ((nS y3.2 p1)>>=fun y11=>(iI y11.2 2)>>=fun y12=>if y12.1=true then ((yC y12.2)>>=fun y13=>Z0 p1 y2 x7 y1 bL y11 (y13.1,y13.2.b,y13.2.i,y13.2.h)) else (Z0 p1 y2 x7 y1 bL y11 ([],y12.2.b,y12.2.i,y12.2.h))))) else ((iM (aQ.mk bD kW.1 kW.2) 2)>>=fun y17=>wB p1 y17 y1 bL 0 ([]:List bR) (y17.2.b,y17.2.i,y17.2.h))
  partial_fixpoint
def K3 (p0:aQ) (p1:Int):Option (aY×aQ) :=
  (iI p0 4)>>=fun y1=>(iM y1.2 2)>>=fun y2=>wT p1 y2 y1 0 ([]:List bV) y2.2.b (y2.2.i,y2.2.h)
  partial_fixpoint
def zL (p1:Int) (p2:Int) (x7:List aA) (x8:Int) (bD:List Int) (bC:Int) (bF:Int):Option ((List aA)×aQ) :=
  if (decide (x8<p2))=true then ((nS (aQ.mk bD bC bF) (IntKind.wrap .i64 (p1 - 1)))>>=fun y1=>(appG 136 x7 ([y1.1]:List aA))>>=fun y2=>zL p1 p2 y2 (IntKind.wrap .i64 (x8+1)) y1.2.b y1.2.i y1.2.h) else (some (x7,(aQ.mk bD bC bF)))
  partial_fixpoint
def qI (p0:aQ) (p1:Int) (p2:Int):Option ((List aA)×aQ) :=
  zL p1 p2 ([]:List aA) 0 p0.b p0.i p0.h
  partial_fixpoint
def G9 (p1:Int) (y6:Int×aQ):Option (aA×aQ) :=
  (iM y6.2 14)>>=fun y20=>(qI y20.2 p1 2)>>=fun y21=>some ((aA.mk 4 (IntKind.wrap .i64 (1+y20.1)) false (bJ.mk 0 0 []) [] [] y21.1 ([]:List aY)),y21.2)
  partial_fixpoint
def nS (p0:aQ) (p1:Int):Option (aA×aQ) :=
  (if (true&&((decide (p1≤0))==false))=true then iI p0 5 else some ((default:Bool),p0))>>=fun y1=>(some (if (decide (p1≤0))=true then true else y1.1))>>=fun y2=>if y2=true then ((iI y1.2 2)>>=fun y3=>if y3.1=true then ((Q8 y3.2)>>=fun y4=>some (y4.1,y4.2)) else ((X5 y3.2)>>=fun y5=>some ((aA.mk 1 0 false y5.1 [] [] ([]:List aA) ([]:List aY)),y5.2))) else ((iM y1.2 12)>>=fun y6=>if (decide (y6.1=0))=true then ((qI y6.2 p1 1)>>=fun y7=>some ((aA.mk 3 15 false (bJ.mk 0 0 []) [] [] y7.1 ([]:List aY)),y7.2)) else (if (decide (y6.1=1))=true then ((qI y6.2 p1 1)>>=fun y8=>some ((aA.mk 3 16 false (bJ.mk 0 0 []) [] [] y8.1 ([]:List aY)),y8.2)) else (if (decide (y6.1=2))=true then ((iI y6.2 2)>>=fun y9=>(qI y9.2 p1 1)>>=fun y10=>some ((aA.mk 5 0 y9.1 (bJ.mk 0 0 []) [] [] y10.1 ([]:List aY)),y10.2)) else (if (decide (y6.1=3))=true then ((iI y6.2 2)>>=fun y11=>(qI y11.2 p1 3)>>=fun y12=>some ((aA.mk 6 0 y11.1 (bJ.mk 0 0 []) [] [] y12.1 ([]:List aY)),y12.2)) else (if (decide (y6.1=4))=true then ((iI y6.2 2)>>=fun y13=>(iM y13.2 2)>>=fun y14=>(qI y14.2 p1 (IntKind.wrap .i64 (2+y14.1)))>>=fun y15=>some ((aA.mk 7 0 y13.1 (bJ.mk 0 0 []) [] [] y15.1 ([]:List aY)),y15.2)) else (if (decide (y6.1=5))=true then (if (decide (1<p1))=true then ((iI y6.2 2)>>=fun y16=>(qI y16.2 p1 1)>>=fun y17=>(K3 y17.2 (IntKind.wrap .i64 (p1 - 2)))>>=fun y18=>some ((aA.mk 8 0 y16.1 (bJ.mk 0 0 []) [] [] y17.1 ([y18.1]:List aY)),y18.2)) else (G9 p1 y6)) else (if (decide (y6.1=6))=true then (if (decide (1<p1))=true then ((K3 y6.2 (IntKind.wrap .i64 (p1 - 2)))>>=fun y19=>some ((aA.mk 9 0 false (bJ.mk 0 0 []) [] [] ([]:List aA) ([y19.1]:List aY)),y19.2)) else (G9 p1 y6)) else (G9 p1 y6))))))))
  partial_fixpoint
end
def aB9 (p0:List Int):Option (aQ×aA) :=
  (aBn p0)>>=fun y1=>(aBu p0 4)>>=fun y2=>(iM y1 y2)>>=fun y3=>(nS y3.2 y3.1)>>=fun y4=>some (y4.2,y4.1)
def uH (bD:List Int) (bC:Int) (bF:Int) (uU:List aJ):Option ((List aJ)×aQ) :=
  some (uU,(aQ.mk bD bC bF))
def rZ (xP:Int) (bG:List UInt8) (dY:Int) (bD:List Int) (bC:Int) (bF:Int):Option (aJ×aQ) :=
  some ((aJ.mk xP bG dY),(aQ.mk bD bC bF))
def aCe (p0:Int) (p1:Int):Option Int :=
  if (decide (p1<p0))=true then (some p0) else (some p1)
def aE7 (p0:aQ):Option ((List UInt8)×aQ) :=
  (mR p0 ([[40],[41],[44],[46],[42],[43],[45],[47],[37],[61],[60,62],[60],[60,61],[62],[62,61],[124,124]]:List (List UInt8)))>>=fun y1=>some (y1.1,y1.2)
def aCh (p0:aQ):Option (aJ×aQ) :=
  (iM p0 6)>>=fun y1=>if (decide (y1.1=0))=true then ((Y4)>>=fun y2=>(iM y1.2 28)>>=fun y3=>(idx y2 (IntKind.wrap .i64 (1+y3.1)))>>=fun y4=>some ((aJ.mk 1 y4 0),y3.2)) else (if (decide (y1.1=1))=true then ((yC y1.2)>>=fun y5=>some ((aJ.mk 2 y5.1 0),y5.2)) else (if (decide (y1.1=2))=true then ((zG y1.2)>>=fun y6=>(aCe 0 y6.1)>>=fun y7=>(wU y7)>>=fun y8=>some ((aJ.mk 3 y8 0),y6.2)) else (if (decide (y1.1=3))=true then ((mR y1.2 ([[],[120],[105,116,39,115],[39,39],[116,119,111,32,119,111,114,100,115],[34],[45,45],[0,255]]:List (List UInt8)))>>=fun y9=>some ((aJ.mk 4 y9.1 0),y9.2)) else ((aE7 y1.2)>>=fun y10=>some ((aJ.mk 5 y10.1 0),y10.2)))))
def O0 (p0:aQ):Option (aJ×aQ) :=
  (aCh p0)>>=fun y1=>(iM y1.2 10)>>=fun y2=>if (decide (y2.1=0))=true then ((iM y2.2 7)>>=fun y3=>rZ y3.1 y1.1.text y1.1.at_ y3.2.b y3.2.i y3.2.h) else (if (decide (y2.1=1))=true then ((mR y2.2 ([[],[115,101,108,101,99,116],[83,69,76,69,67,84,83],[48,49],[57,50,50,51,51,55,50,48,51,54,56,53,52,55,55,53,56,48,56],[61,62],[124],[97,98,99,100,101,102,103,104,105,106,107,108,109,110,111,112,113,114,115,116,117],[49,50,51,52,53,54,55,56,57,48,49,50,51,52,53,54,55,56,57,48,49,50,51,52,53,54,55,56,57,48,49,50,51,52,53,54,55,56,57,48,49]]:List (List UInt8)))>>=fun y4=>rZ y1.1.kind y4.1 y1.1.at_ y4.2.b y4.2.i y4.2.h) else (if (decide (y2.1=2))=true then ((zG y2.2)>>=fun y5=>rZ y1.1.kind y1.1.text y5.1 y5.2.b y5.2.i y5.2.h) else (rZ y1.1.kind y1.1.text y1.1.at_ y2.2.b y2.2.i y2.2.h)))
def aCb (p0:aQ) (p1:List aJ):Option ((List aJ)×aQ) :=
  (appG 32 ([]:List aJ) p1)>>=fun y1=>(iM p0 (IntKind.wrap .i64 ((y1.length:Int)+1)))>>=fun y2=>(iM y2.2 7)>>=fun y3=>if (decide (y3.1=0))=true then ((lW y1 0 y2.1)>>=fun y4=>some (y4,y3.2)) else (if (decide (y3.1=1))=true then ((lW p1 0 y2.1)>>=fun y5=>(appG 32 ([]:List aJ) y5)>>=fun y6=>(O0 y3.2)>>=fun y7=>(appG 32 y6 ([y7.1]:List aJ))>>=fun y8=>(lW p1 y2.1 (p1.length:Int))>>=fun y9=>(appG 32 y8 y9)>>=fun y10=>uH y7.2.b y7.2.i y7.2.h y10) else (if (decide (y3.1=2))=true then (if (decide (y2.1<(y1.length:Int)))=true then ((lW p1 0 y2.1)>>=fun y11=>(appG 32 ([]:List aJ) y11)>>=fun y12=>(lW p1 (IntKind.wrap .i64 (y2.1+1)) (p1.length:Int))>>=fun y13=>(appG 32 y12 y13)>>=fun y14=>uH y3.2.b y3.2.i y3.2.h y14) else (uH y3.2.b y3.2.i y3.2.h y1)) else (if (decide (y3.1=3))=true then (if (decide (y2.1<(y1.length:Int)))=true then ((O0 y3.2)>>=fun y15=>(idx y1 y2.1)>>=fun y16=>uH y15.2.b y15.2.i y15.2.h (y1.set (y2.1).toNat y15.1)) else (uH y3.2.b y3.2.i y3.2.h y1)) else (uH y3.2.b y3.2.i y3.2.h y1))))
def aBy (p0:List Int):Option (List aJ) :=
  (aB9 p0)>>=fun y1=>(iI y1.1 6)>>=fun y2=>(kX ([]:List aJ) y1.2 y2.1)>>=fun y3=>(aCb y2.2 y3)>>=fun y4=>some y4.1
def aCt (p0:aU):Option Int :=
  (some (if (!p0.bad)=true then (decide (p0.at_=(p0.t.length:Int))) else false))>>=fun y1=>if y1=true then (some (-1)) else (some p0.at_)
def aCo (y1:aA×aU) (y15:Bool×aU) (bF:Bool):Option (aA×aU) :=
  some (y1.1,(aU.mk y15.2.t y15.2.at_ bF))
def oD (p0:aU) (p1:Int):Option aJ :=
  (some (if p0.bad=true then true else (decide ((p0.t.length:Int)≤(IntKind.wrap .i64 (p0.at_+p1))))))>>=fun y1=>if y1=true then (some (aJ.mk 0 [] 0)) else ((idx p0.t (IntKind.wrap .i64 (p0.at_+p1)))>>=fun y2=>some y2)
def nA (p0:aU) (p1:Int):Option Bool :=
  (oD p0 0)>>=fun y1=>(if (true&&((decide (y1.kind=1))==true))=true then gZ p1 else some default)>>=fun y2=>(some (if (decide (y1.kind=1))=true then (decide (y1.text=y2)) else false))>>=fun y3=>some y3
def aCw (y1:Bool) (bD:List aJ) (bC:Int) (bF:Bool):Option (Bool×aU) :=
  some (y1,(aU.mk bD bC bF))
def gN (p0:aU) (p1:Bool):Option aU :=
  (some (if (!p1)=true then true else p0.bad))>>=fun y1=>if y1=true then (some (aU.mk p0.t p0.at_ true)) else (some (aU.mk p0.t (IntKind.wrap .i64 (p0.at_+1)) p0.bad))
def jW (p0:aU) (p1:Int):Option (Bool×aU) :=
  (nA p0 p1)>>=fun y1=>if y1=true then ((gN p0 true)>>=fun y2=>aCw y1 y2.t y2.at_ y2.bad) else (aCw y1 p0.t p0.at_ p0.bad)
mutual
def U3 (p1:Int) (x5:Int) (p0:aU):Option Int :=
  yU p1 p0 (IntKind.wrap .i64 (x5+1))
  partial_fixpoint
def yU (p1:Int) (p0:aU) (x5:Int):Option Int :=
  if (decide (x5≤14))=true then ((vP (aA.mk 4 x5 false (bJ.mk 0 0 []) [] [] ([]:List aA) ([]:List aY)))>>=fun y1=>if (!decide (y1=p1))=true then (U3 p1 x5 p0) else ((zI x5)>>=fun y2=>(oD p0 0)>>=fun y3=>(some (if (decide (y3.kind=y2.kind))=true then (decide (y3.text=y2.text)) else false))>>=fun y4=>if y4=true then (some x5) else (U3 p1 x5 p0))) else (some 0)
  partial_fixpoint
end
def wI (p0:aU) (p1:Int):Option Int :=
  yU p1 p0 1
def aEt (x3:List Int):Option (List UInt8) :=
  (ofBytes x3)>>=fun y3=>some y3
mutual
def G8 (x4:Int) (oO:List Int):Option (List UInt8) :=
  J5 (IntKind.wrap .i64 (x4+1)) oO
  partial_fixpoint
def J5 (x4:Int) (gQ:List Int):Option (List UInt8) :=
  if (decide (x4<(gQ.length:Int)))=true then ((idx gQ x4)>>=fun y1=>(some (if (decide (97≤y1))=true then (decide (y1≤122)) else false))>>=fun y2=>if y2=true then (G8 x4 (gQ.set (x4).toNat (IntKind.wrap .u8 (y1 - 32)))) else (G8 x4 (gQ.set (x4).toNat y1))) else (aEt gQ)
  partial_fixpoint
end
def Y7 (p0:List UInt8):Option (List UInt8) :=
  J5 0 (jL p0)
def yA (y1:List UInt8) (y2:List (List UInt8)) (x5:Int):Option Int :=
  if (decide (x5<(y2.length:Int)))=true then ((idx y2 x5)>>=fun y3=>if (decide (y3=y1))=true then (some x5) else (yA y1 y2 (IntKind.wrap .i64 (x5+1)))) else (some 0)
  partial_fixpoint
def aCd (p0:List UInt8):Option Int :=
  if (decide (8<(p0.length:Int)))=true then (some 0) else ((Y7 p0)>>=fun y1=>(Y4)>>=fun y2=>yA y1 y2 1)
def O1 (p0:List UInt8):Option Bool :=
  (pO (p0.length:Int) 1 20)>>=fun y1=>some y1
def xV (p0:List UInt8) (x4:Int) (x5:Int):Option (Int×Bool) :=
  if (decide (x5<(p0.length:Int)))=true then ((H6 p0 x5)>>=fun y2=>(if (true&&((decide (y2<48))==false))=true then H6 p0 x5 else some default)>>=fun y3=>(some (if (decide (y2<48))=true then true else (decide (57<y3))))>>=fun y4=>if y4=true then (some (0,false)) else ((H6 p0 x5)>>=fun y5=>if (decide ((IntKind.wrap .i64 (Int.tdiv (IntKind.wrap .i64 (9223372036854775807 - (IntKind.wrap .i64 ((IntKind.wrap .i64 y5) - 48)))) 10))<x4))=true then (some (0,false)) else (xV p0 (IntKind.wrap .i64 ((IntKind.wrap .i64 (10 * x4))+(IntKind.wrap .i64 ((IntKind.wrap .i64 y5) - 48)))) (IntKind.wrap .i64 (x5+1))))) else ((wU x4)>>=fun y6=>if (!decide (y6=p0))=true then (some (0,false)) else (some (x4,true)))
  partial_fixpoint
def yM (p0:List UInt8):Option (Int×Bool) :=
  (some (if (decide ((p0.length:Int)<1))=true then true else (decide (19<(p0.length:Int)))))>>=fun y1=>if y1=true then (some (0,false)) else (xV p0 0 0)
def kP (x4:Bool):Option Bool :=
  if x4=true then (some true) else (some false)
def aBo (p0:List UInt8):Option Bool :=
  if (decide (p0=[40]))=true then (kP (decide (p0=[40]))) else (if (decide (p0=[41]))=true then (kP (decide (p0=[41]))) else (if (decide (p0=[44]))=true then (kP (decide (p0=[44]))) else (if (decide (p0=[46]))=true then (kP (decide (p0=[46]))) else (if (decide (p0=[42]))=true then (kP (decide (p0=[42]))) else (if (decide (p0=[43]))=true then (kP (decide (p0=[43]))) else (if (decide (p0=[45]))=true then (kP (decide (p0=[45]))) else (if (decide (p0=[47]))=true then (kP (decide (p0=[47]))) else (if (decide (p0=[37]))=true then (kP (decide (p0=[37]))) else (if (decide (p0=[61]))=true then (kP (decide (p0=[61]))) else (if (decide (p0=[60,62]))=true then (kP (decide (p0=[60,62]))) else (if (decide (p0=[60]))=true then (kP (decide (p0=[60]))) else (if (decide (p0=[60,61]))=true then (kP (decide (p0=[60,61]))) else (if (decide (p0=[62]))=true then (kP (decide (p0=[62]))) else (if (decide (p0=[62,61]))=true then (kP (decide (p0=[62,61]))) else (kP (decide (p0=[124,124])))))))))))))))))
def F5 (p0:aJ):Option Bool :=
  if (decide (p0.kind=1))=true then ((aCd p0.text)>>=fun y1=>(if (true&&((decide (0<y1))==true))=true then Y7 p0.text else some default)>>=fun y2=>(some (if (decide (0<y1))=true then (decide (y2=p0.text)) else false))>>=fun y3=>some y3) else (if (decide (p0.kind=2))=true then ((O1 p0.text)>>=fun y4=>some y4) else (if (decide (p0.kind=3))=true then ((yM p0.text)>>=fun y5=>some y5.2) else (if (decide (p0.kind=4))=true then (some (decide ((p0.text.length:Int)≤40))) else (if (decide (p0.kind=5))=true then ((aBo p0.text)>>=fun y6=>some y6) else (some false)))))
def vH (p0:aU) (p1:Int):Option Bool :=
  (oD p0 0)>>=fun y1=>(if (true&&((decide (y1.kind=p1))==true))=true then F5 y1 else some default)>>=fun y2=>(some (if (decide (y1.kind=p1))=true then y2 else false))>>=fun y3=>some y3
def qJ (p0:aU) (p1:Int):Option ((List UInt8)×aU) :=
  (oD p0 0)>>=fun y1=>(vH p0 p1)>>=fun y2=>(gN p0 y2)>>=fun y3=>if y3.bad=true then (some ([],y3)) else (some (y1.text,y3))
def K9 (p0:aU):Option ((List UInt8)×aU) :=
  (jW p0 12)>>=fun y1=>if y1.1=true then ((qJ y1.2 2)>>=fun y2=>some (y2.1,y2.2)) else (some ([],y1.2))
def lG (p0:aU) (p1:List UInt8):Option Bool :=
  (oD p0 0)>>=fun y1=>(some (if (decide (y1.kind=5))=true then (decide (y1.text=p1)) else false))>>=fun y2=>some y2
def aHk (y3:Bool×aU) (bG:List bV) (dY:List bR) (y29:(List aA)×aU) (jY:List eB) (lJ:Int) (vX:List aJ) (wC:Int) (wL:Bool):Option (aY×aU) :=
  some ((aY.mk y3.1 bG dY y29.1 jY lJ),(aU.mk vX wC wL))
def M7 (y3:Bool×aU) (bG:List bV) (dY:List bR) (y29:(List aA)×aU) (jY:List eB) (wV:List aJ) (yQ:Int) (wQ:Bool):Option (aY×aU) :=
  (jW (aU.mk wV yQ wQ) 11)>>=fun y47=>if y47.1=true then ((qJ y47.2 3)>>=fun y48=>(yM y48.1)>>=fun y49=>aHk y3 bG dY y29 jY y49.1 y48.2.t y48.2.at_ y48.2.bad) else (aHk y3 bG dY y29 jY (-1) y47.2.t y47.2.at_ y47.2.bad)
def M3 (p0:aU):Option (bR×aU) :=
  (qJ p0 2)>>=fun y1=>(K9 y1.2)>>=fun y2=>some ((bR.mk y1.1 y2.1 ([]:List aA)),y2.2)
def aBb (iW:Int) (bL:Int) (bP:Bool) (eQ:Int) (fO:Int) (lQ:List UInt8) (yR:List UInt8) (vT:List UInt8) (vW:List aA) (vY:List aY) (bD:List aJ) (bC:Int) (bF:Bool):Option (aA×aU) :=
  some ((aA.mk iW bL bP (bJ.mk eQ fO lQ) yR vT vW vY),(aU.mk bD bC bF))
def K5 (sF:List UInt8) (sI:List UInt8) (bD:List aJ) (bC:Int) (bF:Bool):Option (aA×aU) :=
  some ((aA.mk 2 0 false (bJ.mk 0 0 []) sF sI ([]:List aA) ([]:List aY)),(aU.mk bD bC bF))
mutual
def xL (p0:aU):Option (aA×aU) :=
  (vH p0 3)>>=fun y1=>if y1=true then ((qJ p0 3)>>=fun y2=>(yM y2.1)>>=fun y3=>some ((aA.mk 1 0 false (bJ.mk 1 y3.1 []) [] [] ([]:List aA) ([]:List aY)),y2.2)) else ((vH p0 4)>>=fun y4=>if y4=true then ((qJ p0 4)>>=fun y5=>(aB0 y5.1)>>=fun y6=>some ((aA.mk 1 0 false y6 [] [] ([]:List aA) ([]:List aY)),y5.2)) else ((jW p0 20)>>=fun y7=>if y7.1=true then (some ((aA.mk 1 0 false (bJ.mk 0 0 []) [] [] ([]:List aA) ([]:List aY)),y7.2)) else ((jW y7.2 21)>>=fun y8=>if y8.1=true then ((wR true)>>=fun y9=>some ((aA.mk 1 0 false y9 [] [] ([]:List aA) ([]:List aY)),y8.2)) else ((jW y8.2 22)>>=fun y10=>if y10.1=true then ((wR false)>>=fun y11=>some ((aA.mk 1 0 false y11 [] [] ([]:List aA) ([]:List aY)),y10.2)) else ((vH y10.2 2)>>=fun y12=>if y12=true then ((qJ y10.2 2)>>=fun y13=>(lG y13.2 [46])>>=fun y14=>if y14=true then ((gN y13.2 true)>>=fun y15=>(qJ y15 2)>>=fun y16=>K5 y13.1 y16.1 y16.2.t y16.2.at_ y16.2.bad) else (K5 [] y13.1 y13.2.t y13.2.at_ y13.2.bad)) else ((jW y10.2 19)>>=fun y17=>if y17.1=true then ((lG y17.2 [40])>>=fun y18=>(gN y17.2 y18)>>=fun y19=>(uJ y19)>>=fun y20=>(lG y20.2 [41])>>=fun y21=>(gN y20.2 y21)>>=fun y22=>some ((aA.mk 9 0 false (bJ.mk 0 0 []) [] [] ([]:List aA) ([y20.1]:List aY)),y22)) else ((lG y17.2 [40])>>=fun y23=>(gN y17.2 y23)>>=fun y24=>if y24.bad=true then (some ((aA.mk 0 0 false (bJ.mk 0 0 []) [] [] ([]:List aA) ([]:List aY)),y24)) else ((fD y24 1)>>=fun y25=>(lG y25.2 [41])>>=fun y26=>(gN y25.2 y26)>>=fun y27=>some (y25.1,y27)))))))))
  partial_fixpoint
def wO (p1:Int) (iW:Int) (bL:Int) (bP:Bool) (eQ:Int) (fO:Int) (fC:(List UInt8)×(List UInt8)×(List UInt8)×(List aA)×(List aY)×(List aJ)×Int×Bool):Option (aA×aU) :=
  if (!fC.2.2.2.2.2.2.2)=true then ((wI (aU.mk fC.2.2.2.2.2.1 fC.2.2.2.2.2.2.1 fC.2.2.2.2.2.2.2) p1)>>=fun y10=>if (decide (y10=0))=true then (aBb iW bL bP eQ fO fC.1 fC.2.1 fC.2.2.1 fC.2.2.2.1 fC.2.2.2.2.1 fC.2.2.2.2.2.1 fC.2.2.2.2.2.2.1 fC.2.2.2.2.2.2.2) else ((gN (aU.mk fC.2.2.2.2.2.1 fC.2.2.2.2.2.2.1 fC.2.2.2.2.2.2.2) true)>>=fun y11=>(fD y11 (IntKind.wrap .i64 (p1+1)))>>=fun y12=>wO p1 4 y10 false 0 0 ([],[],[],([(aA.mk iW bL bP (bJ.mk eQ fO fC.1) fC.2.1 fC.2.2.1 fC.2.2.2.1 fC.2.2.2.2.1),y12.1]:List aA),([]:List aY),y12.2.t,y12.2.at_,y12.2.bad))) else (aBb iW bL bP eQ fO fC.1 fC.2.1 fC.2.2.1 fC.2.2.2.1 fC.2.2.2.2.1 fC.2.2.2.2.2.1 fC.2.2.2.2.2.2.1 fC.2.2.2.2.2.2.2)
  partial_fixpoint
def F9 (p2:Bool) (x8:List aA) (bD:List aJ) (bC:Int) (bF:Bool):Option (aA×aU) :=
  (lG (aU.mk bD bC bF) [44])>>=fun y8=>if y8=true then ((gN (aU.mk bD bC bF) true)>>=fun y9=>(fD y9 1)>>=fun y10=>(appG 136 x8 ([y10.1]:List aA))>>=fun y11=>F9 p2 y11 y10.2.t y10.2.at_ y10.2.bad) else ((lG (aU.mk bD bC bF) [41])>>=fun y12=>(gN (aU.mk bD bC bF) y12)>>=fun y13=>some ((aA.mk 7 0 p2 (bJ.mk 0 0 []) [] [] x8 ([]:List aY)),y13))
  partial_fixpoint
def aA1 (p0:aU):Option ((List aA)×aU) :=
  (jW p0 6)>>=fun y1=>if y1.1=true then ((fD y1.2 1)>>=fun y2=>some (([y2.1]:List aA),y2.2)) else (some (([]:List aA),y1.2))
  partial_fixpoint
def A8 (p0:aU):Option (eB×aU) :=
  (fD p0 1)>>=fun y1=>(jW y1.2 10)>>=fun y2=>if y2.1=true then (some ((eB.mk y1.1 true),y2.2)) else ((jW y2.2 9)>>=fun y3=>some ((eB.mk y1.1 false),y3.2))
  partial_fixpoint
def vE (y3:Bool×aU) (bG:List bV) (dY:List bR) (y29:(List aA)×aU) (gM:List eB) (mV:List aJ) (kV:Int×Bool):Option (aY×aU) :=
  (lG (aU.mk mV kV.1 kV.2) [44])>>=fun y43=>if y43=true then ((gN (aU.mk mV kV.1 kV.2) true)>>=fun y44=>(A8 y44)>>=fun y45=>(appG 144 gM ([y45.1]:List eB))>>=fun y46=>vE y3 bG dY y29 y46 y45.2.t (y45.2.at_,y45.2.bad)) else (M7 y3 bG dY y29 gM mV kV.1 kV.2)
  partial_fixpoint
def O4 (y3:Bool×aU) (bG:List bV) (dY:List bR) (y22:bR×aU) (bP:List aA) (pU:List aJ) (nM:Int×Bool):Option (aY×aU) :=
  (appG 56 dY ([(bR.mk y22.1.table y22.1.as_ bP)]:List bR))>>=fun y42=>rD y3 bG y42 pU nM.1 nM.2
  partial_fixpoint
def rD (y3:Bool×aU) (bG:List bV) (dY:List bR) (lF:List aJ) (lH:Int) (kZ:Bool):Option (aY×aU) :=
  (lG (aU.mk lF lH kZ) [44])>>=fun y17=>(if (true&&(y17==false))=true then nA (aU.mk lF lH kZ) 4 else some (default:Bool))>>=fun y18=>(some (if y17=true then true else y18))>>=fun y19=>if y19=true then ((nA (aU.mk lF lH kZ) 4)>>=fun y20=>(gN (aU.mk lF lH kZ) true)>>=fun y21=>(M3 y21)>>=fun y22=>if y20=true then ((nA y22.2 5)>>=fun y23=>(gN y22.2 y23)>>=fun y24=>(fD y24 1)>>=fun y25=>O4 y3 bG dY y22 ([y25.1]:List aA) y25.2.t (y25.2.at_,y25.2.bad)) else (O4 y3 bG dY y22 y22.1.on_ y22.2.t (y22.2.at_,y22.2.bad))) else ((aA1 (aU.mk lF lH kZ))>>=fun y29=>(jW y29.2 7)>>=fun y30=>if y30.1=true then ((nA y30.2 8)>>=fun y31=>(gN y30.2 y31)>>=fun y32=>(A8 y32)>>=fun y33=>(appG 144 [] ([y33.1]:List eB))>>=fun y34=>vE y3 bG dY y29 y34 y33.2.t (y33.2.at_,y33.2.bad)) else (M7 y3 bG dY y29 ([]:List eB) y30.2.t y30.2.at_ y30.2.bad))
  partial_fixpoint
def uD (y3:Bool×aU) (bG:List bV) (bD:List aJ) (bC:Int) (bF:Bool):Option (aY×aU) :=
  (lG (aU.mk bD bC bF) [44])>>=fun y6=>if y6=true then ((gN (aU.mk bD bC bF) true)>>=fun y7=>(D9 y7)>>=fun y8=>(appG 176 bG ([y8.1]:List bV))>>=fun y9=>uD y3 y9 y8.2.t y8.2.at_ y8.2.bad) else ((nA (aU.mk bD bC bF) 3)>>=fun y10=>(gN (aU.mk bD bC bF) y10)>>=fun y11=>(M3 y11)>>=fun y12=>(appG 56 [] ([y12.1]:List bR))>>=fun y13=>rD y3 bG y13 y12.2.t y12.2.at_ y12.2.bad)
  partial_fixpoint
def D9 (p0:aU):Option (bV×aU) :=
  (oD p0 1)>>=fun y1=>(oD p0 2)>>=fun y2=>(lG p0 [42])>>=fun y3=>if y3=true then ((gN p0 true)>>=fun y4=>some ((bV.mk true [] (aA.mk 0 0 false (bJ.mk 0 0 []) [] [] ([]:List aA) ([]:List aY)) []),y4)) else ((vH p0 2)>>=fun y5=>(some (if y5=true then (decide (y1.kind=5)) else false))>>=fun y6=>(some (if y6=true then (decide (y1.text=[46])) else false))>>=fun y7=>(some (if y7=true then (decide (y2.kind=5)) else false))>>=fun y8=>(some (if y8=true then (decide (y2.text=[42])) else false))>>=fun y9=>if y9=true then ((qJ p0 2)>>=fun y10=>(gN y10.2 true)>>=fun y11=>(gN y11 true)>>=fun y12=>some ((bV.mk true y10.1 (aA.mk 0 0 false (bJ.mk 0 0 []) [] [] ([]:List aA) ([]:List aY)) []),y12)) else ((fD p0 1)>>=fun y13=>(K9 y13.2)>>=fun y14=>some ((bV.mk false [] y13.1 y14.1),y14.2)))
  partial_fixpoint
def uJ (p0:aU):Option (aY×aU) :=
  (nA p0 1)>>=fun y1=>(gN p0 y1)>>=fun y2=>(jW y2 2)>>=fun y3=>(D9 y3.2)>>=fun y4=>(appG 176 [] ([y4.1]:List bV))>>=fun y5=>uD y3 y5 y4.2.t y4.2.at_ y4.2.bad
  partial_fixpoint
def aCg (p0:aU) (p1:aA) (p2:Bool):Option (aA×aU) :=
  (lG p0 [40])>>=fun y1=>(gN p0 y1)>>=fun y2=>(nA y2 1)>>=fun y3=>if y3=true then ((uJ y2)>>=fun y4=>(lG y4.2 [41])>>=fun y5=>(gN y4.2 y5)>>=fun y6=>some ((aA.mk 8 0 p2 (bJ.mk 0 0 []) [] [] ([p1]:List aA) ([y4.1]:List aY)),y6)) else ((fD y2 1)>>=fun y7=>F9 p2 ([p1,y7.1]:List aA) y7.2.t y7.2.at_ y7.2.bad)
  partial_fixpoint
def aE9 (p0:aU):Option (aA×aU) :=
  (fD p0 5)>>=fun y1=>(wI y1.2 4)>>=fun y2=>if (decide (0<y2))=true then ((gN y1.2 true)>>=fun y3=>(fD y3 5)>>=fun y4=>some ((aA.mk 4 y2 false (bJ.mk 0 0 []) [] [] ([y1.1,y4.1]:List aA) ([]:List aY)),y4.2)) else ((jW y1.2 16)>>=fun y5=>if y5.1=true then ((jW y5.2 15)>>=fun y6=>(nA y6.2 20)>>=fun y7=>(gN y6.2 y7)>>=fun y8=>some ((aA.mk 5 0 y6.1 (bJ.mk 0 0 []) [] [] ([y1.1]:List aA) ([]:List aY)),y8)) else ((jW y5.2 15)>>=fun y9=>(jW y9.2 18)>>=fun y10=>if y10.1=true then ((fD y10.2 5)>>=fun y11=>(nA y11.2 13)>>=fun y12=>(gN y11.2 y12)>>=fun y13=>(fD y13 5)>>=fun y14=>some ((aA.mk 6 0 y9.1 (bJ.mk 0 0 []) [] [] ([y1.1,y11.1,y14.1]:List aA) ([]:List aY)),y14.2)) else ((jW y10.2 17)>>=fun y15=>if y15.1=true then ((aCg y15.2 y1.1 y9.1)>>=fun y16=>some (y16.1,y16.2)) else (if y9.1=true then (aCo y1 y15 true) else (aCo y1 y15 y15.2.bad)))))
  partial_fixpoint
def fD (p0:aU) (p1:Int):Option (aA×aU) :=
  if (decide (p1=3))=true then ((jW p0 15)>>=fun y1=>if y1.1=true then ((fD y1.2 3)>>=fun y2=>some ((aA.mk 3 15 false (bJ.mk 0 0 []) [] [] ([y2.1]:List aA) ([]:List aY)),y2.2)) else ((fD y1.2 4)>>=fun y3=>some (y3.1,y3.2))) else (if (decide (p1=4))=true then ((aE9 p0)>>=fun y4=>some (y4.1,y4.2)) else (if (decide (p1=8))=true then ((lG p0 [45])>>=fun y5=>if y5=true then ((gN p0 true)>>=fun y6=>(fD y6 8)>>=fun y7=>some ((aA.mk 3 16 false (bJ.mk 0 0 []) [] [] ([y7.1]:List aA) ([]:List aY)),y7.2)) else ((xL p0)>>=fun y8=>some (y8.1,y8.2))) else ((fD p0 (IntKind.wrap .i64 (p1+1)))>>=fun y9=>wO p1 y9.1.kind y9.1.op y9.1.not_ y9.1.value.kind y9.1.value.num (y9.1.value.text,y9.1.qual,y9.1.name,y9.1.kids,y9.1.sub,y9.2.t,y9.2.at_,y9.2.bad))))
  partial_fixpoint
end
def aAt (p0:List aJ):Option (aA×Int) :=
  (fD (aU.mk p0 0 false) 1)>>=fun y1=>(aCt y1.2)>>=fun y2=>if (decide (0≤y2))=true then (some ((aA.mk 0 0 false (bJ.mk 0 0 []) [] [] ([]:List aA) ([]:List aY)),y2)) else (some (y1.1,(-1)))
def aEl (p0:List Int):Option Bool :=
  some (decide (1048576<(p0.length:Int)))
def aCu (p0:List Int):Option Bool :=
  (aEl p0)>>=fun y1=>if y1=true then (some true) else ((aBy p0)>>=fun y2=>(zW y2)>>=fun y3=>(aAt y2)>>=fun y4=>if (!decide (y3.2=y4.2))=true then (some false) else (if (decide (y3.2<0))=true then ((F7 y2)>>=fun y5=>some y5) else ((if (true&&((decide (y3.2≤(y2.length:Int)))==true))=true then lW y2 0 y3.2 else some default)>>=fun y6=>(if (true&&((decide (y3.2≤(y2.length:Int)))==true))=true then F7 y6 else some default)>>=fun y7=>(some (if (decide (y3.2≤(y2.length:Int)))=true then y7 else false))>>=fun y8=>(if ((true&&(y8==true))&&((decide (y3.2=(y2.length:Int)))==false))=true then lW y2 0 (IntKind.wrap .i64 (y3.2+1)) else some default)>>=fun y9=>(if ((true&&(y8==true))&&((decide (y3.2=(y2.length:Int)))==false))=true then F7 y9 else some default)>>=fun y10=>(if (true&&(y8==true))=true then some (if (decide (y3.2=(y2.length:Int)))=true then true else (!y10)) else some default)>>=fun y11=>(some (if y8=true then y11 else false))>>=fun y12=>some y12)))
end Go.Ab
