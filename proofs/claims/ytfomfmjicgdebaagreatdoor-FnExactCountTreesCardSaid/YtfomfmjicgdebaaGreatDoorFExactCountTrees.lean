/- The functions of the program,as Lean functions (printed by a program). -/
import Derived.Test.YtfomfmjicgdebaaGreatDoorAbF1
namespace Go.Ab
open Go
structure aB where
  kind:Int
  text:(List UInt8)
  at_:Int
instance:Inhabited aB:=⟨(aB.mk 0 [] 0)⟩
structure iB where
  t:(List aB)
  at_:Int
  bad:Bool
instance:Inhabited iB:=⟨(iB.mk [] 0 false)⟩
structure bM where
  kind:Int
  num:Int
  text:(List UInt8)
instance:Inhabited bM:=⟨(bM.mk 0 0 [])⟩
mutual
structure aJ where
  kind:Int
  op:Int
  not_:Bool
  value:bM
  qual:(List UInt8)
  name:(List UInt8)
  kids:(List aJ)
  sub:(List bU)
structure dZ where
  star:Bool
  qual:(List UInt8)
  expr:aJ
  as_:(List UInt8)
structure bU where
  distinct:Bool
  items:(List dZ)
  from_:(List dN)
  where_:(List aJ)
  order:(List eF)
  limit:Int
structure eF where
  expr:aJ
  desc:Bool
structure dN where
  table:(List UInt8)
  as_:(List UInt8)
  on_:(List aJ)
end
instance:Inhabited aJ:=⟨(aJ.mk 0 0 false (bM.mk 0 0 []) [] [] [] [])⟩
instance:Inhabited dZ:=⟨(dZ.mk false [] (aJ.mk 0 0 false (bM.mk 0 0 []) [] [] [] []) [])⟩
instance:Inhabited bU:=⟨(bU.mk false [] [] [] [] 0)⟩
instance:Inhabited eF:=⟨(eF.mk (aJ.mk 0 0 false (bM.mk 0 0 []) [] [] [] []) false)⟩
instance:Inhabited dN:=⟨(dN.mk [] [] [])⟩
structure aA where
  list:(List aB)
  at_:Int
  failed:Bool
instance:Inhabited aA:=⟨(aA.mk [] 0 false)⟩
def okGToken (x:aB):Prop:=okI x.kind∧okS x.text∧okI x.at_
def okGL12In (x:iB):Prop:=(okL okGToken) x.t∧okI x.at_∧okB x.bad
def okGValue (x:bM):Prop:=okI x.kind∧okI x.num∧okS x.text
mutual
def okGExpr:aJ→Prop
  | ⟨a0,a1,a2,a3,a4,a5,a6,a7⟩=>okI a0∧okI a1∧okB a2∧okGValue a3∧okS a4∧okS a5∧(a6.length≤9223372036854775807∧okLGExpr a6)∧(a7.length≤9223372036854775807∧okLGQuery a7)
def okGItem:dZ→Prop
  | ⟨a0,a1,a2,a3⟩=>okB a0∧okS a1∧okGExpr a2∧okS a3
def okGQuery:bU→Prop
  | ⟨a0,a1,a2,a3,a4,a5⟩=>okB a0∧(a1.length≤9223372036854775807∧okLGItem a1)∧(a2.length≤9223372036854775807∧okLGSource a2)∧(a3.length≤9223372036854775807∧okLGExpr a3)∧(a4.length≤9223372036854775807∧okLGSortKey a4)∧okI a5
def okGSortKey:eF→Prop
  | ⟨a0,a1⟩=>okGExpr a0∧okB a1
def okGSource:dN→Prop
  | ⟨a0,a1,a2⟩=>okS a0∧okS a1∧(a2.length≤9223372036854775807∧okLGExpr a2)
def okLGExpr:List aJ→Prop
  | []=>True
  | x::l=>okGExpr x∧okLGExpr l
def okLGItem:List dZ→Prop
  | []=>True
  | x::l=>okGItem x∧okLGItem l
def okLGQuery:List bU→Prop
  | []=>True
  | x::l=>okGQuery x∧okLGQuery l
def okLGSortKey:List eF→Prop
  | []=>True
  | x::l=>okGSortKey x∧okLGSortKey l
def okLGSource:List dN→Prop
  | []=>True
  | x::l=>okGSource x∧okLGSource l
end
def okGParser (x:aA):Prop:=(okL okGToken) x.list∧okI x.at_∧okB x.failed
mutual
def qW (p0:List aJ) (x8:Int):Option Int :=
  if (decide (x8<(p0.length:Int)))=true then ((idx p0 x8)>>=fun y1=>(dW y1)>>=fun y2=>if y2=true then (some x8) else (qW p0 (IntKind.wrap .i64 (x8+1)))) else (some (-1))
  partial_fixpoint
def X4 (p0:List aJ):Option Int :=
  qW p0 0
  partial_fixpoint
def aCm (p0:List aJ):Option Bool :=
  (X4 p0)>>=fun y1=>some (decide (0≤y1))
  partial_fixpoint
def dW (p0:aJ):Option Bool :=
  (if (true&&((decide (0<(p0.sub.length:Int)))==false))=true then aCm p0.kids else some default)>>=fun y1=>(some (if (decide (0<(p0.sub.length:Int)))=true then true else y1))>>=fun y2=>some y2
  partial_fixpoint
end
def N9 (p0:aA):Option Int :=
  (some (if p0.failed=true then true else (decide (p0.at_<(p0.list.length:Int)))))>>=fun y1=>if y1=true then (some p0.at_) else (some (-1))
def nE (p0:Int) (p1:aJ) (p2:aJ):Option aJ :=
  some (aJ.mk 4 p0 false (bM.mk 0 0 []) [] [] ([p1,p2]:List aJ) ([]:List bU))
def uH (cK:Int):Option bM :=
  some (bM.mk 3 cK [])
def rQ (p0:Bool):Option bM :=
  if p0=true then (uH 1) else (uH 0)
def P6 (p0:Int):Option bM :=
  some (bM.mk 1 p0 [])
def jX (p0:bM):Option aJ :=
  some (aJ.mk 1 0 false p0 [] [] ([]:List aJ) ([]:List bU))
def X8 (x3:List Int):Option (List UInt8) :=
  (ofBytes x3)>>=fun y3=>some y3
mutual
def wL (p0:List UInt8) (x10:Int) (lQ:List Int):Option (List UInt8) :=
  vW p0 (IntKind.wrap .i64 (x10+1)) lQ
  partial_fixpoint
def vW (p0:List UInt8) (x10:Int) (gI:List Int):Option (List UInt8) :=
  if (decide (x10<((iV p0).length:Int)))=true then ((idx gI x10)>>=fun y1=>(some (if (decide (97≤y1))=true then (decide (y1≤122)) else false))>>=fun y2=>if y2=true then (wL p0 x10 (gI.set (x10).toNat (IntKind.wrap .u8 ((IntKind.wrap .u8 (y1 - 97))+65)))) else (wL p0 x10 (gI.set (x10).toNat y1))) else (X8 gI)
  partial_fixpoint
end
def zN (p0:List UInt8):Option (List UInt8) :=
  vW p0 0 (iV p0)
def lD (p0:List (List UInt8)) (p1:List UInt8) (x8:Int):Option Int :=
  if (decide (x8<(p0.length:Int)))=true then ((idx p0 x8)>>=fun y1=>if (decide (p1=y1))=true then (some x8) else (lD p0 p1 (IntKind.wrap .i64 (x8+1)))) else (some (-1))
  partial_fixpoint
def wS (p0:List (List UInt8)) (p1:List UInt8):Option Int :=
  lD p0 p1 0
def aHg (p0:List UInt8) (p1:List UInt8):Option (List (List UInt8)) :=
  aDz p0 p1
def aC1:Option (List (List UInt8)) :=
  (aHg [83,69,76,69,67,84,32,68,73,83,84,73,78,67,84,32,70,82,79,77,32,74,79,73,78,32,79,78,32,87,72,69,82,69,32,79,82,68,69,82,32,66,89,32,65,83,67,32,68,69,83,67,32,76,73,77,73,84,32,65,83,32,65,78,68,32,79,82,32,78,79,84,32,73,83,32,73,78,32,66,69,84,87,69,69,78,32,69,88,73,83,84,83,32,78,85,76,76,32,84,82,85,69,32,70,65,76,83,69,32,73,78,83,69,82,84,32,73,78,84,79,32,86,65,76,85,69,83,32,85,80,68,65,84,69,32,83,69,84,32,68,69,76,69,84,69] [32])>>=fun y1=>some y1
def wF (p0:List UInt8):Option Int :=
  (aC1)>>=fun y1=>(zN p0)>>=fun y2=>(wS y1 y2)>>=fun y3=>some (IntKind.wrap .i64 (y3+1))
def G5 (p0:List UInt8):Option Bool :=
  (some (if (decide (1≤(p0.length:Int)))=true then (decide ((p0.length:Int)≤20)) else false))>>=fun y1=>some y1
def rZ (p0:List UInt8):Option (Int×Bool) :=
  P5 p0
def aCu (p0:List (List UInt8)) (p1:List UInt8):Option Bool :=
  (wS p0 p1)>>=fun y1=>some (decide (0≤y1))
def Z5:Option (List (List UInt8)) :=
  some ([[40],[41],[44],[46],[42],[43],[45],[47],[37],[61],[60,62],[60],[60,61],[62],[62,61],[124,124]]:List (List UInt8))
def K6 (p0:List UInt8):Option Bool :=
  (Z5)>>=fun y1=>(aCu y1 p0)>>=fun y2=>some y2
def tC (p0:aB):Option Bool :=
  if (decide (p0.kind=1))=true then ((wF p0.text)>>=fun y1=>(if (true&&((!decide (y1=0))==true))=true then zN p0.text else some default)>>=fun y2=>(some (if (!decide (y1=0))=true then (decide (y2=p0.text)) else false))>>=fun y3=>some y3) else (if (decide (p0.kind=2))=true then ((G5 p0.text)>>=fun y4=>some y4) else (if (decide (p0.kind=3))=true then ((rZ p0.text)>>=fun y5=>some y5.2) else (if (decide (p0.kind=4))=true then (some (decide ((p0.text.length:Int)≤40))) else (if (decide (p0.kind=5))=true then ((K6 p0.text)>>=fun y6=>some y6) else (some false)))))
def qP (p0:aA) (p1:Int):Option Bool :=
  (some (if (!p0.failed)=true then (decide (p0.at_<(p0.list.length:Int))) else false))>>=fun y1=>(if (true&&(y1==true))=true then idx p0.list p0.at_ else some default)>>=fun y2=>(some (if y1=true then (decide (y2.kind=p1)) else false))>>=fun y3=>(if (true&&(y3==true))=true then idx p0.list p0.at_ else some default)>>=fun y4=>(if (true&&(y3==true))=true then tC y4 else some default)>>=fun y5=>(some (if y3=true then y5 else false))>>=fun y6=>some y6
def oC (p0:aA) (p1:Int):Option ((List UInt8)×aA) :=
  (qP p0 p1)>>=fun y1=>if (!y1)=true then (some ([],(aA.mk p0.list p0.at_ true))) else ((idx p0.list (IntKind.wrap .i64 ((IntKind.wrap .i64 (p0.at_+1)) - 1)))>>=fun y2=>some (y2.text,(aA.mk p0.list (IntKind.wrap .i64 (p0.at_+1)) p0.failed)))
def E5 (p0:aA):Option (Int×aA) :=
  (oC p0 3)>>=fun y1=>(rZ y1.1)>>=fun y2=>some (y2.1,y1.2)
def mV (p0:aA) (p1:Int) (p2:Int) (p3:List UInt8):Option Bool :=
  (some (if (!p0.failed)=true then (decide ((IntKind.wrap .i64 (p0.at_+p1))<(p0.list.length:Int))) else false))>>=fun y1=>(if (true&&(y1==true))=true then idx p0.list (IntKind.wrap .i64 (p0.at_+p1)) else some default)>>=fun y2=>(some (if y1=true then (decide (y2.kind=p2)) else false))>>=fun y3=>(if (true&&(y3==true))=true then idx p0.list (IntKind.wrap .i64 (p0.at_+p1)) else some default)>>=fun y4=>(some (if y3=true then (decide (y4.text=p3)) else false))>>=fun y5=>some y5
def O3 (p0:aA) (p1:List UInt8):Option Bool :=
  (mV p0 0 5 p1)>>=fun y1=>some y1
def L9 (y1:Bool) (p0:aA) (bP:Int):Option (Bool×aA) :=
  some (y1,(aA.mk p0.list bP p0.failed))
def mW (p0:aA) (p1:List UInt8):Option (Bool×aA) :=
  (O3 p0 p1)>>=fun y1=>if y1=true then (L9 y1 p0 (IntKind.wrap .i64 (p0.at_+1))) else (L9 y1 p0 p0.at_)
def qI (p0:aA) (p1:List UInt8):Option aA :=
  (mW p0 p1)>>=fun y1=>if (!y1.1)=true then (some (aA.mk y1.2.list y1.2.at_ true)) else (some y1.2)
def yB (p0:aA) (p1:List UInt8):Option Bool :=
  (mV p0 0 1 p1)>>=fun y1=>some y1
def G7 (y1:Bool) (p0:aA) (bP:Int):Option (Bool×aA) :=
  some (y1,(aA.mk p0.list bP p0.failed))
def gZ (p0:aA) (p1:List UInt8):Option (Bool×aA) :=
  (yB p0 p1)>>=fun y1=>if y1=true then (G7 y1 p0 (IntKind.wrap .i64 (p0.at_+1))) else (G7 y1 p0 p0.at_)
def zH (p0:aA):Option ((List UInt8)×aA) :=
  (gZ p0 [65,83])>>=fun y1=>if y1.1=true then ((oC y1.2 2)>>=fun y2=>some (y2.1,y2.2)) else (some ([],y1.2))
def nQ (p0:aA) (p1:List UInt8):Option aA :=
  (gZ p0 p1)>>=fun y1=>if (!y1.1)=true then (some (aA.mk y1.2.list y1.2.at_ true)) else (some y1.2)
def O7 (y1:aJ×aA) (rF:Bool) (cZ:List aB) (bP:Int) (dC:Bool):Option (eF×aA) :=
  some ((eF.mk y1.1 rF),(aA.mk cZ bP dC))
def aAo (y2:Bool×aA) (cK:List dZ) (y8:(List dN)×aA) (y9:(List aJ)×aA) (jD:List eF) (uF:Int) (tV:List aB) (tL:Int) (rU:Bool):Option (bU×aA) :=
  some ((bU.mk y2.1 cK y8.1 y9.1 jD uF),(aA.mk tV tL rU))
def xR (y2:Bool×aA) (cK:List dZ) (y8:(List dN)×aA) (y9:(List aJ)×aA) (jD:List eF) (tJ:List aB) (rV:Int) (uI:Bool):Option (bU×aA) :=
  (gZ (aA.mk tJ rV uI) [76,73,77,73,84])>>=fun y23=>if y23.1=true then ((E5 y23.2)>>=fun y24=>aAo y2 cK y8 y9 jD y24.1 y24.2.list y24.2.at_ y24.2.failed) else (aAo y2 cK y8 y9 jD (-1) y23.2.list y23.2.at_ y23.2.failed)
def wI (p0:aA):Option (dN×aA) :=
  (oC p0 2)>>=fun y1=>(zH y1.2)>>=fun y2=>some ((dN.mk y1.1 y2.1 ([]:List aJ)),y2.2)
def I8 (p0:List UInt8):Option bM :=
  some (bM.mk 2 0 p0)
def uY (p0:Int):Option (List UInt8) :=
  (some (if (decide (p0<1))=true then true else (decide (16<p0))))>>=fun y1=>if y1=true then (some []) else ((idx ([[79,82],[65,78,68],[61],[60,62],[60],[60,61],[62],[62,61],[124,124],[43],[45],[42],[47],[37],[78,79,84],[45]]:List (List UInt8)) (IntKind.wrap .i64 (p0 - 1)))>>=fun y2=>some y2)
mutual
def vJ (y1:Int) (p1:List Int) (x10:Int) (p0:aA) (x7:Int):Option (Int×aA) :=
  (uY y1)>>=fun y3=>(mV p0 0 x7 y3)>>=fun y4=>if y4=true then (some (y1,(aA.mk p0.list (IntKind.wrap .i64 (p0.at_+1)) p0.failed))) else (vN p1 p0 (IntKind.wrap .i64 (x10+1)))
  partial_fixpoint
def vN (p1:List Int) (p0:aA) (x10:Int):Option (Int×aA) :=
  if (decide (x10<(p1.length:Int)))=true then ((idx p1 x10)>>=fun y1=>(some (if (decide (y1=1))=true then true else (decide (y1=2))))>>=fun y2=>if y2=true then (vJ y1 p1 x10 p0 1) else (vJ y1 p1 x10 p0 5)) else (some (0,p0))
  partial_fixpoint
end
def kJ (p0:aA) (p1:List Int):Option (Int×aA) :=
  vN p1 p0 0
def wM (p2:Bool) (aY:Int) (sI:List aJ) (tQ:List bU) (cZ:List aB) (bP:Int) (dC:Bool):Option (aJ×aA) :=
  (qI (aA.mk cZ bP dC) [41])>>=fun y6=>some ((aJ.mk aY 0 p2 (bM.mk 0 0 []) [] [] sI tQ),y6)
mutual
def pV (p2:List Int) (aY:Int) (bN:Int) (bQ:Bool) (bL:Int) (bO:Int) (aR:(List UInt8)×(List UInt8)×(List UInt8)×(List aJ)×(List bU)×(List aB)×Int×Bool):Option (aJ×aA) :=
  (kJ (aA.mk aR.2.2.2.2.2.1 aR.2.2.2.2.2.2.1 aR.2.2.2.2.2.2.2) p2)>>=fun y2=>if (decide (y2.1=0))=true then (some ((aJ.mk aY bN bQ (bM.mk bL bO aR.1) aR.2.1 aR.2.2.1 aR.2.2.2.1 aR.2.2.2.2.1),y2.2)) else ((oW y2.2)>>=fun y3=>(nE y2.1 (aJ.mk aY bN bQ (bM.mk bL bO aR.1) aR.2.1 aR.2.2.1 aR.2.2.2.1 aR.2.2.2.2.1) y3.1)>>=fun y4=>pV p2 y4.kind y4.op y4.not_ y4.value.kind y4.value.num (y4.value.text,y4.qual,y4.name,y4.kids,y4.sub,y3.2.list,y3.2.at_,y3.2.failed))
  partial_fixpoint
def nN (x3:List aJ) (cZ:List aB) (bP:Int) (dC:Bool):Option ((List aJ)×aA) :=
  (mW (aA.mk cZ bP dC) [44])>>=fun y2=>if y2.1=true then ((gG y2.2)>>=fun y3=>(appG 136 x3 ([y3.1]:List aJ))>>=fun y4=>nN y4 y3.2.list y3.2.at_ y3.2.failed) else (some (x3,y2.2))
  partial_fixpoint
def zU (p0:aA):Option ((List aJ)×aA) :=
  (gG p0)>>=fun y1=>nN ([y1.1]:List aJ) y1.2.list y1.2.at_ y1.2.failed
  partial_fixpoint
def vK (p0:aA) (p1:aJ) (p2:Bool):Option (aJ×aA) :=
  (qI p0 [40])>>=fun y1=>(yB y1 [83,69,76,69,67,84])>>=fun y2=>if y2=true then ((qE y1)>>=fun y3=>wM p2 8 ([p1]:List aJ) ([y3.1]:List bU) y3.2.list y3.2.at_ y3.2.failed) else ((zU y1)>>=fun y4=>(appG 136 ([p1]:List aJ) y4.1)>>=fun y5=>wM p2 7 y5 ([]:List bU) y4.2.list y4.2.at_ y4.2.failed)
  partial_fixpoint
def Q0 (p0:aA):Option ((List aJ)×aA) :=
  (gZ p0 [87,72,69,82,69])>>=fun y1=>if y1.1=true then ((gG y1.2)>>=fun y2=>some (([y2.1]:List aJ),y2.2)) else (some (([]:List aJ),y1.2))
  partial_fixpoint
def oI (x3:List dN) (cZ:List aB) (bP:Int) (dC:Bool):Option ((List dN)×aA) :=
  (mW (aA.mk cZ bP dC) [44])>>=fun y2=>if y2.1=true then ((wI y2.2)>>=fun y3=>(appG 56 x3 ([y3.1]:List dN))>>=fun y4=>oI y4 y3.2.list y3.2.at_ y3.2.failed) else ((gZ y2.2 [74,79,73,78])>>=fun y5=>if y5.1=true then ((wI y5.2)>>=fun y6=>(nQ y6.2 [79,78])>>=fun y7=>(gG y7)>>=fun y8=>(appG 56 x3 ([(dN.mk y6.1.table y6.1.as_ ([y8.1]:List aJ))]:List dN))>>=fun y9=>oI y9 y8.2.list y8.2.at_ y8.2.failed) else (some (x3,y5.2)))
  partial_fixpoint
def aAd (p0:aA):Option ((List dN)×aA) :=
  (wI p0)>>=fun y1=>oI ([y1.1]:List dN) y1.2.list y1.2.at_ y1.2.failed
  partial_fixpoint
def qV (y2:Bool×aA) (cK:List dZ) (y8:(List dN)×aA) (y9:(List aJ)×aA) (jR:List eF) (lC:List aB) (jV:Int×Bool):Option (bU×aA) :=
  (mW (aA.mk lC jV.1 jV.2) [44])>>=fun y20=>if y20.1=true then ((wU y20.2)>>=fun y21=>(appG 144 jR ([y21.1]:List eF))>>=fun y22=>qV y2 cK y8 y9 y22 y21.2.list (y21.2.at_,y21.2.failed)) else (xR y2 cK y8 y9 jR y20.2.list y20.2.at_ y20.2.failed)
  partial_fixpoint
def wU (p0:aA):Option (eF×aA) :=
  (gG p0)>>=fun y1=>(gZ y1.2 [65,83,67])>>=fun y2=>if (!y2.1)=true then ((gZ y2.2 [68,69,83,67])>>=fun y3=>O7 y1 y3.1 y3.2.list y3.2.at_ y3.2.failed) else (O7 y1 false y2.2.list y2.2.at_ y2.2.failed)
  partial_fixpoint
def qL (y2:Bool×aA) (cK:List dZ) (cZ:List aB) (bP:Int) (dC:Bool):Option (bU×aA) :=
  (mW (aA.mk cZ bP dC) [44])>>=fun y4=>if y4.1=true then ((uZ y4.2)>>=fun y5=>(appG 176 cK ([y5.1]:List dZ))>>=fun y6=>qL y2 y6 y5.2.list y5.2.at_ y5.2.failed) else ((nQ y4.2 [70,82,79,77])>>=fun y7=>(aAd y7)>>=fun y8=>(Q0 y8.2)>>=fun y9=>(gZ y9.2 [79,82,68,69,82])>>=fun y10=>if y10.1=true then ((nQ y10.2 [66,89])>>=fun y11=>(wU y11)>>=fun y12=>qV y2 cK y8 y9 ([y12.1]:List eF) y12.2.list (y12.2.at_,y12.2.failed)) else (xR y2 cK y8 y9 ([]:List eF) y10.2.list y10.2.at_ y10.2.failed))
  partial_fixpoint
def uZ (p0:aA):Option (dZ×aA) :=
  (mW p0 [42])>>=fun y1=>if y1.1=true then (some ((dZ.mk true [] (aJ.mk 0 0 false (bM.mk 0 0 []) [] [] ([]:List aJ) ([]:List bU)) []),y1.2)) else ((qP y1.2 2)>>=fun y2=>(if (true&&(y2==true))=true then mV y1.2 1 5 [46] else some (default:Bool))>>=fun y3=>(some (if y2=true then y3 else false))>>=fun y4=>(if (true&&(y4==true))=true then mV y1.2 2 5 [42] else some (default:Bool))>>=fun y5=>(some (if y4=true then y5 else false))>>=fun y6=>if y6=true then ((oC y1.2 2)>>=fun y7=>some ((dZ.mk true y7.1 (aJ.mk 0 0 false (bM.mk 0 0 []) [] [] ([]:List aJ) ([]:List bU)) []),(aA.mk y7.2.list (IntKind.wrap .i64 (y7.2.at_+2)) y7.2.failed))) else ((gG y1.2)>>=fun y8=>(zH y8.2)>>=fun y9=>some ((dZ.mk false [] y8.1 y9.1),y9.2)))
  partial_fixpoint
def qE (p0:aA):Option (bU×aA) :=
  (nQ p0 [83,69,76,69,67,84])>>=fun y1=>(gZ y1 [68,73,83,84,73,78,67,84])>>=fun y2=>(uZ y2.2)>>=fun y3=>qL y2 ([y3.1]:List dZ) y3.2.list y3.2.at_ y3.2.failed
  partial_fixpoint
def kN (p0:aA):Option (aJ×aA) :=
  (qP p0 3)>>=fun y1=>if y1=true then ((E5 p0)>>=fun y2=>(P6 y2.1)>>=fun y3=>(jX y3)>>=fun y4=>some (y4,y2.2)) else ((qP p0 4)>>=fun y5=>if y5=true then ((oC p0 4)>>=fun y6=>(I8 y6.1)>>=fun y7=>(jX y7)>>=fun y8=>some (y8,y6.2)) else ((gZ p0 [78,85,76,76])>>=fun y9=>if y9.1=true then ((jX (bM.mk 0 0 []))>>=fun y10=>some (y10,y9.2)) else ((gZ y9.2 [84,82,85,69])>>=fun y11=>if y11.1=true then ((rQ true)>>=fun y12=>(jX y12)>>=fun y13=>some (y13,y11.2)) else ((gZ y11.2 [70,65,76,83,69])>>=fun y14=>if y14.1=true then ((rQ false)>>=fun y15=>(jX y15)>>=fun y16=>some (y16,y14.2)) else ((qP y14.2 2)>>=fun y17=>if y17=true then ((oC y14.2 2)>>=fun y18=>(mW y18.2 [46])>>=fun y19=>if y19.1=true then ((oC y19.2 2)>>=fun y20=>some ((aJ.mk 2 0 false (bM.mk 0 0 []) y18.1 y20.1 ([]:List aJ) ([]:List bU)),y20.2)) else (some ((aJ.mk 2 0 false (bM.mk 0 0 []) [] y18.1 ([]:List aJ) ([]:List bU)),y19.2))) else ((mW y14.2 [40])>>=fun y21=>if y21.1=true then ((gG y21.2)>>=fun y22=>(qI y22.2 [41])>>=fun y23=>some (y22.1,y23)) else ((gZ y21.2 [69,88,73,83,84,83])>>=fun y24=>if y24.1=true then ((qI y24.2 [40])>>=fun y25=>(qE y25)>>=fun y26=>(qI y26.2 [41])>>=fun y27=>some ((aJ.mk 9 0 false (bM.mk 0 0 []) [] [] ([]:List aJ) ([y26.1]:List bU)),y27)) else (some ((aJ.mk 0 0 false (bM.mk 0 0 []) [] [] ([]:List aJ) ([]:List bU)),(aA.mk y24.2.list y24.2.at_ true))))))))))
  partial_fixpoint
def jZ (p0:aA):Option (aJ×aA) :=
  (mW p0 [45])>>=fun y1=>if y1.1=true then ((jZ y1.2)>>=fun y2=>some ((aJ.mk 3 16 false (bM.mk 0 0 []) [] [] ([y2.1]:List aJ) ([]:List bU)),y2.2)) else ((kN y1.2)>>=fun y3=>some (y3.1,y3.2))
  partial_fixpoint
def rJ (p2:List Int) (aY:Int) (bN:Int) (bQ:Bool) (bL:Int) (bO:Int) (aR:(List UInt8)×(List UInt8)×(List UInt8)×(List aJ)×(List bU)×(List aB)×Int×Bool):Option (aJ×aA) :=
  (kJ (aA.mk aR.2.2.2.2.2.1 aR.2.2.2.2.2.2.1 aR.2.2.2.2.2.2.2) p2)>>=fun y2=>if (decide (y2.1=0))=true then (some ((aJ.mk aY bN bQ (bM.mk bL bO aR.1) aR.2.1 aR.2.2.1 aR.2.2.2.1 aR.2.2.2.2.1),y2.2)) else ((jZ y2.2)>>=fun y3=>(nE y2.1 (aJ.mk aY bN bQ (bM.mk bL bO aR.1) aR.2.1 aR.2.2.1 aR.2.2.2.1 aR.2.2.2.2.1) y3.1)>>=fun y4=>rJ p2 y4.kind y4.op y4.not_ y4.value.kind y4.value.num (y4.value.text,y4.qual,y4.name,y4.kids,y4.sub,y3.2.list,y3.2.at_,y3.2.failed))
  partial_fixpoint
def F5 (p0:aA) (p2:List Int):Option (aJ×aA) :=
  (jZ p0)>>=fun y1=>rJ p2 y1.1.kind y1.1.op y1.1.not_ y1.1.value.kind y1.1.value.num (y1.1.value.text,y1.1.qual,y1.1.name,y1.1.kids,y1.1.sub,y1.2.list,y1.2.at_,y1.2.failed)
  partial_fixpoint
def oU (p0:aA):Option (aJ×aA) :=
  (F5 p0 ([12,13,14]:List Int))>>=fun y1=>some (y1.1,y1.2)
  partial_fixpoint
def uG (p2:List Int) (aY:Int) (bN:Int) (bQ:Bool) (bL:Int) (bO:Int) (aR:(List UInt8)×(List UInt8)×(List UInt8)×(List aJ)×(List bU)×(List aB)×Int×Bool):Option (aJ×aA) :=
  (kJ (aA.mk aR.2.2.2.2.2.1 aR.2.2.2.2.2.2.1 aR.2.2.2.2.2.2.2) p2)>>=fun y2=>if (decide (y2.1=0))=true then (some ((aJ.mk aY bN bQ (bM.mk bL bO aR.1) aR.2.1 aR.2.2.1 aR.2.2.2.1 aR.2.2.2.2.1),y2.2)) else ((oU y2.2)>>=fun y3=>(nE y2.1 (aJ.mk aY bN bQ (bM.mk bL bO aR.1) aR.2.1 aR.2.2.1 aR.2.2.2.1 aR.2.2.2.2.1) y3.1)>>=fun y4=>uG p2 y4.kind y4.op y4.not_ y4.value.kind y4.value.num (y4.value.text,y4.qual,y4.name,y4.kids,y4.sub,y3.2.list,y3.2.at_,y3.2.failed))
  partial_fixpoint
def yI (p0:aA) (p2:List Int):Option (aJ×aA) :=
  (oU p0)>>=fun y1=>uG p2 y1.1.kind y1.1.op y1.1.not_ y1.1.value.kind y1.1.value.num (y1.1.value.text,y1.1.qual,y1.1.name,y1.1.kids,y1.1.sub,y1.2.list,y1.2.at_,y1.2.failed)
  partial_fixpoint
def pK (p0:aA):Option (aJ×aA) :=
  (yI p0 ([10,11]:List Int))>>=fun y1=>some (y1.1,y1.2)
  partial_fixpoint
def sS (p2:List Int) (aY:Int) (bN:Int) (bQ:Bool) (bL:Int) (bO:Int) (aR:(List UInt8)×(List UInt8)×(List UInt8)×(List aJ)×(List bU)×(List aB)×Int×Bool):Option (aJ×aA) :=
  (kJ (aA.mk aR.2.2.2.2.2.1 aR.2.2.2.2.2.2.1 aR.2.2.2.2.2.2.2) p2)>>=fun y2=>if (decide (y2.1=0))=true then (some ((aJ.mk aY bN bQ (bM.mk bL bO aR.1) aR.2.1 aR.2.2.1 aR.2.2.2.1 aR.2.2.2.2.1),y2.2)) else ((pK y2.2)>>=fun y3=>(nE y2.1 (aJ.mk aY bN bQ (bM.mk bL bO aR.1) aR.2.1 aR.2.2.1 aR.2.2.2.1 aR.2.2.2.2.1) y3.1)>>=fun y4=>sS p2 y4.kind y4.op y4.not_ y4.value.kind y4.value.num (y4.value.text,y4.qual,y4.name,y4.kids,y4.sub,y3.2.list,y3.2.at_,y3.2.failed))
  partial_fixpoint
def C8 (p0:aA) (p2:List Int):Option (aJ×aA) :=
  (pK p0)>>=fun y1=>sS p2 y1.1.kind y1.1.op y1.1.not_ y1.1.value.kind y1.1.value.num (y1.1.value.text,y1.1.qual,y1.1.name,y1.1.kids,y1.1.sub,y1.2.list,y1.2.at_,y1.2.failed)
  partial_fixpoint
def jQ (p0:aA):Option (aJ×aA) :=
  (C8 p0 ([9]:List Int))>>=fun y1=>some (y1.1,y1.2)
  partial_fixpoint
def jE (p0:aA):Option (aJ×aA) :=
  (jQ p0)>>=fun y1=>(kJ y1.2 ([3,4,5,6,7,8]:List Int))>>=fun y2=>if (!decide (y2.1=0))=true then ((jQ y2.2)>>=fun y3=>(nE y2.1 y1.1 y3.1)>>=fun y4=>some (y4,y3.2)) else ((gZ y2.2 [73,83])>>=fun y5=>if y5.1=true then ((gZ y5.2 [78,79,84])>>=fun y6=>(nQ y6.2 [78,85,76,76])>>=fun y7=>some ((aJ.mk 5 0 y6.1 (bM.mk 0 0 []) [] [] ([y1.1]:List aJ) ([]:List bU)),y7)) else ((gZ y5.2 [78,79,84])>>=fun y8=>(gZ y8.2 [66,69,84,87,69,69,78])>>=fun y9=>if y9.1=true then ((jQ y9.2)>>=fun y10=>(nQ y10.2 [65,78,68])>>=fun y11=>(jQ y11)>>=fun y12=>some ((aJ.mk 6 0 y8.1 (bM.mk 0 0 []) [] [] ([y1.1,y10.1,y12.1]:List aJ) ([]:List bU)),y12.2)) else ((gZ y9.2 [73,78])>>=fun y13=>if y13.1=true then ((vK y13.2 y1.1 y8.1)>>=fun y14=>some (y14.1,y14.2)) else ((some (if y13.2.failed=true then true else y8.1))>>=fun y15=>some (y1.1,(aA.mk y13.2.list y13.2.at_ y15))))))
  partial_fixpoint
def kH (p0:aA):Option (aJ×aA) :=
  (gZ p0 [78,79,84])>>=fun y1=>if y1.1=true then ((kH y1.2)>>=fun y2=>some ((aJ.mk 3 15 false (bM.mk 0 0 []) [] [] ([y2.1]:List aJ) ([]:List bU)),y2.2)) else ((jE y1.2)>>=fun y3=>some (y3.1,y3.2))
  partial_fixpoint
def uL (p2:List Int) (aY:Int) (bN:Int) (bQ:Bool) (bL:Int) (bO:Int) (aR:(List UInt8)×(List UInt8)×(List UInt8)×(List aJ)×(List bU)×(List aB)×Int×Bool):Option (aJ×aA) :=
  (kJ (aA.mk aR.2.2.2.2.2.1 aR.2.2.2.2.2.2.1 aR.2.2.2.2.2.2.2) p2)>>=fun y2=>if (decide (y2.1=0))=true then (some ((aJ.mk aY bN bQ (bM.mk bL bO aR.1) aR.2.1 aR.2.2.1 aR.2.2.2.1 aR.2.2.2.2.1),y2.2)) else ((kH y2.2)>>=fun y3=>(nE y2.1 (aJ.mk aY bN bQ (bM.mk bL bO aR.1) aR.2.1 aR.2.2.1 aR.2.2.2.1 aR.2.2.2.2.1) y3.1)>>=fun y4=>uL p2 y4.kind y4.op y4.not_ y4.value.kind y4.value.num (y4.value.text,y4.qual,y4.name,y4.kids,y4.sub,y3.2.list,y3.2.at_,y3.2.failed))
  partial_fixpoint
def yY (p0:aA) (p2:List Int):Option (aJ×aA) :=
  (kH p0)>>=fun y1=>uL p2 y1.1.kind y1.1.op y1.1.not_ y1.1.value.kind y1.1.value.num (y1.1.value.text,y1.1.qual,y1.1.name,y1.1.kids,y1.1.sub,y1.2.list,y1.2.at_,y1.2.failed)
  partial_fixpoint
def oW (p0:aA):Option (aJ×aA) :=
  (yY p0 ([2]:List Int))>>=fun y1=>some (y1.1,y1.2)
  partial_fixpoint
def xN (p0:aA) (p2:List Int):Option (aJ×aA) :=
  (oW p0)>>=fun y1=>pV p2 y1.1.kind y1.1.op y1.1.not_ y1.1.value.kind y1.1.value.num (y1.1.value.text,y1.1.qual,y1.1.name,y1.1.kids,y1.1.sub,y1.2.list,y1.2.at_,y1.2.failed)
  partial_fixpoint
def gG (p0:aA):Option (aJ×aA) :=
  (xN p0 ([1]:List Int))>>=fun y1=>some (y1.1,y1.2)
  partial_fixpoint
end
def X5 (p0:List aB):Option (aJ×Int) :=
  (gG (aA.mk p0 0 false))>>=fun y1=>(N9 y1.2)>>=fun y2=>if (decide (0≤y2))=true then (some ((aJ.mk 0 0 false (bM.mk 0 0 []) [] [] ([]:List aJ) ([]:List bU)),y2)) else (some (y1.1,(-1)))
def I5 (p0:List aB):Option Int :=
  if (decide (9<(p0.length:Int)))=true then (some 0) else ((X5 p0)>>=fun y1=>(if (true&&((decide (0≤y1.2))==false))=true then dW y1.1 else some default)>>=fun y2=>(some (if (decide (0≤y1.2))=true then true else y2))>>=fun y3=>if y3=true then (some 0) else (some 1))
def nC (p0:aB) (p1:List UInt8):Option Bool :=
  (some (if (decide (p0.kind=5))=true then (decide (p0.text=p1)) else false))>>=fun y1=>some y1
def xD (p0:Int) (p1:Int) (p2:Int):Option Bool :=
  (some (if (decide (p1≤p0))=true then (decide (p0≤p2)) else false))>>=fun y1=>some y1
def R9:Option (List (List UInt8)) :=
  some ([[],[83,69,76,69,67,84],[68,73,83,84,73,78,67,84],[70,82,79,77],[74,79,73,78],[79,78],[87,72,69,82,69],[79,82,68,69,82],[66,89],[65,83,67],[68,69,83,67],[76,73,77,73,84],[65,83],[65,78,68],[79,82],[78,79,84],[73,83],[73,78],[66,69,84,87,69,69,78],[69,88,73,83,84,83],[78,85,76,76],[84,82,85,69],[70,65,76,83,69],[73,78,83,69,82,84],[73,78,84,79],[86,65,76,85,69,83],[85,80,68,65,84,69],[83,69,84],[68,69,76,69,84,69]]:List (List UInt8))
def aC8 (p0:Int):Option (List UInt8) :=
  (xD p0 1 28)>>=fun y1=>if (!y1)=true then (some []) else ((R9)>>=fun y2=>(idx y2 p0)>>=fun y3=>some y3)
def gM (p0:aB) (p1:Int):Option Bool :=
  (if (true&&((decide (p0.kind=1))==true))=true then aC8 p1 else some default)>>=fun y1=>(some (if (decide (p0.kind=1))=true then (decide (p0.text=y1)) else false))>>=fun y2=>some y2
def aFp (p0:List UInt8):Option aB :=
  some (aB.mk 5 p0 0)
def aCb (p0:Int):Option (List UInt8) :=
  (xD p0 1 16)>>=fun y1=>if (!y1)=true then (some []) else ((idx ([[],[79,82],[65,78,68],[61],[60,62],[60],[60,61],[62],[62,61],[124,124],[43],[45],[42],[47],[37],[78,79,84],[45]]:List (List UInt8)) p0)>>=fun y2=>some y2)
def aA8 (p0:Int):Option aB :=
  (some (if (decide (p0=1))=true then true else (decide (p0=2))))>>=fun y1=>(some (if y1=true then true else (decide (p0=15))))>>=fun y2=>if y2=true then ((aCb p0)>>=fun y3=>some (aB.mk 1 y3 0)) else ((aCb p0)>>=fun y4=>(aFp y4)>>=fun y5=>some y5)
def E8 (p0:iB) (p1:Int):Option aB :=
  (some (if p0.bad=true then true else (decide ((p0.t.length:Int)≤(IntKind.wrap .i64 (p0.at_+p1))))))>>=fun y1=>if y1=true then (some (aB.mk 0 [] 0)) else ((idx p0.t (IntKind.wrap .i64 (p0.at_+p1)))>>=fun y2=>some y2)
def Q7:Option Int :=
  some 0
def zB (p0:aJ) (x9:Bool):Option Int :=
  if x9=true then (some 4) else (if (decide (p0.kind=3))=true then (if (decide (p0.op=15))=true then (some 3) else (if (decide (p0.op=16))=true then (some 8) else (Q7))) else (if (decide (p0.kind=4))=true then ((xD p0.op 1 14)>>=fun y1=>if y1=true then ((idx ([0,1,2,4,4,4,4,4,4,5,6,6,7,7,7]:List Int) p0.op)>>=fun y2=>some y2) else (Q7)) else (Q7)))
def H8 (p0:aJ) (x5:Bool):Option Int :=
  if x5=true then (some 9) else (if (decide (p0.kind=5))=true then (zB p0 (decide (p0.kind=5))) else (if (decide (p0.kind=6))=true then (zB p0 (decide (p0.kind=6))) else (if (decide (p0.kind=7))=true then (zB p0 (decide (p0.kind=7))) else (zB p0 (decide (p0.kind=8))))))
def aB7 (p0:aJ):Option Int :=
  if (decide (p0.kind=1))=true then (H8 p0 (decide (p0.kind=1))) else (if (decide (p0.kind=2))=true then (H8 p0 (decide (p0.kind=2))) else (H8 p0 (decide (p0.kind=9))))
mutual
def xL (p1:Int) (x5:Int) (p0:iB):Option Int :=
  uW p1 p0 (IntKind.wrap .i64 (x5+1))
  partial_fixpoint
def uW (p1:Int) (p0:iB) (x5:Int):Option Int :=
  if (decide (x5≤14))=true then ((aB7 (aJ.mk 4 x5 false (bM.mk 0 0 []) [] [] ([]:List aJ) ([]:List bU)))>>=fun y1=>if (!decide (y1=p1))=true then (xL p1 x5 p0) else ((aA8 x5)>>=fun y2=>(E8 p0 0)>>=fun y3=>(some (if (decide (y3.kind=y2.kind))=true then (decide (y3.text=y2.text)) else false))>>=fun y4=>if y4=true then (some x5) else (xL p1 x5 p0))) else (some 0)
  partial_fixpoint
end
def xM (p0:iB) (p1:Int):Option Int :=
  uW p1 p0 1
def F4 (p0:aB) (p1:Int):Option Int :=
  (xM (iB.mk ([p0]:List aB) 0 false) p1)>>=fun y1=>some y1
def zY (x6:Int):Option Int :=
  some x6
def xX (x7:Int):Option Int :=
  some x7
def aAr (x3:List Int):Option (List UInt8) :=
  (ofBytes x3)>>=fun y3=>some y3
mutual
def wE (x4:Int) (mO:List Int):Option (List UInt8) :=
  vU (IntKind.wrap .i64 (x4+1)) mO
  partial_fixpoint
def vU (x4:Int) (fH:List Int):Option (List UInt8) :=
  if (decide (x4<(fH.length:Int)))=true then ((idx fH x4)>>=fun y1=>(some (if (decide (97≤y1))=true then (decide (y1≤122)) else false))>>=fun y2=>if y2=true then (wE x4 (fH.set (x4).toNat (IntKind.wrap .u8 (y1 - 32)))) else (wE x4 (fH.set (x4).toNat y1))) else (aAr fH)
  partial_fixpoint
end
def yZ (p0:List UInt8):Option (List UInt8) :=
  vU 0 (iV p0)
def uK (y1:List UInt8) (y2:List (List UInt8)) (x5:Int):Option Int :=
  if (decide (x5<(y2.length:Int)))=true then ((idx y2 x5)>>=fun y3=>if (decide (y3=y1))=true then (some x5) else (uK y1 y2 (IntKind.wrap .i64 (x5+1)))) else (some 0)
  partial_fixpoint
def Q5 (p0:List UInt8):Option Int :=
  if (decide (8<(p0.length:Int)))=true then (some 0) else ((yZ p0)>>=fun y1=>(R9)>>=fun y2=>uK y1 y2 1)
def F3 (p0:List UInt8):Option Bool :=
  (xD (p0.length:Int) 1 20)>>=fun y1=>some y1
mutual
def xB (x0:Int) (p0:Int) (x4:List UInt8) (x5:Int):Option (List UInt8) :=
  (ofBytes ([(IntKind.wrap .u8 (IntKind.wrap .i64 (48+x5)))]:List Int))>>=fun y2=>(rY y2 x4)>>=fun y3=>wH p0 (IntKind.wrap .i64 (Int.tdiv x0 10)) y3
  partial_fixpoint
def wH (p0:Int) (x0:Int) (x4:List UInt8):Option (List UInt8) :=
  if (!decide (x0=0))=true then (if (decide ((Int.tmod x0 10)<0))=true then (xB x0 p0 x4 (IntKind.wrap .i64 (0 - (Int.tmod x0 10)))) else (xB x0 p0 x4 (Int.tmod x0 10))) else (if (decide (p0<0))=true then ((rY [45] x4)>>=fun y1=>some y1) else (some x4))
  partial_fixpoint
end
def G9 (p0:Int):Option (List UInt8) :=
  if (decide (p0=0))=true then (some [48]) else (wH p0 p0 [])
def tY (p0:List UInt8) (x4:Int) (x5:Int):Option (Int×Bool) :=
  if (decide (x5<(p0.length:Int)))=true then ((wT p0 x5)>>=fun y2=>(if (true&&((decide (y2<48))==false))=true then wT p0 x5 else some default)>>=fun y3=>(some (if (decide (y2<48))=true then true else (decide (57<y3))))>>=fun y4=>if y4=true then (some (0,false)) else ((wT p0 x5)>>=fun y5=>if (decide ((IntKind.wrap .i64 (Int.tdiv (IntKind.wrap .i64 (9223372036854775807 - (IntKind.wrap .i64 ((IntKind.wrap .i64 y5) - 48)))) 10))<x4))=true then (some (0,false)) else (tY p0 (IntKind.wrap .i64 ((IntKind.wrap .i64 (10 * x4))+(IntKind.wrap .i64 ((IntKind.wrap .i64 y5) - 48)))) (IntKind.wrap .i64 (x5+1))))) else ((G9 x4)>>=fun y6=>if (!decide (y6=p0))=true then (some (0,false)) else (some (x4,true)))
  partial_fixpoint
def D7 (p0:List UInt8):Option (Int×Bool) :=
  (some (if (decide ((p0.length:Int)<1))=true then true else (decide (19<(p0.length:Int)))))>>=fun y1=>if y1=true then (some (0,false)) else (tY p0 0 0)
def jH (x4:Bool):Option Bool :=
  if x4=true then (some true) else (some false)
def R8 (p0:List UInt8):Option Bool :=
  if (decide (p0=[40]))=true then (jH (decide (p0=[40]))) else (if (decide (p0=[41]))=true then (jH (decide (p0=[41]))) else (if (decide (p0=[44]))=true then (jH (decide (p0=[44]))) else (if (decide (p0=[46]))=true then (jH (decide (p0=[46]))) else (if (decide (p0=[42]))=true then (jH (decide (p0=[42]))) else (if (decide (p0=[43]))=true then (jH (decide (p0=[43]))) else (if (decide (p0=[45]))=true then (jH (decide (p0=[45]))) else (if (decide (p0=[47]))=true then (jH (decide (p0=[47]))) else (if (decide (p0=[37]))=true then (jH (decide (p0=[37]))) else (if (decide (p0=[61]))=true then (jH (decide (p0=[61]))) else (if (decide (p0=[60,62]))=true then (jH (decide (p0=[60,62]))) else (if (decide (p0=[60]))=true then (jH (decide (p0=[60]))) else (if (decide (p0=[60,61]))=true then (jH (decide (p0=[60,61]))) else (if (decide (p0=[62]))=true then (jH (decide (p0=[62]))) else (if (decide (p0=[62,61]))=true then (jH (decide (p0=[62,61]))) else (jH (decide (p0=[124,124])))))))))))))))))
def pX (p0:aB):Option Bool :=
  if (decide (p0.kind=1))=true then ((Q5 p0.text)>>=fun y1=>(if (true&&((decide (0<y1))==true))=true then yZ p0.text else some default)>>=fun y2=>(some (if (decide (0<y1))=true then (decide (y2=p0.text)) else false))>>=fun y3=>some y3) else (if (decide (p0.kind=2))=true then ((F3 p0.text)>>=fun y4=>some y4) else (if (decide (p0.kind=3))=true then ((D7 p0.text)>>=fun y5=>some y5.2) else (if (decide (p0.kind=4))=true then (some (decide ((p0.text.length:Int)≤40))) else (if (decide (p0.kind=5))=true then ((R8 p0.text)>>=fun y6=>some y6) else (some false)))))
def qO (p0:List aB):Option Int :=
  (idx p0 0)>>=fun y1=>(if (true&&((decide ((p0.length:Int)=1))==true))=true then pX y1 else some default)>>=fun y2=>(some (if (decide ((p0.length:Int)=1))=true then y2 else false))>>=fun y3=>(if (true&&(y3==true))=true then some (if (decide (y1.kind=3))=true then true else (decide (y1.kind=4))) else some default)>>=fun y4=>(if (true&&(y3==true))=true then some (if y4=true then true else (decide (y1.kind=2))) else some default)>>=fun y5=>(if ((true&&(y3==true))&&(y5==false))=true then gM y1 20 else some default)>>=fun y6=>(if (true&&(y3==true))=true then some (if y5=true then true else y6) else some default)>>=fun y7=>(if ((true&&(y3==true))&&(y7==false))=true then gM y1 21 else some default)>>=fun y8=>(if (true&&(y3==true))=true then some (if y7=true then true else y8) else some default)>>=fun y9=>(if ((true&&(y3==true))&&(y9==false))=true then gM y1 22 else some default)>>=fun y10=>(if (true&&(y3==true))=true then some (if y9=true then true else y10) else some default)>>=fun y11=>(some (if y3=true then y11 else false))>>=fun y12=>if y12=true then (some 1) else ((some (if (decide ((p0.length:Int)=3))=true then (decide (y1.kind=2)) else false))>>=fun y13=>(if (true&&(y13==true))=true then pX y1 else some default)>>=fun y14=>(some (if y13=true then y14 else false))>>=fun y15=>(if (true&&(y15==true))=true then idx p0 1 else some default)>>=fun y16=>(if (true&&(y15==true))=true then nC y16 [46] else some default)>>=fun y17=>(some (if y15=true then y17 else false))>>=fun y18=>(if (true&&(y18==true))=true then idx p0 2 else some default)>>=fun y19=>(some (if y18=true then (decide (y19.kind=2)) else false))>>=fun y20=>(if (true&&(y20==true))=true then idx p0 2 else some default)>>=fun y21=>(if (true&&(y20==true))=true then pX y21 else some default)>>=fun y22=>(some (if y20=true then y22 else false))>>=fun y23=>if y23=true then (some 1) else (some 0))
def J8 (p0:Int) (p1:Int):Option Int :=
  if (decide (p0<p1))=true then (some p0) else (some p1)
mutual
def wY (p0:List aB) (p1:Int) (x9:Int) (mQ:Int):Option Int :=
  vZ p0 p1 mQ (IntKind.wrap .i64 (x9+1))
  partial_fixpoint
def vZ (p0:List aB) (p1:Int) (x8:Int) (x9:Int):Option Int :=
  if (decide (x9<(p0.length:Int)))=true then ((idx p0 x9)>>=fun y24=>(F4 y24 p1)>>=fun y25=>if (decide (0<y25))=true then ((eX p0 0 x9)>>=fun y26=>(dJ y26 p1)>>=fun y27=>(eX p0 (IntKind.wrap .i64 (x9+1)) (p0.length:Int))>>=fun y28=>(dJ y28 (IntKind.wrap .i64 (p1+1)))>>=fun y29=>wY p0 p1 x9 (IntKind.wrap .i64 (x8+(IntKind.wrap .i64 (y27 * y29))))) else (wY p0 p1 x9 x8)) else (some x8)
  partial_fixpoint
def M5 (p0:List aB) (x5:Int) (x6:Int) (x7:Int) (mP:Int):Option Int :=
  uR p0 x5 x6 mP (IntKind.wrap .i64 (x7+1))
  partial_fixpoint
def uR (p0:List aB) (x5:Int) (x6:Int) (jL:Int) (x7:Int):Option Int :=
  if (decide (x7<(p0.length:Int)))=true then ((idx p0 x7)>>=fun y28=>(gM y28 13)>>=fun y29=>if y29=true then ((eX p0 0 x5)>>=fun y30=>(dJ y30 5)>>=fun y31=>(eX p0 (IntKind.wrap .i64 (x6+1)) x7)>>=fun y32=>(dJ y32 5)>>=fun y33=>(eX p0 (IntKind.wrap .i64 (x7+1)) (p0.length:Int))>>=fun y34=>(dJ y34 5)>>=fun y35=>M5 p0 x5 x6 x7 (IntKind.wrap .i64 (jL+(IntKind.wrap .i64 ((IntKind.wrap .i64 (y31 * y33)) * y35))))) else (M5 p0 x5 x6 x7 jL)) else (tH p0 x5 x6 jL)
  partial_fixpoint
def yC (p0:List aB) (x4:Int) (mZ:Int):Option Int :=
  tN p0 mZ (IntKind.wrap .i64 (x4+1))
  partial_fixpoint
def tN (p0:List aB) (x3:Int) (x4:Int):Option Int :=
  if (decide (x4<(p0.length:Int)))=true then ((idx p0 x4)>>=fun y2=>(nC y2 [44])>>=fun y3=>if y3=true then ((eX p0 0 x4)>>=fun y4=>(sV y4)>>=fun y5=>(eX p0 (IntKind.wrap .i64 (x4+1)) (p0.length:Int))>>=fun y6=>(dJ y6 1)>>=fun y7=>yC p0 x4 (IntKind.wrap .i64 (x3+(IntKind.wrap .i64 (y5 * y7))))) else (yC p0 x4 x3)) else (some x3)
  partial_fixpoint
def sV (p0:List aB):Option Int :=
  (dJ p0 1)>>=fun y1=>tN p0 y1 1
  partial_fixpoint
def O9 (p0:List aB) (x5:Int) (mR:Int):Option Int :=
  nH p0 mR (IntKind.wrap .i64 (x5+1))
  partial_fixpoint
def tH (p0:List aB) (x5:Int) (x6:Int) (mE:Int):Option Int :=
  (if (true&&((decide ((IntKind.wrap .i64 (x6+1))<(IntKind.wrap .i64 ((p0.length:Int) - 1))))==true))=true then idx p0 x6 else some default)>>=fun y37=>(if (true&&((decide ((IntKind.wrap .i64 (x6+1))<(IntKind.wrap .i64 ((p0.length:Int) - 1))))==true))=true then gM y37 17 else some default)>>=fun y38=>(some (if (decide ((IntKind.wrap .i64 (x6+1))<(IntKind.wrap .i64 ((p0.length:Int) - 1))))=true then y38 else false))>>=fun y39=>(if (true&&(y39==true))=true then idx p0 (IntKind.wrap .i64 (x6+1)) else some default)>>=fun y40=>(if (true&&(y39==true))=true then nC y40 [40] else some default)>>=fun y41=>(some (if y39=true then y41 else false))>>=fun y42=>(if (true&&(y42==true))=true then idx p0 (IntKind.wrap .i64 ((p0.length:Int) - 1)) else some default)>>=fun y43=>(if (true&&(y42==true))=true then nC y43 [41] else some default)>>=fun y44=>(some (if y42=true then y44 else false))>>=fun y45=>if y45=true then ((eX p0 0 x5)>>=fun y46=>(dJ y46 5)>>=fun y47=>(eX p0 (IntKind.wrap .i64 (x6+2)) (IntKind.wrap .i64 ((p0.length:Int) - 1)))>>=fun y48=>(sV y48)>>=fun y49=>O9 p0 x5 (IntKind.wrap .i64 (mE+(IntKind.wrap .i64 (y47 * y49))))) else (O9 p0 x5 mE)
  partial_fixpoint
def xA (p0:List aB) (fV:Int) (x5:Int) (x6:Int):Option Int :=
  (if (true&&((decide (x6<(p0.length:Int)))==true))=true then idx p0 x6 else some default)>>=fun y23=>(if (true&&((decide (x6<(p0.length:Int)))==true))=true then gM y23 18 else some default)>>=fun y24=>(some (if (decide (x6<(p0.length:Int)))=true then y24 else false))>>=fun y25=>if y25=true then (uR p0 x5 x6 fV (IntKind.wrap .i64 (x6+1))) else (tH p0 x5 x6 fV)
  partial_fixpoint
def wB (p0:List aB) (x5:Int) (fV:Int):Option Int :=
  (idx p0 x5)>>=fun y21=>(gM y21 15)>>=fun y22=>if y22=true then (xA p0 fV x5 (IntKind.wrap .i64 (x5+1))) else (xA p0 fV x5 x5)
  partial_fixpoint
def wG (p0:List aB) (x5:Int) (lZ:Int):Option Int :=
  (idx p0 x5)>>=fun y8=>(gM y8 16)>>=fun y9=>(if (true&&(y9==true))=true then idx p0 (IntKind.wrap .i64 ((p0.length:Int) - 1)) else some default)>>=fun y10=>(if (true&&(y9==true))=true then gM y10 20 else some default)>>=fun y11=>(some (if y9=true then y11 else false))>>=fun y12=>(if (((true&&(y12==true))&&((decide (x5=(IntKind.wrap .i64 ((p0.length:Int) - 2))))==false))&&((decide (x5=(IntKind.wrap .i64 ((p0.length:Int) - 3))))==true))=true then idx p0 (IntKind.wrap .i64 (x5+1)) else some default)>>=fun y13=>(if (((true&&(y12==true))&&((decide (x5=(IntKind.wrap .i64 ((p0.length:Int) - 2))))==false))&&((decide (x5=(IntKind.wrap .i64 ((p0.length:Int) - 3))))==true))=true then gM y13 15 else some default)>>=fun y14=>(if ((true&&(y12==true))&&((decide (x5=(IntKind.wrap .i64 ((p0.length:Int) - 2))))==false))=true then some (if (decide (x5=(IntKind.wrap .i64 ((p0.length:Int) - 3))))=true then y14 else false) else some default)>>=fun y15=>(if (true&&(y12==true))=true then some (if (decide (x5=(IntKind.wrap .i64 ((p0.length:Int) - 2))))=true then true else y15) else some default)>>=fun y16=>(some (if y12=true then y16 else false))>>=fun y17=>if y17=true then ((eX p0 0 x5)>>=fun y18=>(dJ y18 5)>>=fun y19=>wB p0 x5 (IntKind.wrap .i64 (lZ+y19))) else (wB p0 x5 lZ)
  partial_fixpoint
def nH (p0:List aB) (x3:Int) (x5:Int):Option Int :=
  if (decide (x5<(p0.length:Int)))=true then ((idx p0 x5)>>=fun y1=>(F4 y1 4)>>=fun y2=>if (decide (0<y2))=true then ((eX p0 0 x5)>>=fun y3=>(dJ y3 5)>>=fun y4=>(eX p0 (IntKind.wrap .i64 (x5+1)) (p0.length:Int))>>=fun y5=>(dJ y5 5)>>=fun y6=>wG p0 x5 (IntKind.wrap .i64 (x3+(IntKind.wrap .i64 (y4 * y6))))) else (wG p0 x5 x3)) else (some x3)
  partial_fixpoint
def aA1 (p0:List aB):Option Int :=
  nH p0 0 1
  partial_fixpoint
def dJ (p0:List aB) (p1:Int):Option Int :=
  if (decide ((p0.length:Int)=0))=true then (some 0) else (if (decide (p1=3))=true then ((dJ p0 4)>>=fun y1=>(idx p0 0)>>=fun y2=>(gM y2 15)>>=fun y3=>if y3=true then ((eX p0 1 (p0.length:Int))>>=fun y4=>(dJ y4 3)>>=fun y5=>zY (IntKind.wrap .i64 (y1+y5))) else (zY y1)) else (if (decide (p1=4))=true then ((dJ p0 5)>>=fun y6=>(aA1 p0)>>=fun y7=>some (IntKind.wrap .i64 (y6+y7))) else (if (decide (p1=8))=true then ((dJ p0 9)>>=fun y8=>(idx p0 0)>>=fun y9=>(nC y9 [45])>>=fun y10=>if y10=true then ((eX p0 1 (p0.length:Int))>>=fun y11=>(dJ y11 8)>>=fun y12=>xX (IntKind.wrap .i64 (y8+y12))) else (xX y8)) else (if (decide (p1=9))=true then ((if (true&&((decide (2<(p0.length:Int)))==true))=true then idx p0 0 else some default)>>=fun y13=>(if (true&&((decide (2<(p0.length:Int)))==true))=true then nC y13 [40] else some default)>>=fun y14=>(some (if (decide (2<(p0.length:Int)))=true then y14 else false))>>=fun y15=>(if (true&&(y15==true))=true then idx p0 (IntKind.wrap .i64 ((p0.length:Int) - 1)) else some default)>>=fun y16=>(if (true&&(y15==true))=true then nC y16 [41] else some default)>>=fun y17=>(some (if y15=true then y17 else false))>>=fun y18=>if y18=true then ((eX p0 1 (IntKind.wrap .i64 ((p0.length:Int) - 1)))>>=fun y19=>(dJ y19 1)>>=fun y20=>some y20) else ((qO p0)>>=fun y21=>(J8 1 y21)>>=fun y22=>some y22)) else ((dJ p0 (IntKind.wrap .i64 (p1+1)))>>=fun y23=>vZ p0 p1 y23 1)))))
  partial_fixpoint
end
def M6 (p0:List aB):Option Int :=
  if (decide (9<(p0.length:Int)))=true then (some 0) else ((dJ p0 1)>>=fun y1=>some y1)
def zQ (p0:aB) (p1:aB):Option Bool :=
  if (!decide (p0.kind=p1.kind))=true then (some false) else (if (!decide (p0.text=p1.text))=true then (some false) else (if (!decide (p0.at_=p1.at_))=true then (some false) else (some true)))
def D9 (p0:List aB) (p1:List aB) (x5:Int):Option Bool :=
  if (decide (x5<(p0.length:Int)))=true then ((idx p0 x5)>>=fun y1=>(idx p1 x5)>>=fun y2=>(zQ y1 y2)>>=fun y3=>if (!y3)=true then (some false) else (D9 p0 p1 (IntKind.wrap .i64 (x5+1)))) else (some true)
  partial_fixpoint
def M9 (p0:List aB) (p1:List aB):Option Bool :=
  if (!decide ((p0.length:Int)=(p1.length:Int)))=true then (some false) else (D9 p0 p1 0)
def zT (p0:aB) (p1:Int):Option Int :=
  if (decide ((IntKind.wrap .i64 (p1 - (p0.text.length:Int)))<0))=true then (some (-1)) else (some (IntKind.wrap .i64 (p1 - (p0.text.length:Int))))
def zZ (p0:List aB) (x1:Int) (x5:Int):Option Int :=
  if (decide (x5<(p0.length:Int)))=true then ((idx p0 x5)>>=fun y1=>(zT y1 x1)>>=fun y2=>if (decide (y2<0))=true then (some (-1)) else (zZ p0 y2 (IntKind.wrap .i64 (x5+1)))) else (some x1)
  partial_fixpoint
def J6 (p0:List aB) (p1:Int):Option Int :=
  if (decide ((IntKind.wrap .i64 (p1 - (p0.length:Int)))<0))=true then (some (-1)) else (zZ p0 (IntKind.wrap .i64 (p1 - (p0.length:Int))) 0)
def D6 (p0:aB):Option aB :=
  some p0
def yQ (p0:List aB) (x4:Int) (aY:List aB):Option (List aB) :=
  if (decide (x4<(p0.length:Int)))=true then ((idx p0 x4)>>=fun y2=>(D6 y2)>>=fun y3=>(idx aY x4)>>=fun y4=>(vM aY x4 y3)>>=fun y5=>yQ p0 (IntKind.wrap .i64 (x4+1)) y5) else (some aY)
  partial_fixpoint
def vO (p0:List aB):Option (List aB) :=
  (mkG 32 (p0.length:Int) ((aB.mk 0 [] 0):aB))>>=fun y1=>yQ p0 0 y1
def I7 (p0:List aB):Option Bool :=
  (J6 p0 1048576)>>=fun y1=>if (decide (y1<0))=true then (some true) else ((vO p0)>>=fun y2=>(M6 y2)>>=fun y3=>(vO p0)>>=fun y4=>(I5 y4)>>=fun y5=>if (!decide (y5=y3))=true then (some false) else ((vO p0)>>=fun y6=>(M9 y4 y6)>>=fun y7=>if (!y7)=true then (some false) else (some true)))
end Go.Ab
