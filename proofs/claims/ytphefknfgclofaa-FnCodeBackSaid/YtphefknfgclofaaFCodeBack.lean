/- The functions of the program,as Lean functions (printed by a program). -/
import Derived.Test.YtphefknfgclofaaAbF0
namespace Go.Ab
open Go
structure bL where
  kind:Int
  num:Int
  text:(List UInt8)
instance:Inhabited bL:=⟨(bL.mk 0 0 [])⟩
mutual
structure aB where
  kind:Int
  op:Int
  not_:Bool
  value:bL
  up:Int
  at_:Int
  kids:(List aB)
  sub:(List aV)
structure bO where
  expr:aB
  desc:Bool
structure aV where
  tables:(List Int)
  on_:(List (List aB))
  where_:(List aB)
  order:(List bO)
  items:(List aB)
  names:(List (List UInt8))
  distinct:Bool
  limit:Int
end
instance:Inhabited aB:=⟨(aB.mk 0 0 false (bL.mk 0 0 []) 0 0 [] [])⟩
instance:Inhabited bO:=⟨(bO.mk (aB.mk 0 0 false (bL.mk 0 0 []) 0 0 [] []) false)⟩
instance:Inhabited aV:=⟨(aV.mk [] [] [] [] [] [] false 0)⟩
structure aU where
  s:(List UInt8)
  at_:Int
  failed:Bool
instance:Inhabited aU:=⟨(aU.mk [] 0 false)⟩
structure aJ where
  b:(List Int)
  i:Int
  h:Int
instance:Inhabited aJ:=⟨(aJ.mk [] 0 0)⟩
def okGValue (x:bL):Prop:=okI x.kind∧okI x.num∧okS x.text
mutual
def okGPExpr:aB→Prop
  | ⟨a0,a1,a2,a3,a4,a5,a6,a7⟩=>okI a0∧okI a1∧okB a2∧okGValue a3∧okI a4∧okI a5∧(a6.length≤9223372036854775807∧okLGPExpr a6)∧(a7.length≤9223372036854775807∧okLGPlan a7)
def okGPSort:bO→Prop
  | ⟨a0,a1⟩=>okGPExpr a0∧okB a1
def okGPlan:aV→Prop
  | ⟨a0,a1,a2,a3,a4,a5,a6,a7⟩=>(okL okI) a0∧(a1.length≤9223372036854775807∧okLLGPExpr a1)∧(a2.length≤9223372036854775807∧okLGPExpr a2)∧(a3.length≤9223372036854775807∧okLGPSort a3)∧(a4.length≤9223372036854775807∧okLGPExpr a4)∧(okL okS) a5∧okB a6∧okI a7
def okLGPExpr:List aB→Prop
  | []=>True
  | x::l=>okGPExpr x∧okLGPExpr l
def okLGPSort:List bO→Prop
  | []=>True
  | x::l=>okGPSort x∧okLGPSort l
def okLGPlan:List aV→Prop
  | []=>True
  | x::l=>okGPlan x∧okLGPlan l
def okLLGPExpr:List (List aB)→Prop
  | []=>True
  | x::l=>(x.length≤9223372036854775807∧okLGPExpr x)∧okLLGPExpr l
end
def okGReader (x:aU):Prop:=okS x.s∧okI x.at_∧okB x.failed
def okGL1Cur (x:aJ):Prop:=(okL okU8) x.b∧okI x.i∧okI x.h
def qR (p0:(List UInt8)) (p1:Int):Option (aU×Bool) :=
  (some (if (decide ((p0.length:Int)≤20000))=true then (decide (0≤p1)) else false))>>=fun y1=>(some (if y1=true then (decide (p1≤(p0.length:Int))) else false))>>=fun y2=>some ((aU.mk p0 p1 false),y2)
def R3 (y1:Int×aU) (bC:Bool):Option (Int×aU) :=
  if bC=true then (some (0,(aU.mk y1.2.s y1.2.at_ bC))) else (some (y1.1,(aU.mk y1.2.s y1.2.at_ bC)))
def wI (x0:Int) (x3:(List Int)):Option (List UInt8) :=
  if (decide (128≤x0))=true then ((appG 1 x3 ([(IntKind.wrap .u8 ((BitVec.ofInt (IntKind.bits .u8) (IntKind.wrap .u8 x0) ||| BitVec.ofInt (IntKind.bits .u8) 128).toNat:Int))]:List Int))>>=fun y1=>wI (Int.fdiv x0 (2 ^ 7)) y1) else ((appG 1 x3 ([(IntKind.wrap .u8 x0)]:List Int))>>=fun y2=>(ofBytes y2)>>=fun y3=>some y3)
  partial_fixpoint
def qF (p0:Int):Option (List UInt8) :=
  wI p0 ([]:List Int)
def rG (p0:(List UInt8)) (p1:Int) (x7:Int) (x8:Int):Option (Int×Int×Bool) :=
  (some (if (decide (x8<(p0.length:Int)))=true then (decide (x8<(IntKind.wrap .i64 (p1+10)))) else false))>>=fun y1=>if y1=true then ((vP p0 x8)>>=fun y2=>(aAr .u64 (IntKind.wrap .u64 (IntKind.wrap .u8 ((BitVec.ofInt (IntKind.bits .u8) y2 &&& BitVec.ofInt (IntKind.bits .u8) 127).toNat:Int))) (IntKind.wrap .i64 (7 * (IntKind.wrap .i64 (x8 - p1)))))>>=fun y3=>(vP p0 x8)>>=fun y4=>if (decide (y4<128))=true then ((qF (IntKind.wrap .u64 ((BitVec.ofInt (IntKind.bits .u64) x7 ||| BitVec.ofInt (IntKind.bits .u64) y3).toNat:Int)))>>=fun y5=>(vD p0 p1 (IntKind.wrap .i64 (x8+1)))>>=fun y6=>if (!decide (y5=y6))=true then (some (0,0,false)) else (some ((IntKind.wrap .u64 ((BitVec.ofInt (IntKind.bits .u64) x7 ||| BitVec.ofInt (IntKind.bits .u64) y3).toNat:Int)),(IntKind.wrap .i64 (x8+1)),true))) else (rG p0 p1 (IntKind.wrap .u64 ((BitVec.ofInt (IntKind.bits .u64) x7 ||| BitVec.ofInt (IntKind.bits .u64) y3).toNat:Int)) (IntKind.wrap .i64 (x8+1)))) else (some (0,0,false))
  partial_fixpoint
def aAd (p0:(List UInt8)) (p1:Int):Option (Int×Int×Bool) :=
  if (decide (p1<0))=true then (some (0,0,false)) else (rG p0 p1 0 p1)
def K7 (p0:Int):Option Int :=
  some (IntKind.wrap .i64 ((BitVec.ofInt (IntKind.bits .i64) (IntKind.wrap .i64 (Int.fdiv p0 (2 ^ 1))) ^^^ BitVec.ofInt (IntKind.bits .i64) (IntKind.wrap .i64 (0 - (IntKind.wrap .i64 (IntKind.wrap .u64 ((BitVec.ofInt (IntKind.bits .u64) p0 &&& BitVec.ofInt (IntKind.bits .u64) 1).toNat:Int)))))).toNat:Int))
def gK (p0:aU):Option (Int×aU) :=
  (aAd p0.s p0.at_)>>=fun y1=>(some (if p0.failed=true then true else (!y1.2.2)))>>=fun y2=>if y2=true then (some (0,(aU.mk p0.s p0.at_ true))) else ((K7 y1.1)>>=fun y3=>some (y3,(aU.mk p0.s y1.2.1 p0.failed)))
def kJ (p0:aU):Option (Int×aU) :=
  (gK p0)>>=fun y1=>(some (if (decide (y1.1<0))=true then true else (decide ((IntKind.wrap .i64 ((y1.2.s.length:Int) - y1.2.at_))<y1.1))))>>=fun y2=>if y2=true then (R3 y1 true) else (R3 y1 y1.2.failed)
def jJ (p0:aU):Option (Bool×aU) :=
  (gK p0)>>=fun y1=>(if (true&&(y1.2.failed==false))=true then some (if (!decide (y1.1=0))=true then (!decide (y1.1=1)) else false) else some default)>>=fun y2=>(some (if y1.2.failed=true then true else y2))>>=fun y3=>some ((decide (y1.1=1)),(aU.mk y1.2.s y1.2.at_ y3))
def aA5 (c0_0:(List Int)) (c0_6:Bool) (c0_7:Int) (c2:aU):Option (Bool×Int×aU×(List Int)) :=
  (gK c2)>>=fun y1=>(appG 8 c0_0 ([y1.1]:List Int))>>=fun y2=>some (c0_6,c0_7,y1.2,y2)
def vQ (x4:Int) (bA:(List UInt8)) (aY:Int) (bC:Bool) (eB:Bool) (fV:Int) (eH:(List Int)):Option (aU×Bool×Int×(List Int)) :=
  (some (if (decide (0<x4))=true then (!bC) else false))>>=fun y2=>if y2=true then ((aA5 eH eB fV (aU.mk bA aY bC))>>=fun y3=>vQ (IntKind.wrap .i64 (x4 - 1)) y3.2.2.1.s y3.2.2.1.at_ y3.2.2.1.failed y3.1 y3.2.1 y3.2.2.2) else (some ((aU.mk bA aY bC),eB,fV,eH))
  partial_fixpoint
def U9 (p0:aU) (c1_6:Bool) (c1_7:Int):Option (aU×Bool×Int×(List Int)) :=
  (kJ p0)>>=fun y1=>vQ y1.1 y1.2.s y1.2.at_ y1.2.failed c1_6 c1_7 ([]:List Int)
def qZ (p0:aU):Option ((List UInt8)×aU) :=
  (kJ p0)>>=fun y1=>(vD y1.2.s (IntKind.wrap .i64 ((IntKind.wrap .i64 (y1.2.at_+y1.1)) - y1.1)) (IntKind.wrap .i64 (y1.2.at_+y1.1)))>>=fun y2=>some (y2,(aU.mk y1.2.s (IntKind.wrap .i64 (y1.2.at_+y1.1)) y1.2.failed))
def aA4 (c0_0:(List Int)) (c0_1:(List (List aB))) (c0_2:(List aB)) (c0_3:(List bO)) (c0_4:(List aB)) (c0_5:(List (List UInt8))) (c0_6:Bool) (c0_7:Int) (c2:aU):Option (Bool×Int×aU×(List (List UInt8))) :=
  (qZ c2)>>=fun y1=>(appG 16 c0_5 ([y1.1]:List (List UInt8)))>>=fun y2=>some (c0_6,c0_7,y1.2,y2)
def vN (c1_0:(List Int)) (c1_1:(List (List aB))) (c1_2:(List aB)) (c1_3:(List bO)) (c1_4:(List aB)) (x4:Int) (bA:(List UInt8)) (aY:Int) (bC:Bool) (eB:Bool) (fV:Int) (eH:(List (List UInt8))):Option (aU×Bool×Int×(List (List UInt8))) :=
  (some (if (decide (0<x4))=true then (!bC) else false))>>=fun y2=>if y2=true then ((aA4 c1_0 c1_1 c1_2 c1_3 c1_4 eH eB fV (aU.mk bA aY bC))>>=fun y3=>vN c1_0 c1_1 c1_2 c1_3 c1_4 (IntKind.wrap .i64 (x4 - 1)) y3.2.2.1.s y3.2.2.1.at_ y3.2.2.1.failed y3.1 y3.2.1 y3.2.2.2) else (some ((aU.mk bA aY bC),eB,fV,eH))
  partial_fixpoint
def mW (p0:aU) (c1_0:(List Int)) (c1_1:(List (List aB))) (c1_2:(List aB)) (c1_3:(List bO)) (c1_4:(List aB)) (c1_6:Bool) (c1_7:Int):Option (aU×Bool×Int×(List (List UInt8))) :=
  (kJ p0)>>=fun y1=>vN c1_0 c1_1 c1_2 c1_3 c1_4 y1.1 y1.2.s y1.2.at_ y1.2.failed c1_6 c1_7 ([]:List (List UInt8))
mutual
def aAa (c0_0:(List Int)) (c0_1:(List (List aB))) (c0_2:(List aB)) (c0_3:(List bO)) (c0_6:Bool) (c0_7:Int) (c2:aU):Option (Bool×Int×aU×(List bO)) :=
  (qV c2)>>=fun y1=>(jJ y1.2)>>=fun y2=>(appG 128 c0_3 ([(bO.mk y1.1 y2.1)]:List bO))>>=fun y3=>some (c0_6,c0_7,y2.2,y3)
  partial_fixpoint
def yJ (c1_0:(List Int)) (c1_1:(List (List aB))) (c1_2:(List aB)) (x4:Int) (bA:(List UInt8)) (aY:Int) (bR:(Bool×(Bool×(Int×(List bO))))):Option (aU×Bool×Int×(List bO)) :=
  (some (if (decide (0<x4))=true then (!bR.1) else false))>>=fun y2=>if y2=true then ((aAa c1_0 c1_1 c1_2 bR.2.2.2 bR.2.1 bR.2.2.1 (aU.mk bA aY bR.1))>>=fun y3=>yJ c1_0 c1_1 c1_2 (IntKind.wrap .i64 (x4 - 1)) y3.2.2.1.s y3.2.2.1.at_ (y3.2.2.1.failed,(y3.1,(y3.2.1,y3.2.2.2)))) else (some ((aU.mk bA aY bR.1),bR.2.1,bR.2.2.1,bR.2.2.2))
  partial_fixpoint
def rH (p0:aU) (c1_0:(List Int)) (c1_1:(List (List aB))) (c1_2:(List aB)) (c1_6:Bool) (c1_7:Int):Option (aU×Bool×Int×(List bO)) :=
  (kJ p0)>>=fun y1=>yJ c1_0 c1_1 c1_2 y1.1 y1.2.s y1.2.at_ (y1.2.failed,(c1_6,(c1_7,([]:List bO))))
  partial_fixpoint
def aBs (c0_0:(List Int)) (c0_1:(List (List aB))) (c0_6:Bool) (c0_7:Int) (c2:aU):Option (Bool×Int×aU×(List (List aB))) :=
  (jR c2)>>=fun y1=>(appG 24 c0_1 ([y1.1]:List (List aB)))>>=fun y2=>some (c0_6,c0_7,y1.2,y2)
  partial_fixpoint
def wY (c1_0:(List Int)) (x4:Int) (bA:(List UInt8)) (aY:Int) (bC:Bool) (eB:Bool) (iY:(Int×(List (List aB)))):Option (aU×Bool×Int×(List (List aB))) :=
  (some (if (decide (0<x4))=true then (!bC) else false))>>=fun y2=>if y2=true then ((aBs c1_0 iY.2 eB iY.1 (aU.mk bA aY bC))>>=fun y3=>wY c1_0 (IntKind.wrap .i64 (x4 - 1)) y3.2.2.1.s y3.2.2.1.at_ y3.2.2.1.failed y3.1 (y3.2.1,y3.2.2.2)) else (some ((aU.mk bA aY bC),eB,iY.1,iY.2))
  partial_fixpoint
def xA (p0:aU) (c1_0:(List Int)) (c1_6:Bool) (c1_7:Int):Option (aU×Bool×Int×(List (List aB))) :=
  (kJ p0)>>=fun y1=>wY c1_0 y1.1 y1.2.s y1.2.at_ y1.2.failed c1_6 (c1_7,([]:List (List aB)))
  partial_fixpoint
def wG (p0:aU):Option (aV×aU) :=
  (U9 p0 false 0)>>=fun y1=>(xA y1.1 y1.2.2.2 y1.2.1 y1.2.2.1)>>=fun y2=>(jR y2.1)>>=fun y3=>(rH y3.2 y1.2.2.2 y2.2.2.2 y3.1 y2.2.1 y2.2.2.1)>>=fun y4=>(jR y4.1)>>=fun y5=>(mW y5.2 y1.2.2.2 y2.2.2.2 y3.1 y4.2.2.2 y5.1 y4.2.1 y4.2.2.1)>>=fun y6=>(jJ y6.1)>>=fun y7=>(gK y7.2)>>=fun y8=>some ((aV.mk y1.2.2.2 y2.2.2.2 y3.1 y4.2.2.2 y5.1 y6.2.2.2 y7.1 y8.1),y8.2)
  partial_fixpoint
def aBk (c0_0:Int) (c0_1:Int) (c0_2:Bool) (c0_3:Int) (c0_4:Int) (c0_5:(List UInt8)) (kc0_6:(Int×(Int×((List aB)×((List aV)×aU))))):Option (Int×Int×Bool×Int×Int×(List UInt8)×Int×Int×aU×(List aV)) :=
  (wG kc0_6.2.2.2.2)>>=fun y1=>(appG 160 kc0_6.2.2.2.1 ([y1.1]:List aV))>>=fun y2=>some (c0_0,c0_1,c0_2,c0_3,c0_4,c0_5,kc0_6.1,kc0_6.2.1,y1.2,y2)
  partial_fixpoint
def xQ (c1_8:(List aB)) (x4:Int) (bA:(List UInt8)) (aY:Int) (bC:Bool) (kU:Int) (dI:(Int×(Bool×(Int×(Int×((List UInt8)×(Int×(Int×(List aV))))))))):Option (aU×Int×Int×Bool×Int×Int×(List UInt8)×Int×Int×(List aV)) :=
  (some (if (decide (0<x4))=true then (!bC) else false))>>=fun y2=>if y2=true then ((aBk kU dI.1 dI.2.1 dI.2.2.1 dI.2.2.2.1 dI.2.2.2.2.1 (dI.2.2.2.2.2.1,(dI.2.2.2.2.2.2.1,(c1_8,(dI.2.2.2.2.2.2.2,(aU.mk bA aY bC))))))>>=fun y3=>xQ c1_8 (IntKind.wrap .i64 (x4 - 1)) y3.2.2.2.2.2.2.2.2.1.s y3.2.2.2.2.2.2.2.2.1.at_ y3.2.2.2.2.2.2.2.2.1.failed y3.1 (y3.2.1,(y3.2.2.1,(y3.2.2.2.1,(y3.2.2.2.2.1,(y3.2.2.2.2.2.1,(y3.2.2.2.2.2.2.1,(y3.2.2.2.2.2.2.2.1,y3.2.2.2.2.2.2.2.2.2)))))))) else (some ((aU.mk bA aY bC),kU,dI.1,dI.2.1,dI.2.2.1,dI.2.2.2.1,dI.2.2.2.2.1,dI.2.2.2.2.2.1,dI.2.2.2.2.2.2.1,dI.2.2.2.2.2.2.2))
  partial_fixpoint
def aDc (p0:aU) (c1_0:Int) (c1_1:Int) (c1_2:Bool) (c1_3:Int) (c1_4:Int) (kc1_5:((List UInt8)×(Int×(Int×(List aB))))):Option (aU×Int×Int×Bool×Int×Int×(List UInt8)×Int×Int×(List aV)) :=
  (kJ p0)>>=fun y1=>xQ kc1_5.2.2.2 y1.1 y1.2.s y1.2.at_ y1.2.failed c1_0 (c1_1,(c1_2,(c1_3,(c1_4,(kc1_5.1,(kc1_5.2.1,(kc1_5.2.2.1,([]:List aV))))))))
  partial_fixpoint
def aD2 (c0_0:(List aB)) (c2:aU):Option (aU×(List aB)) :=
  (qV c2)>>=fun y1=>(appG 120 c0_0 ([(aB.mk 0 0 false (bL.mk 0 0 []) 0 0 [] [])]:List aB))>>=fun y2=>(idx y2 (c0_0.length:Int))>>=fun y3=>some (y1.2,(y2.set ((c0_0.length:Int)).toNat y1.1))
  partial_fixpoint
def wB (x4:Int) (bA:(List UInt8)) (aY:Int) (bC:Bool) (eH:(List aB)):Option (aU×(List aB)) :=
  (some (if (decide (0<x4))=true then (!bC) else false))>>=fun y2=>if y2=true then ((aD2 eH (aU.mk bA aY bC))>>=fun y3=>wB (IntKind.wrap .i64 (x4 - 1)) y3.1.s y3.1.at_ y3.1.failed y3.2) else (some ((aU.mk bA aY bC),eH))
  partial_fixpoint
def aCe (p0:aU) (c1_0:(List aB)):Option (aU×(List aB)) :=
  (kJ p0)>>=fun y1=>wB y1.1 y1.2.s y1.2.at_ y1.2.failed c1_0
  partial_fixpoint
def jR (p0:aU):Option ((List aB)×aU) :=
  (aCe p0 ([]:List aB))>>=fun y1=>some (y1.2,y1.1)
  partial_fixpoint
def qV (p0:aU):Option (aB×aU) :=
  (gK p0)>>=fun y1=>(gK y1.2)>>=fun y2=>(jJ y2.2)>>=fun y3=>(gK y3.2)>>=fun y4=>(gK y4.2)>>=fun y5=>(qZ y5.2)>>=fun y6=>(gK y6.2)>>=fun y7=>(gK y7.2)>>=fun y8=>(jR y8.2)>>=fun y9=>(aDc y9.2 y1.1 y2.1 y3.1 y4.1 y5.1 (y6.1,(y7.1,(y8.1,y9.1))))>>=fun y10=>some ((aB.mk y10.2.1 y10.2.2.1 y10.2.2.2.1 (bL.mk y10.2.2.2.2.1 y10.2.2.2.2.2.1 y10.2.2.2.2.2.2.1) y10.2.2.2.2.2.2.2.1 y10.2.2.2.2.2.2.2.2.1 y9.1 y10.2.2.2.2.2.2.2.2.2),y10.1)
  partial_fixpoint
end
def vC (p0:(List UInt8)) (p1:Int):Option (aB×Int×Bool) :=
  (qR p0 p1)>>=fun y1=>if (!y1.2)=true then (some ((aB.mk 0 0 false (bL.mk 0 0 []) 0 0 ([]:List aB) ([]:List aV)),0,false)) else ((qV y1.1)>>=fun y2=>if y2.2.failed=true then (some ((aB.mk 0 0 false (bL.mk 0 0 []) 0 0 ([]:List aB) ([]:List aV)),0,false)) else (some (y2.1,y2.2.at_,true)))
def E9 (p0:(List UInt8)) (p1:Int):Option (aV×Int×Bool) :=
  (qR p0 p1)>>=fun y1=>if (!y1.2)=true then (some ((aV.mk ([]:List Int) ([]:List (List aB)) ([]:List aB) ([]:List bO) ([]:List aB) ([]:List (List UInt8)) false 0),0,false)) else ((wG y1.1)>>=fun y2=>if y2.2.failed=true then (some ((aV.mk ([]:List Int) ([]:List (List aB)) ([]:List aB) ([]:List bO) ([]:List aB) ([]:List (List UInt8)) false 0),0,false)) else (some (y2.1,y2.2.at_,true)))
def vF (c0_1:(List Int)):Option ((List UInt8)×(List Int)) :=
  (ofBytes c0_1)>>=fun y=>some (y,c0_1)
def aA7 (c0_1:(List Int)):Option Unit :=
  some ()
def uR (c0_1:(List Int)) (p1:(List UInt8)):Option (Int×(List Int)) :=
  (aA7 c0_1)>>=fun y1=>(appG 1 c0_1 (jX p1))>>=fun y2=>some ((p1.length:Int),y2)
def tY (p0:Int):Option Int :=
  some (IntKind.wrap .u64 ((BitVec.ofInt (IntKind.bits .u64) (IntKind.wrap .u64 ((IntKind.wrap .u64 p0) * 2 ^ 1)) ^^^ BitVec.ofInt (IntKind.bits .u64) (IntKind.wrap .u64 (Int.fdiv p0 (2 ^ 63)))).toNat:Int))
def fK (c0_1:(List Int)) (p1:Int):Option (List Int) :=
  (tY p1)>>=fun y1=>(qF y1)>>=fun y2=>(uR c0_1 y2)>>=fun y3=>some y3.2
def oP (c0_1:(List Int)) (p1:Bool):Option (List Int) :=
  if p1=true then ((fK c0_1 1)>>=fun y1=>some y1) else ((fK c0_1 0)>>=fun y2=>some y2)
def qG (c0_1:(List Int)) (p1:(List UInt8)):Option (List Int) :=
  (fK c0_1 (p1.length:Int))>>=fun y1=>(uR y1 p1)>>=fun y2=>some y2.2
def wW (p1:aV) (x81:Int) (kW:(List Int)):Option (List Int) :=
  if (decide (x81<(p1.names.length:Int)))=true then ((idx p1.names x81)>>=fun y17=>(qG kW y17)>>=fun y18=>wW p1 (IntKind.wrap .i64 (x81+1)) y18) else ((oP kW p1.distinct)>>=fun y19=>(fK y19 p1.limit)>>=fun y20=>some y20)
  partial_fixpoint
mutual
def xB (p1:aV) (x56:Int) (jZ:(List Int)):Option (List Int) :=
  if (decide (x56<(p1.order.length:Int)))=true then ((idx p1.order x56)>>=fun y11=>(nG jZ y11.expr)>>=fun y12=>(oP y12 y11.desc)>>=fun y13=>xB p1 (IntKind.wrap .i64 (x56+1)) y13) else ((qN jZ p1.items)>>=fun y14=>(fK y14 (p1.names.length:Int))>>=fun y15=>wW p1 0 y15)
  partial_fixpoint
def I5 (p1:(List aB)) (x12:Int) (aY:(List Int)):Option (List Int) :=
  if (decide (x12<(p1.length:Int)))=true then ((idx p1 x12)>>=fun y2=>(nG aY y2)>>=fun y3=>I5 p1 (IntKind.wrap .i64 (x12+1)) y3) else (some aY)
  partial_fixpoint
def qN (c0_1:(List Int)) (p1:(List aB)):Option (List Int) :=
  (fK c0_1 (p1.length:Int))>>=fun y1=>I5 p1 0 y1
  partial_fixpoint
def I6 (p1:aV) (x36:Int) (kH:(List Int)):Option (List Int) :=
  if (decide (x36<(p1.on_.length:Int)))=true then ((idx p1.on_ x36)>>=fun y6=>(qN kH y6)>>=fun y7=>I6 p1 (IntKind.wrap .i64 (x36+1)) y7) else ((qN kH p1.where_)>>=fun y8=>(fK y8 (p1.order.length:Int))>>=fun y9=>xB p1 0 y9)
  partial_fixpoint
def A9 (p1:aV) (x20:Int) (aY:(List Int)):Option (List Int) :=
  if (decide (x20<(p1.tables.length:Int)))=true then ((idx p1.tables x20)>>=fun y2=>(fK aY y2)>>=fun y3=>A9 p1 (IntKind.wrap .i64 (x20+1)) y3) else ((fK aY (p1.on_.length:Int))>>=fun y4=>I6 p1 0 y4)
  partial_fixpoint
def qI (c0_1:(List Int)) (p1:aV):Option (List Int) :=
  (fK c0_1 (p1.tables.length:Int))>>=fun y1=>A9 p1 0 y1
  partial_fixpoint
def K8 (p1:aB) (x53:Int) (aY:(List Int)):Option (List Int) :=
  if (decide (x53<(p1.sub.length:Int)))=true then ((idx p1.sub x53)>>=fun y11=>(qI aY y11)>>=fun y12=>K8 p1 (IntKind.wrap .i64 (x53+1)) y12) else (some aY)
  partial_fixpoint
def nG (c0_1:(List Int)) (p1:aB):Option (List Int) :=
  (fK c0_1 p1.kind)>>=fun y1=>(fK y1 p1.op)>>=fun y2=>(oP y2 p1.not_)>>=fun y3=>(fK y3 p1.value.kind)>>=fun y4=>(fK y4 p1.value.num)>>=fun y5=>(qG y5 p1.value.text)>>=fun y6=>(fK y6 p1.up)>>=fun y7=>(fK y7 p1.at_)>>=fun y8=>(qN y8 p1.kids)>>=fun y9=>(fK y9 (p1.sub.length:Int))>>=fun y10=>K8 p1 0 y10
  partial_fixpoint
end
def X3 (p0:aB):Option (List UInt8) :=
  (nG ([]:List Int) p0)>>=fun y1=>(vF y1)>>=fun y2=>some y2.1
def W9 (p0:aV):Option (List UInt8) :=
  (qI ([]:List Int) p0)>>=fun y1=>(vF y1)>>=fun y2=>some y2.1
def pQ (p1:aB) (jC:Int) (gM:Int) (jD:Bool) (nZ:Int) (nM:Int) (nS:(List UInt8)) (nK:Int) (nQ:Int) (bA:(List Int)) (aY:Int) (bC:Int) (sH:(List aV)):Option (aB×aJ) :=
  some ((aB.mk jC gM jD (bL.mk nZ nM nS) nK nQ p1.kids sH),(aJ.mk bA aY bC))
def aAs (p0:aJ) (x3:Int) (aY:Int):Option (Int×aJ) :=
  some (x3,(aJ.mk p0.b aY (IntKind.wrap .i64 ((IntKind.wrap .i64 (p0.h * 6364136223846793005))+1442695040888963407))))
def lJ (p0:aJ):Option (Int×aJ) :=
  if (decide (p0.i<(p0.b.length:Int)))=true then ((idx p0.b p0.i)>>=fun y1=>aAs p0 (IntKind.wrap .i64 ((BitVec.ofInt (IntKind.bits .i64) (IntKind.wrap .i64 ((IntKind.wrap .i64 ((BitVec.ofInt (IntKind.bits .i64) (IntKind.wrap .i64 ((BitVec.ofInt (IntKind.bits .i64) (Int.fdiv (IntKind.wrap .i64 ((IntKind.wrap .i64 (p0.h * 6364136223846793005))+1442695040888963407)) (2 ^ 33)) ^^^ BitVec.ofInt (IntKind.bits .i64) (Int.fdiv (IntKind.wrap .i64 ((IntKind.wrap .i64 (p0.h * 6364136223846793005))+1442695040888963407)) (2 ^ 45))).toNat:Int)) &&& BitVec.ofInt (IntKind.bits .i64) 255).toNat:Int))+(IntKind.wrap .i64 y1))) &&& BitVec.ofInt (IntKind.bits .i64) 255).toNat:Int)) (IntKind.wrap .i64 (p0.i+1))) else (aAs p0 (IntKind.wrap .i64 ((BitVec.ofInt (IntKind.bits .i64) (IntKind.wrap .i64 ((BitVec.ofInt (IntKind.bits .i64) (Int.fdiv (IntKind.wrap .i64 ((IntKind.wrap .i64 (p0.h * 6364136223846793005))+1442695040888963407)) (2 ^ 33)) ^^^ BitVec.ofInt (IntKind.bits .i64) (Int.fdiv (IntKind.wrap .i64 ((IntKind.wrap .i64 (p0.h * 6364136223846793005))+1442695040888963407)) (2 ^ 45))).toNat:Int)) &&& BitVec.ofInt (IntKind.bits .i64) 255).toNat:Int)) p0.i)
def dZ (p0:aJ) (p1:Int):Option (Int×aJ) :=
  if (decide (p1≤0))=true then (some (0,p0)) else (if (decide (p1≤256))=true then ((lJ p0)>>=fun y1=>(L9 y1.1 p1)>>=fun y2=>some (y2,y1.2)) else ((lJ p0)>>=fun y3=>(lJ y3.2)>>=fun y4=>(lJ y4.2)>>=fun y5=>(lJ y5.2)>>=fun y6=>(L9 (IntKind.wrap .i64 ((IntKind.wrap .i64 ((IntKind.wrap .i64 ((IntKind.wrap .i64 (y3.1 * 16777216))+(IntKind.wrap .i64 (y4.1 * 65536))))+(IntKind.wrap .i64 (y5.1 * 256))))+y6.1)) p1)>>=fun y7=>some (y7,y6.2)))
def fM (p0:aJ) (p1:Int):Option (Bool×aJ) :=
  (dZ p0 p1)>>=fun y1=>some ((decide (y1.1=0)),y1.2)
def G7 (p0:aJ) (p1:(List Int)):Option (Int×aJ) :=
  (dZ p0 (p1.length:Int))>>=fun y1=>(idx p1 y1.1)>>=fun y2=>some (y2,y1.2)
def jP (p0:aJ):Option (Int×aJ) :=
  (dZ p0 3)>>=fun y1=>if (decide (y1.1=0))=true then ((G7 y1.2 ([0,1,(-1),63,64,(-64),(-65),127,128,16383,16384,9223372036854775807,(-9223372036854775808),4611686018427387904]:List Int))>>=fun y2=>some (y2.1,y2.2)) else (if (decide (y1.1=1))=true then ((dZ y1.2 1000000)>>=fun y3=>some ((IntKind.wrap .i64 (y3.1 - 500000)),y3.2)) else ((dZ y1.2 20)>>=fun y4=>some (y4.1,y4.2)))
def mO (p0:aJ) (p1:(List (List UInt8))):Option ((List UInt8)×aJ) :=
  (dZ p0 (p1.length:Int))>>=fun y1=>(idx p1 y1.1)>>=fun y2=>some (y2,y1.2)
def pX (jC:Int) (gM:Int) (jD:(List UInt8)) (bA:(List Int)) (aY:Int) (bC:Int):Option (bL×aJ) :=
  some ((bL.mk jC gM jD),(aJ.mk bA aY bC))
def wH (y1:bL×aJ) (iM:(List UInt8)) (lM:(List Int)) (lW:Int) (lQ:Int):Option (bL×aJ) :=
  (fM (aJ.mk lM lW lQ) 2)>>=fun y10=>(some (if y10.1=true then (decide ((iM.length:Int)<400)) else false))>>=fun y11=>if y11=true then ((mV iM iM)>>=fun y12=>(mV y12 [48,49,50,51,52,53,54,55,56,57])>>=fun y13=>wH y1 y13 y10.2.b y10.2.i y10.2.h) else (pX y1.1.kind y1.1.num iM y10.2.b y10.2.i y10.2.h)
  partial_fixpoint
def aBu (p0:Bool):Option bL :=
  if p0=true then (some (bL.mk 3 1 [])) else (some (bL.mk 3 0 []))
def aBo (p0:Int):Option bL :=
  some (bL.mk 1 p0 [])
def aIu (p0:(List UInt8)):Option bL :=
  some (bL.mk 2 0 p0)
def vJ (p0:aJ):Option (bL×aJ) :=
  (dZ p0 6)>>=fun y1=>if (decide (y1.1=0))=true then (some ((bL.mk 0 0 []),y1.2)) else (if (decide (y1.1=1))=true then ((mO y1.2 ([[],[97],[98],[105,116,39,115],[97,98],[255]]:List (List UInt8)))>>=fun y2=>(aIu y2.1)>>=fun y3=>some (y3,y2.2)) else (if (decide (y1.1=2))=true then ((fM y1.2 2)>>=fun y4=>(aBu y4.1)>>=fun y5=>some (y5,y4.2)) else (if (decide (y1.1=3))=true then ((jP y1.2)>>=fun y6=>(aBo y6.1)>>=fun y7=>some (y7,y6.2)) else ((dZ y1.2 7)>>=fun y8=>(aBo (IntKind.wrap .i64 (y8.1 - 2)))>>=fun y9=>some (y9,y8.2)))))
def zR (p0:aJ):Option (bL×aJ) :=
  (vJ p0)>>=fun y1=>(dZ y1.2 14)>>=fun y2=>if (decide (y2.1=0))=true then ((dZ y2.2 6)>>=fun y3=>pX (IntKind.wrap .i64 (y3.1 - 1)) y1.1.num y1.1.text y3.2.b y3.2.i y3.2.h) else (if (decide (y2.1=1))=true then ((jP y2.2)>>=fun y4=>pX y1.1.kind y4.1 y1.1.text y4.2.b y4.2.i y4.2.h) else (if (decide (y2.1=2))=true then ((mO y2.2 ([[120],[],[108,111,110,103]]:List (List UInt8)))>>=fun y5=>wH y1 y5.1 y5.2.b y5.2.i y5.2.h) else (pX y1.1.kind y1.1.num y1.1.text y2.2.b y2.2.i y2.2.h)))
def rD (p0:aJ) (p1:aB):Option (aB×aJ) :=
  (if (true&&((decide (0<(p1.kids.length:Int)))==true))=true then fM p0 2 else some ((default:Bool),p0))>>=fun y1=>(some (if (decide (0<(p1.kids.length:Int)))=true then y1.1 else false))>>=fun y2=>if y2=true then ((dZ y1.2 (p1.kids.length:Int))>>=fun y3=>(idx p1.kids y3.1)>>=fun y4=>(rD y3.2 y4)>>=fun y5=>some ((aB.mk p1.kind p1.op p1.not_ p1.value p1.up p1.at_ (p1.kids.set (y3.1).toNat y5.1) p1.sub),y5.2)) else ((dZ y1.2 7)>>=fun y6=>if (decide (y6.1=0))=true then ((jP y6.2)>>=fun y7=>pQ p1 y7.1 p1.op p1.not_ p1.value.kind p1.value.num p1.value.text p1.up p1.at_ y7.2.b y7.2.i y7.2.h p1.sub) else (if (decide (y6.1=1))=true then ((jP y6.2)>>=fun y8=>pQ p1 p1.kind y8.1 p1.not_ p1.value.kind p1.value.num p1.value.text p1.up p1.at_ y8.2.b y8.2.i y8.2.h p1.sub) else (if (decide (y6.1=2))=true then ((jP y6.2)>>=fun y9=>pQ p1 p1.kind p1.op p1.not_ p1.value.kind p1.value.num p1.value.text y9.1 p1.at_ y9.2.b y9.2.i y9.2.h p1.sub) else (if (decide (y6.1=3))=true then ((jP y6.2)>>=fun y10=>pQ p1 p1.kind p1.op p1.not_ p1.value.kind p1.value.num p1.value.text p1.up y10.1 y10.2.b y10.2.i y10.2.h p1.sub) else (if (decide (y6.1=4))=true then ((zR y6.2)>>=fun y11=>pQ p1 p1.kind p1.op p1.not_ y11.1.kind y11.1.num y11.1.text p1.up p1.at_ y11.2.b y11.2.i y11.2.h p1.sub) else (if (decide (y6.1=5))=true then (pQ p1 p1.kind p1.op (!p1.not_) p1.value.kind p1.value.num p1.value.text p1.up p1.at_ y6.2.b y6.2.i y6.2.h p1.sub) else ((appG 160 p1.sub ([(aV.mk ([]:List Int) ([]:List (List aB)) ([]:List aB) ([]:List bO) ([]:List aB) ([]:List (List UInt8)) false 0)]:List aV))>>=fun y12=>pQ p1 p1.kind p1.op p1.not_ p1.value.kind p1.value.num p1.value.text p1.up p1.at_ y6.2.b y6.2.i y6.2.h y12)))))))
  partial_fixpoint
def zQ (nR:Int) (nI:Int) (nH:Bool) (nC:Int) (nV:Int) (nL:(List UInt8)) (nT:Int) (iV:Int) (rX:(List Int)) (qW:Int) (rY:Int) (tL:(List aB)) (tH:(List aV)):Option (aJ×aB) :=
  some ((aJ.mk rX qW rY),(aB.mk nR nI nH (bL.mk nC nV nL) nT iV tL tH))
def aA0 (y1:Bool×aJ) (iZ:(List bO)) (iX:(List aB)) (eT:(List (List UInt8))) (eQ:(List aB)) (bP:(List (List aB))) (cO:(List Int)) (iV:Int) (qO:(List Int)) (qX:Int) (rQ:Int):Option (aV×aJ) :=
  some ((aV.mk cO bP iX iZ eQ eT y1.1 iV),(aJ.mk qO qX rQ))
def H8 (y1:Bool×aJ) (iX:(List aB)) (eT:(List (List UInt8))) (eQ:(List aB)) (bP:(List (List aB))) (cO:(List Int)) (tJ:(List Int)) (tQ:Int) (rZ:Int) (iZ:(List bO)):Option (aV×aJ) :=
  (fM (aJ.mk tJ tQ rZ) 4)>>=fun y33=>if y33.1=true then ((jP y33.2)>>=fun y34=>aA0 y1 iZ iX eT eQ bP cO y34.1 y34.2.b y34.2.i y34.2.h) else (aA0 y1 iZ iX eT eQ bP cO (-1) y33.2.b y33.2.i y33.2.h)
def uV (p0:aJ):Option ((List UInt8)×aJ) :=
  (fM p0 6)>>=fun y1=>if y1.1=true then ((mO y1.2 ([[97,32,98],[102,114,111,109],[83,101,108,101,99,116],[49,120],[113,34,113],[0],[34],[105,116,39,115],[120,46,121],[45]]:List (List UInt8)))>>=fun y2=>some (y2.1,y2.2)) else ((mO y1.2 ([[97],[98],[99],[116],[117],[118],[105,100],[110,97,109,101],[65],[95,120,49]]:List (List UInt8)))>>=fun y3=>some (y3.1,y3.2))
def Q7 (y1:bL×aJ) (gM:Int):Option (bL×aJ) :=
  some ((bL.mk y1.1.kind gM y1.1.text),y1.2)
def wX (p0:aJ):Option (bL×aJ) :=
  (vJ p0)>>=fun y1=>(some (if (decide (y1.1.kind=1))=true then (decide (y1.1.num<0)) else false))>>=fun y2=>if y2=true then (Q7 y1 9223372036854775807) else (Q7 y1 y1.1.num)
mutual
def yG (p1:Int) (y1:Bool×aJ) (eT:(List (List UInt8))) (eQ:(List aB)) (bP:(List (List aB))) (cO:(List Int)) (fD:((List Int)×(Int×(Int×(List aB))))):Option (aV×aJ) :=
  (fM (aJ.mk fD.1 fD.2.1 fD.2.2.1) 3)>>=fun y26=>if y26.1=true then ((lZ y26.2 p1)>>=fun y27=>(fM y27.2 2)>>=fun y28=>(appG 128 ([]:List bO) ([(bO.mk y27.1 y28.1)]:List bO))>>=fun y29=>H8 y1 fD.2.2.2 eT eQ bP cO y28.2.b y28.2.i y28.2.h y29) else (H8 y1 fD.2.2.2 eT eQ bP cO y26.2.b y26.2.i y26.2.h ([]:List bO))
  partial_fixpoint
def vU (p1:Int) (y12:Int×aJ) (y1:Bool×aJ) (bP:(List (List aB))) (cO:(List Int)) (x9:Int) (dJ:((List Int)×(Int×(Int×(((List (List UInt8))×(List aB))))))):Option (aV×aJ) :=
  if (decide (x9<(IntKind.wrap .i64 (1+y12.1))))=true then ((lZ (aJ.mk dJ.1 dJ.2.1 dJ.2.2.1) p1)>>=fun y17=>(appG 120 dJ.2.2.2.2 ([y17.1]:List aB))>>=fun y18=>(uV y17.2)>>=fun y19=>(appG 16 dJ.2.2.2.1 ([y19.1]:List (List UInt8)))>>=fun y20=>vU p1 y12 y1 bP cO (IntKind.wrap .i64 (x9+1)) (y19.2.b,(y19.2.i,(y19.2.h,(y20,y18))))) else ((fM (aJ.mk dJ.1 dJ.2.1 dJ.2.2.1) 2)>>=fun y21=>if y21.1=true then ((mZ y21.2 (IntKind.wrap .i64 (p1+1)) 1)>>=fun y22=>yG p1 y1 dJ.2.2.2.1 dJ.2.2.2.2 bP cO (y22.2.b,(y22.2.i,(y22.2.h,y22.1)))) else (yG p1 y1 dJ.2.2.2.1 dJ.2.2.2.2 bP cO (y21.2.b,(y21.2.i,(y21.2.h,([]:List aB))))))
  partial_fixpoint
def L8 (p1:Int) (y2:Int×aJ) (x7:Int) (y1:Bool×aJ) (y4:(List Int)) (bP:(List (List aB))) (fJ:((List Int)×(Int×(Int×(List aB))))):Option (aV×aJ) :=
  (appG 24 bP ([fJ.2.2.2]:List (List aB)))>>=fun y16=>wF p1 y2 y1 (IntKind.wrap .i64 (x7+1)) fJ.1 fJ.2.1 (fJ.2.2.1,(y16,y4))
  partial_fixpoint
def wF (p1:Int) (y2:Int×aJ) (y1:Bool×aJ) (x7:Int) (bA:(List Int)) (aY:Int) (bR:(Int×(((List (List aB))×(List Int))))):Option (aV×aJ) :=
  if (decide (x7<(IntKind.wrap .i64 (1+y2.1))))=true then ((dZ (aJ.mk bA aY bR.1) 3)>>=fun y3=>(appG 8 bR.2.2 ([y3.1]:List Int))>>=fun y4=>(if (true&&((decide (0<x7))==true))=true then fM y3.2 2 else some ((default:Bool),y3.2))>>=fun y5=>(some (if (decide (0<x7))=true then y5.1 else false))>>=fun y6=>if y6=true then ((lZ y5.2 p1)>>=fun y7=>(appG 120 ([]:List aB) ([y7.1]:List aB))>>=fun y8=>L8 p1 y2 x7 y1 y4 bR.2.1 (y7.2.b,(y7.2.i,(y7.2.h,y8)))) else (L8 p1 y2 x7 y1 y4 bR.2.1 (y5.2.b,(y5.2.i,(y5.2.h,([]:List aB)))))) else ((dZ (aJ.mk bA aY bR.1) 2)>>=fun y12=>vU p1 y12 y1 bR.2.1 bR.2.2 0 (y12.2.b,(y12.2.i,(y12.2.h,(([]:List (List UInt8)),([]:List aB))))))
  partial_fixpoint
def sV (p0:aJ) (p1:Int):Option (aV×aJ) :=
  (fM p0 3)>>=fun y1=>(dZ y1.2 2)>>=fun y2=>wF p1 y2 y1 0 y2.2.b y2.2.i (y2.2.h,(([]:List (List aB)),([]:List Int)))
  partial_fixpoint
def yO (p1:Int) (p2:Int) (x8:Int) (bA:(List Int)) (aY:Int) (bC:Int) (kN:(List aB)):Option ((List aB)×aJ) :=
  if (decide (x8<p2))=true then ((lZ (aJ.mk bA aY bC) (IntKind.wrap .i64 (p1 - 1)))>>=fun y1=>(appG 120 kN ([y1.1]:List aB))>>=fun y2=>yO p1 p2 (IntKind.wrap .i64 (x8+1)) y1.2.b y1.2.i y1.2.h y2) else (some (kN,(aJ.mk bA aY bC)))
  partial_fixpoint
def mZ (p0:aJ) (p1:Int) (p2:Int):Option ((List aB)×aJ) :=
  yO p1 p2 0 p0.b p0.i p0.h ([]:List aB)
  partial_fixpoint
def xO (p1:Int) (y7:Int×aJ):Option (aB×aJ) :=
  (dZ y7.2 14)>>=fun y20=>(mZ y20.2 p1 2)>>=fun y21=>some ((aB.mk 4 (IntKind.wrap .i64 (1+y20.1)) false (bL.mk 0 0 []) 0 0 y21.1 ([]:List aV)),y21.2)
  partial_fixpoint
def lZ (p0:aJ) (p1:Int):Option (aB×aJ) :=
  (if (true&&((decide (p1≤0))==false))=true then fM p0 4 else some ((default:Bool),p0))>>=fun y1=>(some (if (decide (p1≤0))=true then true else y1.1))>>=fun y2=>if y2=true then ((fM y1.2 2)>>=fun y3=>if y3.1=true then ((dZ y3.2 3)>>=fun y4=>(dZ y4.2 4)>>=fun y5=>some ((aB.mk 2 0 false (bL.mk 0 0 []) y4.1 y5.1 ([]:List aB) ([]:List aV)),y5.2)) else ((wX y3.2)>>=fun y6=>some ((aB.mk 1 0 false y6.1 0 0 ([]:List aB) ([]:List aV)),y6.2))) else ((dZ y1.2 8)>>=fun y7=>if (decide (y7.1=0))=true then ((dZ y7.2 2)>>=fun y8=>(mZ y8.2 p1 1)>>=fun y9=>some ((aB.mk 3 (IntKind.wrap .i64 (15+y8.1)) false (bL.mk 0 0 []) 0 0 y9.1 ([]:List aV)),y9.2)) else (if (decide (y7.1=1))=true then ((fM y7.2 2)>>=fun y10=>(mZ y10.2 p1 1)>>=fun y11=>some ((aB.mk 5 0 y10.1 (bL.mk 0 0 []) 0 0 y11.1 ([]:List aV)),y11.2)) else (if (decide (y7.1=2))=true then ((fM y7.2 2)>>=fun y12=>(mZ y12.2 p1 3)>>=fun y13=>some ((aB.mk 6 0 y12.1 (bL.mk 0 0 []) 0 0 y13.1 ([]:List aV)),y13.2)) else (if (decide (y7.1=3))=true then ((fM y7.2 2)>>=fun y14=>(mZ y14.2 p1 3)>>=fun y15=>some ((aB.mk 7 0 y14.1 (bL.mk 0 0 []) 0 0 y15.1 ([]:List aV)),y15.2)) else (if (decide (y7.1=4))=true then (if (decide (1<p1))=true then ((fM y7.2 2)>>=fun y16=>(mZ y16.2 p1 1)>>=fun y17=>(sV y17.2 (IntKind.wrap .i64 (p1 - 2)))>>=fun y18=>some ((aB.mk 8 0 y16.1 (bL.mk 0 0 []) 0 0 y17.1 ([y18.1]:List aV)),y18.2)) else (xO p1 y7)) else (if (decide (y7.1=5))=true then (if (decide (1<p1))=true then ((sV y7.2 (IntKind.wrap .i64 (p1 - 2)))>>=fun y19=>some ((aB.mk 9 0 false (bL.mk 0 0 []) 0 0 ([]:List aB) ([y19.1]:List aV)),y19.2)) else (xO p1 y7)) else (xO p1 y7)))))))
  partial_fixpoint
end
def vR (p0:(List Int)) (x3:Int) (x4:Int):Option aJ :=
  (some (if (decide (x4<(p0.length:Int)))=true then (decide (x4<4000)) else false))>>=fun y1=>if y1=true then ((idx p0 x4)>>=fun y2=>vR p0 (IntKind.wrap .i64 ((BitVec.ofInt (IntKind.bits .i64) (IntKind.wrap .i64 ((IntKind.wrap .i64 ((IntKind.wrap .i64 (x3 * 131))+(IntKind.wrap .i64 y2)))+7)) &&& BitVec.ofInt (IntKind.bits .i64) 1073741823).toNat:Int)) (IntKind.wrap .i64 (x4+1))) else (some (aJ.mk p0 0 x3))
  partial_fixpoint
def vL (p0:(List Int)):Option aJ :=
  vR p0 (IntKind.wrap .i64 (28322+(p0.length:Int))) 0
def M5 (p0:(List Int)) (p1:Int):Option Int :=
  if (decide (p1<(IntKind.wrap .i64 (2+(IntKind.wrap .i64 (Int.tdiv (p0.length:Int) 20))))))=true then (some p1) else (some (IntKind.wrap .i64 (2+(IntKind.wrap .i64 (Int.tdiv (p0.length:Int) 20)))))
def aA9 (p0:(List Int)):Option (aJ×aB) :=
  (vL p0)>>=fun y1=>(M5 p0 4)>>=fun y2=>(dZ y1 y2)>>=fun y3=>(lZ y3.2 (IntKind.wrap .i64 (1+y3.1)))>>=fun y4=>(fM y4.2 6)>>=fun y5=>if y5.1=true then ((rD y5.2 y4.1)>>=fun y6=>zQ y6.1.kind y6.1.op y6.1.not_ y6.1.value.kind y6.1.value.num y6.1.value.text y6.1.up y6.1.at_ y6.2.b y6.2.i y6.2.h y6.1.kids y6.1.sub) else (zQ y4.1.kind y4.1.op y4.1.not_ y4.1.value.kind y4.1.value.num y4.1.value.text y4.1.up y4.1.at_ y5.2.b y5.2.i y5.2.h y4.1.kids y4.1.sub)
def aAv (p0:(List Int)):Option aB :=
  (aA9 p0)>>=fun y1=>some y1.2
def qU (y3:aV×aJ) (bA:(List Int)) (aY:Int) (bC:Int) (tF:(List Int)) (uE:(List (List aB))) (uJ:(List aB)) (uU:(List aB)) (tV:(List (List UInt8))):Option (aV×aJ) :=
  some ((aV.mk tF uE uJ y3.1.order uU tV y3.1.distinct y3.1.limit),(aJ.mk bA aY bC))
def pV (p1:Int) (x5:(List Int)) (x6:Int) (bA:(List Int)) (aY:Int) (bC:Int):Option ((List Int)×aJ) :=
  if (decide (x6<p1))=true then ((lJ (aJ.mk bA aY bC))>>=fun y1=>(appG 1 x5 ([(IntKind.wrap .u8 y1.1)]:List Int))>>=fun y2=>pV p1 y2 (IntKind.wrap .i64 (x6+1)) y1.2.b y1.2.i y1.2.h) else (some (x5,(aJ.mk bA aY bC)))
  partial_fixpoint
def aBv (p0:aJ) (p1:Int):Option ((List Int)×aJ) :=
  pV p1 ([]:List Int) 0 p0.b p0.i p0.h
def aCf:Option (List (List UInt8)) :=
  some ([[],[83,69,76,69,67,84],[68,73,83,84,73,78,67,84],[70,82,79,77],[74,79,73,78],[79,78],[87,72,69,82,69],[79,82,68,69,82],[66,89],[65,83,67],[68,69,83,67],[76,73,77,73,84],[65,83],[65,78,68],[79,82],[78,79,84],[73,83],[73,78],[66,69,84,87,69,69,78],[69,88,73,83,84,83],[78,85,76,76],[84,82,85,69],[70,65,76,83,69],[73,78,83,69,82,84],[73,78,84,79],[86,65,76,85,69,83],[85,80,68,65,84,69],[83,69,84],[68,69,76,69,84,69]]:List (List UInt8))
def zB (p0:aJ):Option ((List UInt8)×aJ) :=
  (dZ p0 6)>>=fun y1=>if (decide (y1.1=0))=true then ((mO y1.2 ([[],[97,98,99,100,101,102,103,104,105,106,107,108,109,110,111,112,113,114,115,116],[97,98,99,100,101,102,103,104,105,106,107,108,109,110,111,112,113,114,115,116,117],[108,105,109,105,116],[76,73,77,73,84,83],[65,83,99],[57],[97,57],[195,169]]:List (List UInt8)))>>=fun y2=>some (y2.1,y2.2)) else (if (decide (y1.1=1))=true then ((aCf)>>=fun y3=>(dZ y1.2 29)>>=fun y4=>(idx y3 y4.1)>>=fun y5=>some (y5,y4.2)) else (if (decide (y1.1=2))=true then ((dZ y1.2 5)>>=fun y6=>(aBv y6.2 y6.1)>>=fun y7=>(ofBytes y7.1)>>=fun y8=>some (y8,y7.2)) else ((uV y1.2)>>=fun y9=>some (y9.1,y9.2))))
def aAt (p0:aJ) (p1:(List Int)):Option (aV×aJ) :=
  (M5 p1 4)>>=fun y1=>(dZ p0 y1)>>=fun y2=>(sV y2.2 y2.1)>>=fun y3=>(dZ y3.2 14)>>=fun y4=>if (decide (y4.1=0))=true then ((jP y4.2)>>=fun y5=>(appG 8 y3.1.tables ([y5.1]:List Int))>>=fun y6=>qU y3 y5.2.b y5.2.i y5.2.h y6 y3.1.on_ y3.1.where_ y3.1.items y3.1.names) else (if (decide (y4.1=1))=true then ((zB y4.2)>>=fun y7=>(appG 16 y3.1.names ([y7.1]:List (List UInt8)))>>=fun y8=>qU y3 y7.2.b y7.2.i y7.2.h y3.1.tables y3.1.on_ y3.1.where_ y3.1.items y8) else (if (decide (y4.1=2))=true then ((appG 24 y3.1.on_ ([([(aB.mk 0 0 false (bL.mk 0 0 []) 0 0 ([]:List aB) ([]:List aV))]:List aB)]:List (List aB)))>>=fun y9=>qU y3 y4.2.b y4.2.i y4.2.h y3.1.tables y9 y3.1.where_ y3.1.items y3.1.names) else (if (decide (y4.1=3))=true then ((idx y3.1.items 0)>>=fun y10=>(rD y4.2 y10)>>=fun y11=>qU y3 y11.2.b y11.2.i y11.2.h y3.1.tables y3.1.on_ y3.1.where_ (y3.1.items.set (0:Int).toNat y11.1) y3.1.names) else (if (decide (y4.1=4))=true then ((jP y4.2)>>=fun y12=>(appG 120 y3.1.where_ ([(aB.mk y12.1 0 false (bL.mk 0 0 []) 0 0 ([]:List aB) ([]:List aV))]:List aB))>>=fun y13=>qU y3 y12.2.b y12.2.i y12.2.h y3.1.tables y3.1.on_ y13 y3.1.items y3.1.names) else (qU y3 y4.2.b y4.2.i y4.2.h y3.1.tables y3.1.on_ y3.1.where_ y3.1.items y3.1.names)))))
def X8 (p0:(List Int)):Option aV :=
  (vL p0)>>=fun y1=>(aAt y1 p0)>>=fun y2=>some y2.1
def uX (x0:Int) (x3:(List Int)):Option (List UInt8) :=
  if (decide (127<x0))=true then ((appG 1 x3 ([(IntKind.wrap .u8 (IntKind.wrap .u64 ((Int.tmod x0 128)+128)))]:List Int))>>=fun y1=>uX (IntKind.wrap .u64 (Int.tdiv x0 128)) y1) else ((appG 1 x3 ([(IntKind.wrap .u8 x0)]:List Int))>>=fun y2=>(ofBytes y2)>>=fun y3=>some y3)
  partial_fixpoint
def aDk (p0:Int):Option (List UInt8) :=
  uX p0 ([]:List Int)
def zA (p0:Int):Option Int :=
  if (decide (p0<0))=true then (some (IntKind.wrap .u64 ((IntKind.wrap .u64 (2 * (IntKind.wrap .u64 (IntKind.wrap .i64 (0 - (IntKind.wrap .i64 (p0+1)))))))+1))) else (some (IntKind.wrap .u64 (2 * (IntKind.wrap .u64 p0))))
def fP (p0:(List Int)) (p1:Int):Option (List Int) :=
  (zA p1)>>=fun y1=>(aDk y1)>>=fun y2=>(appG 1 p0 (jX y2))>>=fun y3=>some y3
def oH (p0:(List Int)) (p1:Bool):Option (List Int) :=
  if p1=true then ((fP p0 1)>>=fun y1=>some y1) else ((fP p0 0)>>=fun y2=>some y2)
def qQ (p0:(List Int)) (p1:(List UInt8)):Option (List Int) :=
  (fP p0 (p1.length:Int))>>=fun y1=>(appG 1 y1 (jX p1))>>=fun y2=>some y2
def wZ (p1:aV) (iG:(List Int)) (x8:Int):Option (List Int) :=
  if (decide (x8<(p1.names.length:Int)))=true then ((idx p1.names x8)>>=fun y18=>(qQ iG y18)>>=fun y19=>wZ p1 y19 (IntKind.wrap .i64 (x8+1))) else ((oH iG p1.distinct)>>=fun y20=>(fP y20 p1.limit)>>=fun y21=>some y21)
  partial_fixpoint
mutual
def wR (p1:aV) (fZ:(List Int)) (x7:Int):Option (List Int) :=
  if (decide (x7<(p1.order.length:Int)))=true then ((idx p1.order x7)>>=fun y11=>(oL fZ y11.expr)>>=fun y12=>(idx p1.order x7)>>=fun y13=>(oH y12 y13.desc)>>=fun y14=>wR p1 y14 (IntKind.wrap .i64 (x7+1))) else ((rF fZ p1.items)>>=fun y15=>(fP y15 (p1.names.length:Int))>>=fun y16=>wZ p1 y16 0)
  partial_fixpoint
def M6 (p1:aB) (x0:(List Int)) (x5:Int):Option (List Int) :=
  if (decide (x5<(p1.sub.length:Int)))=true then ((idx p1.sub x5)>>=fun y11=>(oG x0 y11)>>=fun y12=>M6 p1 y12 (IntKind.wrap .i64 (x5+1))) else (some x0)
  partial_fixpoint
def oL (p0:(List Int)) (p1:aB):Option (List Int) :=
  (fP p0 p1.kind)>>=fun y1=>(fP y1 p1.op)>>=fun y2=>(oH y2 p1.not_)>>=fun y3=>(fP y3 p1.value.kind)>>=fun y4=>(fP y4 p1.value.num)>>=fun y5=>(qQ y5 p1.value.text)>>=fun y6=>(fP y6 p1.up)>>=fun y7=>(fP y7 p1.at_)>>=fun y8=>(rF y8 p1.kids)>>=fun y9=>(fP y9 (p1.sub.length:Int))>>=fun y10=>M6 p1 y10 0
  partial_fixpoint
def J5 (p1:(List aB)) (x0:(List Int)) (x5:Int):Option (List Int) :=
  if (decide (x5<(p1.length:Int)))=true then ((idx p1 x5)>>=fun y2=>(oL x0 y2)>>=fun y3=>J5 p1 y3 (IntKind.wrap .i64 (x5+1))) else (some x0)
  partial_fixpoint
def rF (p0:(List Int)) (p1:(List aB)):Option (List Int) :=
  (fP p0 (p1.length:Int))>>=fun y1=>J5 p1 y1 0
  partial_fixpoint
def D8 (p1:aV) (iE:(List Int)) (x6:Int):Option (List Int) :=
  if (decide (x6<(p1.on_.length:Int)))=true then ((idx p1.on_ x6)>>=fun y6=>(rF iE y6)>>=fun y7=>D8 p1 y7 (IntKind.wrap .i64 (x6+1))) else ((rF iE p1.where_)>>=fun y8=>(fP y8 (p1.order.length:Int))>>=fun y9=>wR p1 y9 0)
  partial_fixpoint
def M3 (p1:aV) (x0:(List Int)) (x5:Int):Option (List Int) :=
  if (decide (x5<(p1.tables.length:Int)))=true then ((idx p1.tables x5)>>=fun y2=>(fP x0 y2)>>=fun y3=>M3 p1 y3 (IntKind.wrap .i64 (x5+1))) else ((fP x0 (p1.on_.length:Int))>>=fun y4=>D8 p1 y4 0)
  partial_fixpoint
def oG (p0:(List Int)) (p1:aV):Option (List Int) :=
  (fP p0 (p1.tables.length:Int))>>=fun y1=>M3 p1 y1 0
  partial_fixpoint
end
def aA1 (p0:aV):Option (List UInt8) :=
  (oG ([]:List Int) p0)>>=fun y1=>(ofBytes y1)>>=fun y2=>some y2
def wT (p0:(List Int)) (p1:(List Int)) (x5:Int):Option Bool :=
  if (decide (x5<(p0.length:Int)))=true then ((idx p0 x5)>>=fun y1=>(idx p1 x5)>>=fun y2=>if (!decide (y1=y2))=true then (some false) else (wT p0 p1 (IntKind.wrap .i64 (x5+1)))) else (some true)
  partial_fixpoint
def xP (p0:(List Int)) (p1:(List Int)):Option Bool :=
  if (!decide ((p0.length:Int)=(p1.length:Int)))=true then (some false) else (wT p0 p1 0)
def wJ (p0:(List (List UInt8))) (p1:(List (List UInt8))) (x5:Int):Option Bool :=
  if (decide (x5<(p0.length:Int)))=true then ((idx p0 x5)>>=fun y1=>(idx p1 x5)>>=fun y2=>if (!decide (y1=y2))=true then (some false) else (wJ p0 p1 (IntKind.wrap .i64 (x5+1)))) else (some true)
  partial_fixpoint
def K6 (p0:(List (List UInt8))) (p1:(List (List UInt8))):Option Bool :=
  if (!decide ((p0.length:Int)=(p1.length:Int)))=true then (some false) else (wJ p0 p1 0)
mutual
def sN (p0:aV) (p1:aV) (x6:Int):Option Bool :=
  if (decide (x6<(p0.order.length:Int)))=true then ((idx p0.order x6)>>=fun y15=>(idx p1.order x6)>>=fun y16=>(if (true&&((!(y15.desc==y16.desc))==false))=true then idx p0.order x6 else some default)>>=fun y17=>(if (true&&((!(y15.desc==y16.desc))==false))=true then idx p1.order x6 else some default)>>=fun y18=>(if (true&&((!(y15.desc==y16.desc))==false))=true then pE y17.expr y18.expr else some default)>>=fun y19=>(some (if (!(y15.desc==y16.desc))=true then true else (!y19)))>>=fun y20=>if y20=true then (some false) else (sN p0 p1 (IntKind.wrap .i64 (x6+1)))) else (some true)
  partial_fixpoint
def uZ (p0:aV) (p1:aV) (x5:Int):Option Bool :=
  if (decide (x5<(p0.on_.length:Int)))=true then ((idx p0.on_ x5)>>=fun y12=>(idx p1.on_ x5)>>=fun y13=>(nD y12 y13)>>=fun y14=>if (!y14)=true then (some false) else (uZ p0 p1 (IntKind.wrap .i64 (x5+1)))) else (sN p0 p1 0)
  partial_fixpoint
def vX (p0:aV) (p1:aV):Option Bool :=
  (some (if (!(p0.distinct==p1.distinct))=true then true else (!decide (p0.limit=p1.limit))))>>=fun y1=>(if (true&&(y1==false))=true then xP p0.tables p1.tables else some default)>>=fun y2=>(some (if y1=true then true else (!y2)))>>=fun y3=>(some (if y3=true then true else (!decide ((p0.on_.length:Int)=(p1.on_.length:Int)))))>>=fun y4=>(if (true&&(y4==false))=true then nD p0.where_ p1.where_ else some default)>>=fun y5=>(some (if y4=true then true else (!y5)))>>=fun y6=>(some (if y6=true then true else (!decide ((p0.order.length:Int)=(p1.order.length:Int)))))>>=fun y7=>(if (true&&(y7==false))=true then nD p0.items p1.items else some default)>>=fun y8=>(some (if y7=true then true else (!y8)))>>=fun y9=>(if (true&&(y9==false))=true then K6 p0.names p1.names else some default)>>=fun y10=>(some (if y9=true then true else (!y10)))>>=fun y11=>if y11=true then (some false) else (uZ p0 p1 0)
  partial_fixpoint
def vO (p0:aB) (p1:aB) (x5:Int):Option Bool :=
  if (decide (x5<(p0.sub.length:Int)))=true then ((idx p0.sub x5)>>=fun y9=>(idx p1.sub x5)>>=fun y10=>(vX y9 y10)>>=fun y11=>if (!y11)=true then (some false) else (vO p0 p1 (IntKind.wrap .i64 (x5+1)))) else (some true)
  partial_fixpoint
def zG (p0:(List aB)) (p1:(List aB)) (x5:Int):Option Bool :=
  if (decide (x5<(p0.length:Int)))=true then ((idx p0 x5)>>=fun y1=>(idx p1 x5)>>=fun y2=>(pE y1 y2)>>=fun y3=>if (!y3)=true then (some false) else (zG p0 p1 (IntKind.wrap .i64 (x5+1)))) else (some true)
  partial_fixpoint
def nD (p0:(List aB)) (p1:(List aB)):Option Bool :=
  if (!decide ((p0.length:Int)=(p1.length:Int)))=true then (some false) else (zG p0 p1 0)
  partial_fixpoint
def pE (p0:aB) (p1:aB):Option Bool :=
  (some (if (!decide (p0.kind=p1.kind))=true then true else (!decide (p0.op=p1.op))))>>=fun y1=>(some (if y1=true then true else (!(p0.not_==p1.not_))))>>=fun y2=>(some (if y2=true then true else (!((decide (p0.value.kind=p1.value.kind))&&((decide (p0.value.num=p1.value.num))&&((decide (p0.value.text=p1.value.text))&&true))))))>>=fun y3=>(some (if y3=true then true else (!decide (p0.up=p1.up))))>>=fun y4=>(some (if y4=true then true else (!decide (p0.at_=p1.at_))))>>=fun y5=>(some (if y5=true then true else (!decide ((p0.sub.length:Int)=(p1.sub.length:Int)))))>>=fun y6=>(if (true&&(y6==false))=true then nD p0.kids p1.kids else some default)>>=fun y7=>(some (if y6=true then true else (!y7)))>>=fun y8=>if y8=true then (some false) else (vO p0 p1 0)
  partial_fixpoint
end
def aD6 (p0:(List Int)):Option Bool :=
  some (decide (1048576<(p0.length:Int)))
def aAk (p0:(List Int)):Option Bool :=
  (aD6 p0)>>=fun y1=>if y1=true then (some true) else ((X8 p0)>>=fun y2=>(W9 y2)>>=fun y3=>(aA1 y2)>>=fun y4=>if (!decide (y3=y4))=true then (some false) else (if (decide (15000<(y3.length:Int)))=true then (some true) else ((mV [97,98,99] y3)>>=fun y5=>(mV y5 [120])>>=fun y6=>(E9 y6 3)>>=fun y7=>(aAv p0)>>=fun y8=>(X3 y8)>>=fun y9=>(mV y3 y9)>>=fun y10=>(vC y10 (y3.length:Int))>>=fun y11=>(some (if y7.2.2=true then (decide (y7.2.1=(IntKind.wrap .i64 (3+(y3.length:Int))))) else false))>>=fun y12=>(if (true&&(y12==true))=true then vX y7.1 y2 else some default)>>=fun y13=>(some (if y12=true then y13 else false))>>=fun y14=>(if ((true&&(y14==true))&&((decide (4000<(y9.length:Int)))==false))=true then some (if y11.2.2=true then (decide (y11.2.1=(IntKind.wrap .i64 ((y3.length:Int)+(y9.length:Int))))) else false) else some default)>>=fun y15=>(if (((true&&(y14==true))&&((decide (4000<(y9.length:Int)))==false))&&(y15==true))=true then pE y11.1 y8 else some default)>>=fun y16=>(if ((true&&(y14==true))&&((decide (4000<(y9.length:Int)))==false))=true then some (if y15=true then y16 else false) else some default)>>=fun y17=>(if (true&&(y14==true))=true then some (if (decide (4000<(y9.length:Int)))=true then true else y17) else some default)>>=fun y18=>(some (if y14=true then y18 else false))>>=fun y19=>some y19)))
end Go.Ab
