/- The functions of the program,as Lean functions (printed by a program). -/
import Derived.Test.YtphefknfgclofaaAbF0
namespace Go.Ab
open Go
structure bN where
  kind:Int
  num:Int
  text:(List UInt8)
instance:Inhabited bN:=⟨(bN.mk 0 0 [])⟩
mutual
structure aB where
  kind:Int
  op:Int
  not_:Bool
  value:bN
  up:Int
  at_:Int
  kids:(List aB)
  sub:(List aV)
structure bH where
  expr:aB
  desc:Bool
structure aV where
  tables:(List Int)
  on_:(List (List aB))
  where_:(List aB)
  order:(List bH)
  items:(List aB)
  names:(List (List UInt8))
  distinct:Bool
  limit:Int
end
instance:Inhabited aB:=⟨(aB.mk 0 0 false (bN.mk 0 0 []) 0 0 [] [])⟩
instance:Inhabited bH:=⟨(bH.mk (aB.mk 0 0 false (bN.mk 0 0 []) 0 0 [] []) false)⟩
instance:Inhabited aV:=⟨(aV.mk [] [] [] [] [] [] false 0)⟩
structure aJ where
  b:(List Int)
  i:Int
  h:Int
instance:Inhabited aJ:=⟨(aJ.mk [] 0 0)⟩
structure aY where
  s:(List UInt8)
  at_:Int
  bad:Bool
instance:Inhabited aY:=⟨(aY.mk [] 0 false)⟩
structure aU where
  s:(List UInt8)
  at_:Int
  failed:Bool
instance:Inhabited aU:=⟨(aU.mk [] 0 false)⟩
def okGValue (x:bN):Prop:=okI x.kind∧okI x.num∧okS x.text
mutual
def okGPExpr:aB→Prop
  | ⟨a0,a1,a2,a3,a4,a5,a6,a7⟩=>okI a0∧okI a1∧okB a2∧okGValue a3∧okI a4∧okI a5∧(a6.length≤9223372036854775807∧okLGPExpr a6)∧(a7.length≤9223372036854775807∧okLGPlan a7)
def okGPSort:bH→Prop
  | ⟨a0,a1⟩=>okGPExpr a0∧okB a1
def okGPlan:aV→Prop
  | ⟨a0,a1,a2,a3,a4,a5,a6,a7⟩=>(okL okI) a0∧(a1.length≤9223372036854775807∧okLLGPExpr a1)∧(a2.length≤9223372036854775807∧okLGPExpr a2)∧(a3.length≤9223372036854775807∧okLGPSort a3)∧(a4.length≤9223372036854775807∧okLGPExpr a4)∧(okL okS) a5∧okB a6∧okI a7
def okLGPExpr:List aB→Prop
  | []=>True
  | x::l=>okGPExpr x∧okLGPExpr l
def okLGPSort:List bH→Prop
  | []=>True
  | x::l=>okGPSort x∧okLGPSort l
def okLGPlan:List aV→Prop
  | []=>True
  | x::l=>okGPlan x∧okLGPlan l
def okLLGPExpr:List (List aB)→Prop
  | []=>True
  | x::l=>(x.length≤9223372036854775807∧okLGPExpr x)∧okLLGPExpr l
end
def okGL1Cur (x:aJ):Prop:=(okL okU8) x.b∧okI x.i∧okI x.h
def okGL24In (x:aY):Prop:=okS x.s∧okI x.at_∧okB x.bad
def okGReader (x:aU):Prop:=okS x.s∧okI x.at_∧okB x.failed
def vR (p0:(List UInt8)) (p1:Int):Option (aU×Bool) :=
  (some (if (decide ((p0.length:Int)≤20000))=true then (decide (0≤p1)) else false))>>=fun y1=>(some (if y1=true then (decide (p1≤(p0.length:Int))) else false))>>=fun y2=>some ((aU.mk p0 p1 false),y2)
def wB (y1:Int×aU) (aZ:Bool):Option (Int×aU) :=
  if aZ=true then (some (0,(aU.mk y1.2.s y1.2.at_ aZ))) else (some (y1.1,(aU.mk y1.2.s y1.2.at_ aZ)))
def wM (x0:Int) (x3:(List Int)):Option (List UInt8) :=
  if (decide (128≤x0))=true then ((appG 1 x3 ([(IntKind.wrap .u8 ((BitVec.ofInt (IntKind.bits .u8) (IntKind.wrap .u8 x0) ||| BitVec.ofInt (IntKind.bits .u8) 128).toNat:Int))]:List Int))>>=fun y1=>wM (Int.fdiv x0 (2 ^ 7)) y1) else ((appG 1 x3 ([(IntKind.wrap .u8 x0)]:List Int))>>=fun y2=>(ofBytes y2)>>=fun y3=>some y3)
  partial_fixpoint
def vD (p0:Int):Option (List UInt8) :=
  wM p0 ([]:List Int)
def qG (p0:(List UInt8)) (p1:Int) (x7:Int) (x8:Int):Option (Int×Int×Bool) :=
  (some (if (decide (x8<(p0.length:Int)))=true then (decide (x8<(IntKind.wrap .i64 (p1+10)))) else false))>>=fun y1=>if y1=true then ((xN p0 x8)>>=fun y2=>(R6 .u64 (IntKind.wrap .u64 (IntKind.wrap .u8 ((BitVec.ofInt (IntKind.bits .u8) y2 &&& BitVec.ofInt (IntKind.bits .u8) 127).toNat:Int))) (IntKind.wrap .i64 (7 * (IntKind.wrap .i64 (x8 - p1)))))>>=fun y3=>(xN p0 x8)>>=fun y4=>if (decide (y4<128))=true then ((vD (IntKind.wrap .u64 ((BitVec.ofInt (IntKind.bits .u64) x7 ||| BitVec.ofInt (IntKind.bits .u64) y3).toNat:Int)))>>=fun y5=>(mU p0 p1 (IntKind.wrap .i64 (x8+1)))>>=fun y6=>if (!decide (y5=y6))=true then (some (0,0,false)) else (some ((IntKind.wrap .u64 ((BitVec.ofInt (IntKind.bits .u64) x7 ||| BitVec.ofInt (IntKind.bits .u64) y3).toNat:Int)),(IntKind.wrap .i64 (x8+1)),true))) else (qG p0 p1 (IntKind.wrap .u64 ((BitVec.ofInt (IntKind.bits .u64) x7 ||| BitVec.ofInt (IntKind.bits .u64) y3).toNat:Int)) (IntKind.wrap .i64 (x8+1)))) else (some (0,0,false))
  partial_fixpoint
def yS (p0:(List UInt8)) (p1:Int):Option (Int×Int×Bool) :=
  if (decide (p1<0))=true then (some (0,0,false)) else (qG p0 p1 0 p1)
def A9 (p0:Int):Option Int :=
  some (IntKind.wrap .i64 ((BitVec.ofInt (IntKind.bits .i64) (IntKind.wrap .i64 (Int.fdiv p0 (2 ^ 1))) ^^^ BitVec.ofInt (IntKind.bits .i64) (IntKind.wrap .i64 (0 - (IntKind.wrap .i64 (IntKind.wrap .u64 ((BitVec.ofInt (IntKind.bits .u64) p0 &&& BitVec.ofInt (IntKind.bits .u64) 1).toNat:Int)))))).toNat:Int))
def fP (p0:aU):Option (Int×aU) :=
  (yS p0.s p0.at_)>>=fun y1=>(some (if p0.failed=true then true else (!y1.2.2)))>>=fun y2=>if y2=true then (some (0,(aU.mk p0.s p0.at_ true))) else ((A9 y1.1)>>=fun y3=>some (y3,(aU.mk p0.s y1.2.1 p0.failed)))
def jK (p0:aU):Option (Int×aU) :=
  (fP p0)>>=fun y1=>(some (if (decide (y1.1<0))=true then true else (decide ((IntKind.wrap .i64 ((y1.2.s.length:Int) - y1.2.at_))<y1.1))))>>=fun y2=>if y2=true then (wB y1 true) else (wB y1 y1.2.failed)
def iI (p0:aU):Option (Bool×aU) :=
  (fP p0)>>=fun y1=>(if (true&&(y1.2.failed==false))=true then some (if (!decide (y1.1=0))=true then (!decide (y1.1=1)) else false) else some default)>>=fun y2=>(some (if y1.2.failed=true then true else y2))>>=fun y3=>some ((decide (y1.1=1)),(aU.mk y1.2.s y1.2.at_ y3))
def mO (p0:aU):Option ((List UInt8)×aU) :=
  (jK p0)>>=fun y1=>(mU y1.2.s (IntKind.wrap .i64 ((IntKind.wrap .i64 (y1.2.at_+y1.1)) - y1.1)) (IntKind.wrap .i64 (y1.2.at_+y1.1)))>>=fun y2=>some (y2,(aU.mk y1.2.s (IntKind.wrap .i64 (y1.2.at_+y1.1)) y1.2.failed))
def aA7 (c0_0:(List Int)) (c0_6:Bool) (c0_7:Int) (c2:aU):Option (Bool×Int×aU×(List Int)) :=
  (fP c2)>>=fun y1=>(appG 8 c0_0 ([y1.1]:List Int))>>=fun y2=>some (c0_6,c0_7,y1.2,y2)
def wP (x4:Int) (bC:(List UInt8)) (aX:Int) (aZ:Bool) (eD:Bool) (gK:Int) (eO:(List Int)):Option (aU×Bool×Int×(List Int)) :=
  (some (if (decide (0<x4))=true then (!aZ) else false))>>=fun y2=>if y2=true then ((aA7 eO eD gK (aU.mk bC aX aZ))>>=fun y3=>wP (IntKind.wrap .i64 (x4 - 1)) y3.2.2.1.s y3.2.2.1.at_ y3.2.2.1.failed y3.1 y3.2.1 y3.2.2.2) else (some ((aU.mk bC aX aZ),eD,gK,eO))
  partial_fixpoint
def X6 (p0:aU) (c1_6:Bool) (c1_7:Int):Option (aU×Bool×Int×(List Int)) :=
  (jK p0)>>=fun y1=>wP y1.1 y1.2.s y1.2.at_ y1.2.failed c1_6 c1_7 ([]:List Int)
def aAd (c0_0:(List Int)) (c0_1:(List (List aB))) (c0_2:(List aB)) (c0_3:(List bH)) (c0_4:(List aB)) (c0_5:(List (List UInt8))) (c0_6:Bool) (c0_7:Int) (c2:aU):Option (Bool×Int×aU×(List (List UInt8))) :=
  (mO c2)>>=fun y1=>(appG 16 c0_5 ([y1.1]:List (List UInt8)))>>=fun y2=>some (c0_6,c0_7,y1.2,y2)
def wW (c1_0:(List Int)) (c1_1:(List (List aB))) (c1_2:(List aB)) (c1_3:(List bH)) (c1_4:(List aB)) (x4:Int) (bC:(List UInt8)) (aX:Int) (aZ:Bool) (eD:Bool) (gK:Int) (eO:(List (List UInt8))):Option (aU×Bool×Int×(List (List UInt8))) :=
  (some (if (decide (0<x4))=true then (!aZ) else false))>>=fun y2=>if y2=true then ((aAd c1_0 c1_1 c1_2 c1_3 c1_4 eO eD gK (aU.mk bC aX aZ))>>=fun y3=>wW c1_0 c1_1 c1_2 c1_3 c1_4 (IntKind.wrap .i64 (x4 - 1)) y3.2.2.1.s y3.2.2.1.at_ y3.2.2.1.failed y3.1 y3.2.1 y3.2.2.2) else (some ((aU.mk bC aX aZ),eD,gK,eO))
  partial_fixpoint
def nH (p0:aU) (c1_0:(List Int)) (c1_1:(List (List aB))) (c1_2:(List aB)) (c1_3:(List bH)) (c1_4:(List aB)) (c1_6:Bool) (c1_7:Int):Option (aU×Bool×Int×(List (List UInt8))) :=
  (jK p0)>>=fun y1=>wW c1_0 c1_1 c1_2 c1_3 c1_4 y1.1 y1.2.s y1.2.at_ y1.2.failed c1_6 c1_7 ([]:List (List UInt8))
mutual
def aBh (c0_0:(List Int)) (c0_1:(List (List aB))) (c0_2:(List aB)) (c0_3:(List bH)) (c0_6:Bool) (c0_7:Int) (c2:aU):Option (Bool×Int×aU×(List bH)) :=
  (vM c2)>>=fun y1=>(iI y1.2)>>=fun y2=>(appG 128 c0_3 ([(bH.mk y1.1 y2.1)]:List bH))>>=fun y3=>some (c0_6,c0_7,y2.2,y3)
  partial_fixpoint
def xY (c1_0:(List Int)) (c1_1:(List (List aB))) (c1_2:(List aB)) (x4:Int) (bC:(List UInt8)) (aX:Int) (cK:(Bool×(Bool×(Int×(List bH))))):Option (aU×Bool×Int×(List bH)) :=
  (some (if (decide (0<x4))=true then (!cK.1) else false))>>=fun y2=>if y2=true then ((aBh c1_0 c1_1 c1_2 cK.2.2.2 cK.2.1 cK.2.2.1 (aU.mk bC aX cK.1))>>=fun y3=>xY c1_0 c1_1 c1_2 (IntKind.wrap .i64 (x4 - 1)) y3.2.2.1.s y3.2.2.1.at_ (y3.2.2.1.failed,(y3.1,(y3.2.1,y3.2.2.2)))) else (some ((aU.mk bC aX cK.1),cK.2.1,cK.2.2.1,cK.2.2.2))
  partial_fixpoint
def sF (p0:aU) (c1_0:(List Int)) (c1_1:(List (List aB))) (c1_2:(List aB)) (c1_6:Bool) (c1_7:Int):Option (aU×Bool×Int×(List bH)) :=
  (jK p0)>>=fun y1=>xY c1_0 c1_1 c1_2 y1.1 y1.2.s y1.2.at_ (y1.2.failed,(c1_6,(c1_7,([]:List bH))))
  partial_fixpoint
def aD6 (c0_0:(List Int)) (c0_1:(List (List aB))) (c0_6:Bool) (c0_7:Int) (c2:aU):Option (Bool×Int×aU×(List (List aB))) :=
  (jY c2)>>=fun y1=>(appG 24 c0_1 ([y1.1]:List (List aB)))>>=fun y2=>some (c0_6,c0_7,y1.2,y2)
  partial_fixpoint
def yX (c1_0:(List Int)) (x4:Int) (bC:(List UInt8)) (aX:Int) (aZ:Bool) (eD:Bool) (jE:(Int×(List (List aB)))):Option (aU×Bool×Int×(List (List aB))) :=
  (some (if (decide (0<x4))=true then (!aZ) else false))>>=fun y2=>if y2=true then ((aD6 c1_0 jE.2 eD jE.1 (aU.mk bC aX aZ))>>=fun y3=>yX c1_0 (IntKind.wrap .i64 (x4 - 1)) y3.2.2.1.s y3.2.2.1.at_ y3.2.2.1.failed y3.1 (y3.2.1,y3.2.2.2)) else (some ((aU.mk bC aX aZ),eD,jE.1,jE.2))
  partial_fixpoint
def zV (p0:aU) (c1_0:(List Int)) (c1_6:Bool) (c1_7:Int):Option (aU×Bool×Int×(List (List aB))) :=
  (jK p0)>>=fun y1=>yX c1_0 y1.1 y1.2.s y1.2.at_ y1.2.failed c1_6 (c1_7,([]:List (List aB)))
  partial_fixpoint
def aC0 (c0_0:Int) (c0_1:Int) (c0_2:Bool) (c0_3:Int) (c0_4:Int) (c0_5:(List UInt8)) (kc0_6:(Int×(Int×((List aB)×((List aV)×aU))))):Option (Int×Int×Bool×Int×Int×(List UInt8)×Int×Int×aU×(List aV)) :=
  (tH kc0_6.2.2.2.2)>>=fun y1=>(appG 160 kc0_6.2.2.2.1 ([y1.1]:List aV))>>=fun y2=>some (c0_0,c0_1,c0_2,c0_3,c0_4,c0_5,kc0_6.1,kc0_6.2.1,y1.2,y2)
  partial_fixpoint
def zF (c1_8:(List aB)) (x4:Int) (bC:(List UInt8)) (aX:Int) (aZ:Bool) (kR:Int) (dL:(Int×(Bool×(Int×(Int×((List UInt8)×(Int×(Int×(List aV))))))))):Option (aU×Int×Int×Bool×Int×Int×(List UInt8)×Int×Int×(List aV)) :=
  (some (if (decide (0<x4))=true then (!aZ) else false))>>=fun y2=>if y2=true then ((aC0 kR dL.1 dL.2.1 dL.2.2.1 dL.2.2.2.1 dL.2.2.2.2.1 (dL.2.2.2.2.2.1,(dL.2.2.2.2.2.2.1,(c1_8,(dL.2.2.2.2.2.2.2,(aU.mk bC aX aZ))))))>>=fun y3=>zF c1_8 (IntKind.wrap .i64 (x4 - 1)) y3.2.2.2.2.2.2.2.2.1.s y3.2.2.2.2.2.2.2.2.1.at_ y3.2.2.2.2.2.2.2.2.1.failed y3.1 (y3.2.1,(y3.2.2.1,(y3.2.2.2.1,(y3.2.2.2.2.1,(y3.2.2.2.2.2.1,(y3.2.2.2.2.2.2.1,(y3.2.2.2.2.2.2.2.1,y3.2.2.2.2.2.2.2.2.2)))))))) else (some ((aU.mk bC aX aZ),kR,dL.1,dL.2.1,dL.2.2.1,dL.2.2.2.1,dL.2.2.2.2.1,dL.2.2.2.2.2.1,dL.2.2.2.2.2.2.1,dL.2.2.2.2.2.2.2))
  partial_fixpoint
def Z5 (p0:aU) (c1_0:Int) (c1_1:Int) (c1_2:Bool) (c1_3:Int) (c1_4:Int) (kc1_5:((List UInt8)×(Int×(Int×(List aB))))):Option (aU×Int×Int×Bool×Int×Int×(List UInt8)×Int×Int×(List aV)) :=
  (jK p0)>>=fun y1=>zF kc1_5.2.2.2 y1.1 y1.2.s y1.2.at_ y1.2.failed c1_0 (c1_1,(c1_2,(c1_3,(c1_4,(kc1_5.1,(kc1_5.2.1,(kc1_5.2.2.1,([]:List aV))))))))
  partial_fixpoint
def vM (p0:aU):Option (aB×aU) :=
  (fP p0)>>=fun y1=>(fP y1.2)>>=fun y2=>(iI y2.2)>>=fun y3=>(fP y3.2)>>=fun y4=>(fP y4.2)>>=fun y5=>(mO y5.2)>>=fun y6=>(fP y6.2)>>=fun y7=>(fP y7.2)>>=fun y8=>(jY y8.2)>>=fun y9=>(Z5 y9.2 y1.1 y2.1 y3.1 y4.1 y5.1 (y6.1,(y7.1,(y8.1,y9.1))))>>=fun y10=>some ((aB.mk y10.2.1 y10.2.2.1 y10.2.2.2.1 (bN.mk y10.2.2.2.2.1 y10.2.2.2.2.2.1 y10.2.2.2.2.2.2.1) y10.2.2.2.2.2.2.2.1 y10.2.2.2.2.2.2.2.2.1 y9.1 y10.2.2.2.2.2.2.2.2.2),y10.1)
  partial_fixpoint
def aEa (c0_0:(List aB)) (c2:aU):Option (aU×(List aB)) :=
  (vM c2)>>=fun y1=>(appG 120 c0_0 ([(aB.mk 0 0 false (bN.mk 0 0 []) 0 0 [] [])]:List aB))>>=fun y2=>(idx y2 (c0_0.length:Int))>>=fun y3=>some (y1.2,(y2.set ((c0_0.length:Int)).toNat y1.1))
  partial_fixpoint
def xI (x4:Int) (bC:(List UInt8)) (aX:Int) (aZ:Bool) (eO:(List aB)):Option (aU×(List aB)) :=
  (some (if (decide (0<x4))=true then (!aZ) else false))>>=fun y2=>if y2=true then ((aEa eO (aU.mk bC aX aZ))>>=fun y3=>xI (IntKind.wrap .i64 (x4 - 1)) y3.1.s y3.1.at_ y3.1.failed y3.2) else (some ((aU.mk bC aX aZ),eO))
  partial_fixpoint
def aCy (p0:aU) (c1_0:(List aB)):Option (aU×(List aB)) :=
  (jK p0)>>=fun y1=>xI y1.1 y1.2.s y1.2.at_ y1.2.failed c1_0
  partial_fixpoint
def jY (p0:aU):Option ((List aB)×aU) :=
  (aCy p0 ([]:List aB))>>=fun y1=>some (y1.2,y1.1)
  partial_fixpoint
def tH (p0:aU):Option (aV×aU) :=
  (X6 p0 false 0)>>=fun y1=>(zV y1.1 y1.2.2.2 y1.2.1 y1.2.2.1)>>=fun y2=>(jY y2.1)>>=fun y3=>(sF y3.2 y1.2.2.2 y2.2.2.2 y3.1 y2.2.1 y2.2.2.1)>>=fun y4=>(jY y4.1)>>=fun y5=>(nH y5.2 y1.2.2.2 y2.2.2.2 y3.1 y4.2.2.2 y5.1 y4.2.1 y4.2.2.1)>>=fun y6=>(iI y6.1)>>=fun y7=>(fP y7.2)>>=fun y8=>some ((aV.mk y1.2.2.2 y2.2.2.2 y3.1 y4.2.2.2 y5.1 y6.2.2.2 y7.1 y8.1),y8.2)
  partial_fixpoint
end
def Q3 (p0:(List UInt8)) (p1:Int):Option (aV×Int×Bool) :=
  (vR p0 p1)>>=fun y1=>if (!y1.2)=true then (some ((aV.mk ([]:List Int) ([]:List (List aB)) ([]:List aB) ([]:List bH) ([]:List aB) ([]:List (List UInt8)) false 0),0,false)) else ((tH y1.1)>>=fun y2=>if y2.2.failed=true then (some ((aV.mk ([]:List Int) ([]:List (List aB)) ([]:List aB) ([]:List bH) ([]:List aB) ([]:List (List UInt8)) false 0),0,false)) else (some (y2.1,y2.2.at_,true)))
def aB4 (c0_1:(List Int)):Option ((List UInt8)×(List Int)) :=
  (ofBytes c0_1)>>=fun y=>some (y,c0_1)
def V5 (c0_1:(List Int)):Option Unit :=
  some ()
def uF (c0_1:(List Int)) (p1:(List UInt8)):Option (Int×(List Int)) :=
  (V5 c0_1)>>=fun y1=>(appG 1 c0_1 (fC p1))>>=fun y2=>some ((p1.length:Int),y2)
def tJ (p0:Int):Option Int :=
  some (IntKind.wrap .u64 ((BitVec.ofInt (IntKind.bits .u64) (IntKind.wrap .u64 ((IntKind.wrap .u64 p0) * 2 ^ 1)) ^^^ BitVec.ofInt (IntKind.bits .u64) (IntKind.wrap .u64 (Int.fdiv p0 (2 ^ 63)))).toNat:Int))
def gD (c0_1:(List Int)) (p1:Int):Option (List Int) :=
  (tJ p1)>>=fun y1=>(vD y1)>>=fun y2=>(uF c0_1 y2)>>=fun y3=>some y3.2
def oL (c0_1:(List Int)) (p1:Bool):Option (List Int) :=
  if p1=true then ((gD c0_1 1)>>=fun y1=>some y1) else ((gD c0_1 0)>>=fun y2=>some y2)
def rG (c0_1:(List Int)) (p1:(List UInt8)):Option (List Int) :=
  (gD c0_1 (p1.length:Int))>>=fun y1=>(uF y1 p1)>>=fun y2=>some y2.2
def xX (p1:aV) (x81:Int) (kZ:(List Int)):Option (List Int) :=
  if (decide (x81<(p1.names.length:Int)))=true then ((idx p1.names x81)>>=fun y17=>(rG kZ y17)>>=fun y18=>xX p1 (IntKind.wrap .i64 (x81+1)) y18) else ((oL kZ p1.distinct)>>=fun y19=>(gD y19 p1.limit)>>=fun y20=>some y20)
  partial_fixpoint
mutual
def xQ (p1:aV) (x56:Int) (kJ:(List Int)):Option (List Int) :=
  if (decide (x56<(p1.order.length:Int)))=true then ((idx p1.order x56)>>=fun y11=>(qW kJ y11.expr)>>=fun y12=>(oL y12 y11.desc)>>=fun y13=>xQ p1 (IntKind.wrap .i64 (x56+1)) y13) else ((rX kJ p1.items)>>=fun y14=>(gD y14 (p1.names.length:Int))>>=fun y15=>xX p1 0 y15)
  partial_fixpoint
def P6 (p1:aB) (x53:Int) (aX:(List Int)):Option (List Int) :=
  if (decide (x53<(p1.sub.length:Int)))=true then ((idx p1.sub x53)>>=fun y11=>(rD aX y11)>>=fun y12=>P6 p1 (IntKind.wrap .i64 (x53+1)) y12) else (some aX)
  partial_fixpoint
def qW (c0_1:(List Int)) (p1:aB):Option (List Int) :=
  (gD c0_1 p1.kind)>>=fun y1=>(gD y1 p1.op)>>=fun y2=>(oL y2 p1.not_)>>=fun y3=>(gD y3 p1.value.kind)>>=fun y4=>(gD y4 p1.value.num)>>=fun y5=>(rG y5 p1.value.text)>>=fun y6=>(gD y6 p1.up)>>=fun y7=>(gD y7 p1.at_)>>=fun y8=>(rX y8 p1.kids)>>=fun y9=>(gD y9 (p1.sub.length:Int))>>=fun y10=>P6 p1 0 y10
  partial_fixpoint
def R4 (p1:(List aB)) (x12:Int) (aX:(List Int)):Option (List Int) :=
  if (decide (x12<(p1.length:Int)))=true then ((idx p1 x12)>>=fun y2=>(qW aX y2)>>=fun y3=>R4 p1 (IntKind.wrap .i64 (x12+1)) y3) else (some aX)
  partial_fixpoint
def rX (c0_1:(List Int)) (p1:(List aB)):Option (List Int) :=
  (gD c0_1 (p1.length:Int))>>=fun y1=>R4 p1 0 y1
  partial_fixpoint
def O4 (p1:aV) (x36:Int) (kT:(List Int)):Option (List Int) :=
  if (decide (x36<(p1.on_.length:Int)))=true then ((idx p1.on_ x36)>>=fun y6=>(rX kT y6)>>=fun y7=>O4 p1 (IntKind.wrap .i64 (x36+1)) y7) else ((rX kT p1.where_)>>=fun y8=>(gD y8 (p1.order.length:Int))>>=fun y9=>xQ p1 0 y9)
  partial_fixpoint
def K3 (p1:aV) (x20:Int) (aX:(List Int)):Option (List Int) :=
  if (decide (x20<(p1.tables.length:Int)))=true then ((idx p1.tables x20)>>=fun y2=>(gD aX y2)>>=fun y3=>K3 p1 (IntKind.wrap .i64 (x20+1)) y3) else ((gD aX (p1.on_.length:Int))>>=fun y4=>O4 p1 0 y4)
  partial_fixpoint
def rD (c0_1:(List Int)) (p1:aV):Option (List Int) :=
  (gD c0_1 (p1.tables.length:Int))>>=fun y1=>K3 p1 0 y1
  partial_fixpoint
end
def O3 (p0:aV):Option (List UInt8) :=
  (rD ([]:List Int) p0)>>=fun y1=>(aB4 y1)>>=fun y2=>some y2.1
def pI (p1:aB) (bO:Int) (bQ:Int) (jJ:Bool) (dN:Int) (nY:Int) (fO:(List UInt8)) (nU:Int) (nR:Int) (bC:(List Int)) (aX:Int) (aZ:Int) (uY:(List aV)):Option (aB×aJ) :=
  some ((aB.mk bO bQ jJ (bN.mk dN nY fO) nU nR p1.kids uY),(aJ.mk bC aX aZ))
def aB3 (p0:aJ) (x3:Int) (aX:Int):Option (Int×aJ) :=
  some (x3,(aJ.mk p0.b aX (IntKind.wrap .i64 ((IntKind.wrap .i64 (p0.h * 6364136223846793005))+1442695040888963407))))
def mE (p0:aJ):Option (Int×aJ) :=
  if (decide (p0.i<(p0.b.length:Int)))=true then ((idx p0.b p0.i)>>=fun y1=>aB3 p0 (IntKind.wrap .i64 ((BitVec.ofInt (IntKind.bits .i64) (IntKind.wrap .i64 ((IntKind.wrap .i64 ((BitVec.ofInt (IntKind.bits .i64) (IntKind.wrap .i64 ((BitVec.ofInt (IntKind.bits .i64) (Int.fdiv (IntKind.wrap .i64 ((IntKind.wrap .i64 (p0.h * 6364136223846793005))+1442695040888963407)) (2 ^ 33)) ^^^ BitVec.ofInt (IntKind.bits .i64) (Int.fdiv (IntKind.wrap .i64 ((IntKind.wrap .i64 (p0.h * 6364136223846793005))+1442695040888963407)) (2 ^ 45))).toNat:Int)) &&& BitVec.ofInt (IntKind.bits .i64) 255).toNat:Int))+(IntKind.wrap .i64 y1))) &&& BitVec.ofInt (IntKind.bits .i64) 255).toNat:Int)) (IntKind.wrap .i64 (p0.i+1))) else (aB3 p0 (IntKind.wrap .i64 ((BitVec.ofInt (IntKind.bits .i64) (IntKind.wrap .i64 ((BitVec.ofInt (IntKind.bits .i64) (Int.fdiv (IntKind.wrap .i64 ((IntKind.wrap .i64 (p0.h * 6364136223846793005))+1442695040888963407)) (2 ^ 33)) ^^^ BitVec.ofInt (IntKind.bits .i64) (Int.fdiv (IntKind.wrap .i64 ((IntKind.wrap .i64 (p0.h * 6364136223846793005))+1442695040888963407)) (2 ^ 45))).toNat:Int)) &&& BitVec.ofInt (IntKind.bits .i64) 255).toNat:Int)) p0.i)
def dY (p0:aJ) (p1:Int):Option (Int×aJ) :=
  if (decide (p1≤0))=true then (some (0,p0)) else (if (decide (p1≤256))=true then ((mE p0)>>=fun y1=>(F6 y1.1 p1)>>=fun y2=>some (y2,y1.2)) else ((mE p0)>>=fun y3=>(mE y3.2)>>=fun y4=>(mE y4.2)>>=fun y5=>(mE y5.2)>>=fun y6=>(F6 (IntKind.wrap .i64 ((IntKind.wrap .i64 ((IntKind.wrap .i64 ((IntKind.wrap .i64 (y3.1 * 16777216))+(IntKind.wrap .i64 (y4.1 * 65536))))+(IntKind.wrap .i64 (y5.1 * 256))))+y6.1)) p1)>>=fun y7=>some (y7,y6.2)))
def gH (p0:aJ) (p1:Int):Option (Bool×aJ) :=
  (dY p0 p1)>>=fun y1=>some ((decide (y1.1=0)),y1.2)
def tZ (p0:aJ) (p1:(List Int)):Option (Int×aJ) :=
  (dY p0 (p1.length:Int))>>=fun y1=>(idx p1 y1.1)>>=fun y2=>some (y2,y1.2)
def jX (p0:aJ):Option (Int×aJ) :=
  (dY p0 3)>>=fun y1=>if (decide (y1.1=0))=true then ((tZ y1.2 ([0,1,(-1),63,64,(-64),(-65),127,128,16383,16384,9223372036854775807,(-9223372036854775808),4611686018427387904]:List Int))>>=fun y2=>some (y2.1,y2.2)) else (if (decide (y1.1=1))=true then ((dY y1.2 1000000)>>=fun y3=>some ((IntKind.wrap .i64 (y3.1 - 500000)),y3.2)) else ((dY y1.2 20)>>=fun y4=>some (y4.1,y4.2)))
def mZ (p0:aJ) (p1:(List (List UInt8))):Option ((List UInt8)×aJ) :=
  (dY p0 (p1.length:Int))>>=fun y1=>(idx p1 y1.1)>>=fun y2=>some (y2,y1.2)
def pR (bO:Int) (bQ:Int) (jJ:(List UInt8)) (bC:(List Int)) (aX:Int) (aZ:Int):Option (bN×aJ) :=
  some ((bN.mk bO bQ jJ),(aJ.mk bC aX aZ))
def wH (y1:bN×aJ) (iU:(List UInt8)) (mH:(List Int)) (mQ:Int) (mM:Int):Option (bN×aJ) :=
  (gH (aJ.mk mH mQ mM) 2)>>=fun y10=>(some (if y10.1=true then (decide ((iU.length:Int)<400)) else false))>>=fun y11=>if y11=true then ((qV iU iU)>>=fun y12=>(qV y12 [48,49,50,51,52,53,54,55,56,57])>>=fun y13=>wH y1 y13 y10.2.b y10.2.i y10.2.h) else (pR y1.1.kind y1.1.num iU y10.2.b y10.2.i y10.2.h)
  partial_fixpoint
def aD2 (p0:Bool):Option bN :=
  if p0=true then (some (bN.mk 3 1 [])) else (some (bN.mk 3 0 []))
def aDk (p0:Int):Option bN :=
  some (bN.mk 1 p0 [])
def aJk (p0:(List UInt8)):Option bN :=
  some (bN.mk 2 0 p0)
def vV (p0:aJ):Option (bN×aJ) :=
  (dY p0 6)>>=fun y1=>if (decide (y1.1=0))=true then (some ((bN.mk 0 0 []),y1.2)) else (if (decide (y1.1=1))=true then ((mZ y1.2 ([[],[97],[98],[105,116,39,115],[97,98],[255]]:List (List UInt8)))>>=fun y2=>(aJk y2.1)>>=fun y3=>some (y3,y2.2)) else (if (decide (y1.1=2))=true then ((gH y1.2 2)>>=fun y4=>(aD2 y4.1)>>=fun y5=>some (y5,y4.2)) else (if (decide (y1.1=3))=true then ((jX y1.2)>>=fun y6=>(aDk y6.1)>>=fun y7=>some (y7,y6.2)) else ((dY y1.2 7)>>=fun y8=>(aDk (IntKind.wrap .i64 (y8.1 - 2)))>>=fun y9=>some (y9,y8.2)))))
def F7 (p0:aJ):Option (bN×aJ) :=
  (vV p0)>>=fun y1=>(dY y1.2 14)>>=fun y2=>if (decide (y2.1=0))=true then ((dY y2.2 6)>>=fun y3=>pR (IntKind.wrap .i64 (y3.1 - 1)) y1.1.num y1.1.text y3.2.b y3.2.i y3.2.h) else (if (decide (y2.1=1))=true then ((jX y2.2)>>=fun y4=>pR y1.1.kind y4.1 y1.1.text y4.2.b y4.2.i y4.2.h) else (if (decide (y2.1=2))=true then ((mZ y2.2 ([[120],[],[108,111,110,103]]:List (List UInt8)))>>=fun y5=>wH y1 y5.1 y5.2.b y5.2.i y5.2.h) else (pR y1.1.kind y1.1.num y1.1.text y2.2.b y2.2.i y2.2.h)))
def vX (p0:aJ) (p1:aB):Option (aB×aJ) :=
  (if (true&&((decide (0<(p1.kids.length:Int)))==true))=true then gH p0 2 else some ((default:Bool),p0))>>=fun y1=>(some (if (decide (0<(p1.kids.length:Int)))=true then y1.1 else false))>>=fun y2=>if y2=true then ((dY y1.2 (p1.kids.length:Int))>>=fun y3=>(idx p1.kids y3.1)>>=fun y4=>(vX y3.2 y4)>>=fun y5=>some ((aB.mk p1.kind p1.op p1.not_ p1.value p1.up p1.at_ (p1.kids.set (y3.1).toNat y5.1) p1.sub),y5.2)) else ((dY y1.2 7)>>=fun y6=>if (decide (y6.1=0))=true then ((jX y6.2)>>=fun y7=>pI p1 y7.1 p1.op p1.not_ p1.value.kind p1.value.num p1.value.text p1.up p1.at_ y7.2.b y7.2.i y7.2.h p1.sub) else (if (decide (y6.1=1))=true then ((jX y6.2)>>=fun y8=>pI p1 p1.kind y8.1 p1.not_ p1.value.kind p1.value.num p1.value.text p1.up p1.at_ y8.2.b y8.2.i y8.2.h p1.sub) else (if (decide (y6.1=2))=true then ((jX y6.2)>>=fun y9=>pI p1 p1.kind p1.op p1.not_ p1.value.kind p1.value.num p1.value.text y9.1 p1.at_ y9.2.b y9.2.i y9.2.h p1.sub) else (if (decide (y6.1=3))=true then ((jX y6.2)>>=fun y10=>pI p1 p1.kind p1.op p1.not_ p1.value.kind p1.value.num p1.value.text p1.up y10.1 y10.2.b y10.2.i y10.2.h p1.sub) else (if (decide (y6.1=4))=true then ((F7 y6.2)>>=fun y11=>pI p1 p1.kind p1.op p1.not_ y11.1.kind y11.1.num y11.1.text p1.up p1.at_ y11.2.b y11.2.i y11.2.h p1.sub) else (if (decide (y6.1=5))=true then (pI p1 p1.kind p1.op (!p1.not_) p1.value.kind p1.value.num p1.value.text p1.up p1.at_ y6.2.b y6.2.i y6.2.h p1.sub) else ((appG 160 p1.sub ([(aV.mk ([]:List Int) ([]:List (List aB)) ([]:List aB) ([]:List bH) ([]:List aB) ([]:List (List UInt8)) false 0)]:List aV))>>=fun y12=>pI p1 p1.kind p1.op p1.not_ p1.value.kind p1.value.num p1.value.text p1.up p1.at_ y6.2.b y6.2.i y6.2.h y12)))))))
  partial_fixpoint
def rF (y3:aV×aJ) (bC:(List Int)) (aX:Int) (aZ:Int) (uA:(List Int)) (tQ:(List (List aB))) (tY:(List aB)) (vG:(List aB)) (uI:(List (List UInt8))):Option (aV×aJ) :=
  some ((aV.mk uA tQ tY y3.1.order vG uI y3.1.distinct y3.1.limit),(aJ.mk bC aX aZ))
def aAf (y1:bN×aJ) (bQ:Int):Option (bN×aJ) :=
  some ((bN.mk y1.1.kind bQ y1.1.text),y1.2)
def yV (p0:aJ):Option (bN×aJ) :=
  (vV p0)>>=fun y1=>(some (if (decide (y1.1.kind=1))=true then (decide (y1.1.num<0)) else false))>>=fun y2=>if y2=true then (aAf y1 9223372036854775807) else (aAf y1 y1.1.num)
def X0 (y1:Bool×aJ) (jF:(List bH)) (jH:(List aB)) (eQ:(List (List UInt8))) (eU:(List aB)) (bV:(List (List aB))) (dD:(List Int)) (nQ:Int) (sG:(List Int)) (qY:Int) (sV:Int):Option (aV×aJ) :=
  some ((aV.mk dD bV jH jF eU eQ y1.1 nQ),(aJ.mk sG qY sV))
def K8 (y1:Bool×aJ) (jH:(List aB)) (eQ:(List (List UInt8))) (eU:(List aB)) (bV:(List (List aB))) (dD:(List Int)) (uH:(List Int)) (vO:Int) (uZ:Int) (jF:(List bH)):Option (aV×aJ) :=
  (gH (aJ.mk uH vO uZ) 4)>>=fun y33=>if y33.1=true then ((jX y33.2)>>=fun y34=>X0 y1 jF jH eQ eU bV dD y34.1 y34.2.b y34.2.i y34.2.h) else (X0 y1 jF jH eQ eU bV dD (-1) y33.2.b y33.2.i y33.2.h)
def xK (p0:aJ):Option ((List UInt8)×aJ) :=
  (gH p0 6)>>=fun y1=>if y1.1=true then ((mZ y1.2 ([[97,32,98],[102,114,111,109],[83,101,108,101,99,116],[49,120],[113,34,113],[0],[34],[105,116,39,115],[120,46,121],[45]]:List (List UInt8)))>>=fun y2=>some (y2.1,y2.2)) else ((mZ y1.2 ([[97],[98],[99],[116],[117],[118],[105,100],[110,97,109,101],[65],[95,120,49]]:List (List UInt8)))>>=fun y3=>some (y3.1,y3.2))
mutual
def zW (p1:Int) (y1:Bool×aJ) (eQ:(List (List UInt8))) (eU:(List aB)) (bV:(List (List aB))) (dD:(List Int)) (fM:((List Int)×(Int×(Int×(List aB))))):Option (aV×aJ) :=
  (gH (aJ.mk fM.1 fM.2.1 fM.2.2.1) 3)>>=fun y26=>if y26.1=true then ((nI y26.2 p1)>>=fun y27=>(gH y27.2 2)>>=fun y28=>(appG 128 ([]:List bH) ([(bH.mk y27.1 y28.1)]:List bH))>>=fun y29=>K8 y1 fM.2.2.2 eQ eU bV dD y28.2.b y28.2.i y28.2.h y29) else (K8 y1 fM.2.2.2 eQ eU bV dD y26.2.b y26.2.i y26.2.h ([]:List bH))
  partial_fixpoint
def xG (p1:Int) (y12:Int×aJ) (y1:Bool×aJ) (bV:(List (List aB))) (dD:(List Int)) (x9:Int) (dU:((List Int)×(Int×(Int×(((List (List UInt8))×(List aB))))))):Option (aV×aJ) :=
  if (decide (x9<(IntKind.wrap .i64 (1+y12.1))))=true then ((nI (aJ.mk dU.1 dU.2.1 dU.2.2.1) p1)>>=fun y17=>(appG 120 dU.2.2.2.2 ([y17.1]:List aB))>>=fun y18=>(xK y17.2)>>=fun y19=>(appG 16 dU.2.2.2.1 ([y19.1]:List (List UInt8)))>>=fun y20=>xG p1 y12 y1 bV dD (IntKind.wrap .i64 (x9+1)) (y19.2.b,(y19.2.i,(y19.2.h,(y20,y18))))) else ((gH (aJ.mk dU.1 dU.2.1 dU.2.2.1) 2)>>=fun y21=>if y21.1=true then ((nP y21.2 (IntKind.wrap .i64 (p1+1)) 1)>>=fun y22=>zW p1 y1 dU.2.2.2.1 dU.2.2.2.2 bV dD (y22.2.b,(y22.2.i,(y22.2.h,y22.1)))) else (zW p1 y1 dU.2.2.2.1 dU.2.2.2.2 bV dD (y21.2.b,(y21.2.i,(y21.2.h,([]:List aB))))))
  partial_fixpoint
def J8 (p1:Int) (y2:Int×aJ) (x7:Int) (y1:Bool×aJ) (y4:(List Int)) (bV:(List (List aB))) (gG:((List Int)×(Int×(Int×(List aB))))):Option (aV×aJ) :=
  (appG 24 bV ([gG.2.2.2]:List (List aB)))>>=fun y16=>wX p1 y2 y1 (IntKind.wrap .i64 (x7+1)) gG.1 gG.2.1 (gG.2.2.1,(y16,y4))
  partial_fixpoint
def zH (p1:Int) (p2:Int) (x8:Int) (bC:(List Int)) (aX:Int) (aZ:Int) (kV:(List aB)):Option ((List aB)×aJ) :=
  if (decide (x8<p2))=true then ((nI (aJ.mk bC aX aZ) (IntKind.wrap .i64 (p1 - 1)))>>=fun y1=>(appG 120 kV ([y1.1]:List aB))>>=fun y2=>zH p1 p2 (IntKind.wrap .i64 (x8+1)) y1.2.b y1.2.i y1.2.h y2) else (some (kV,(aJ.mk bC aX aZ)))
  partial_fixpoint
def nP (p0:aJ) (p1:Int) (p2:Int):Option ((List aB)×aJ) :=
  zH p1 p2 0 p0.b p0.i p0.h ([]:List aB)
  partial_fixpoint
def zT (p1:Int) (y7:Int×aJ):Option (aB×aJ) :=
  (dY y7.2 14)>>=fun y20=>(nP y20.2 p1 2)>>=fun y21=>some ((aB.mk 4 (IntKind.wrap .i64 (1+y20.1)) false (bN.mk 0 0 []) 0 0 y21.1 ([]:List aV)),y21.2)
  partial_fixpoint
def nI (p0:aJ) (p1:Int):Option (aB×aJ) :=
  (if (true&&((decide (p1≤0))==false))=true then gH p0 4 else some ((default:Bool),p0))>>=fun y1=>(some (if (decide (p1≤0))=true then true else y1.1))>>=fun y2=>if y2=true then ((gH y1.2 2)>>=fun y3=>if y3.1=true then ((dY y3.2 3)>>=fun y4=>(dY y4.2 4)>>=fun y5=>some ((aB.mk 2 0 false (bN.mk 0 0 []) y4.1 y5.1 ([]:List aB) ([]:List aV)),y5.2)) else ((yV y3.2)>>=fun y6=>some ((aB.mk 1 0 false y6.1 0 0 ([]:List aB) ([]:List aV)),y6.2))) else ((dY y1.2 8)>>=fun y7=>if (decide (y7.1=0))=true then ((dY y7.2 2)>>=fun y8=>(nP y8.2 p1 1)>>=fun y9=>some ((aB.mk 3 (IntKind.wrap .i64 (15+y8.1)) false (bN.mk 0 0 []) 0 0 y9.1 ([]:List aV)),y9.2)) else (if (decide (y7.1=1))=true then ((gH y7.2 2)>>=fun y10=>(nP y10.2 p1 1)>>=fun y11=>some ((aB.mk 5 0 y10.1 (bN.mk 0 0 []) 0 0 y11.1 ([]:List aV)),y11.2)) else (if (decide (y7.1=2))=true then ((gH y7.2 2)>>=fun y12=>(nP y12.2 p1 3)>>=fun y13=>some ((aB.mk 6 0 y12.1 (bN.mk 0 0 []) 0 0 y13.1 ([]:List aV)),y13.2)) else (if (decide (y7.1=3))=true then ((gH y7.2 2)>>=fun y14=>(nP y14.2 p1 3)>>=fun y15=>some ((aB.mk 7 0 y14.1 (bN.mk 0 0 []) 0 0 y15.1 ([]:List aV)),y15.2)) else (if (decide (y7.1=4))=true then (if (decide (1<p1))=true then ((gH y7.2 2)>>=fun y16=>(nP y16.2 p1 1)>>=fun y17=>(uO y17.2 (IntKind.wrap .i64 (p1 - 2)))>>=fun y18=>some ((aB.mk 8 0 y16.1 (bN.mk 0 0 []) 0 0 y17.1 ([y18.1]:List aV)),y18.2)) else (zT p1 y7)) else (if (decide (y7.1=5))=true then (if (decide (1<p1))=true then ((uO y7.2 (IntKind.wrap .i64 (p1 - 2)))>>=fun y19=>some ((aB.mk 9 0 false (bN.mk 0 0 []) 0 0 ([]:List aB) ([y19.1]:List aV)),y19.2)) else (zT p1 y7)) else (zT p1 y7)))))))
  partial_fixpoint
def wX (p1:Int) (y2:Int×aJ) (y1:Bool×aJ) (x7:Int) (bC:(List Int)) (aX:Int) (cK:(Int×(((List (List aB))×(List Int))))):Option (aV×aJ) :=
  if (decide (x7<(IntKind.wrap .i64 (1+y2.1))))=true then ((dY (aJ.mk bC aX cK.1) 3)>>=fun y3=>(appG 8 cK.2.2 ([y3.1]:List Int))>>=fun y4=>(if (true&&((decide (0<x7))==true))=true then gH y3.2 2 else some ((default:Bool),y3.2))>>=fun y5=>(some (if (decide (0<x7))=true then y5.1 else false))>>=fun y6=>if y6=true then ((nI y5.2 p1)>>=fun y7=>(appG 120 ([]:List aB) ([y7.1]:List aB))>>=fun y8=>J8 p1 y2 x7 y1 y4 cK.2.1 (y7.2.b,(y7.2.i,(y7.2.h,y8)))) else (J8 p1 y2 x7 y1 y4 cK.2.1 (y5.2.b,(y5.2.i,(y5.2.h,([]:List aB)))))) else ((dY (aJ.mk bC aX cK.1) 2)>>=fun y12=>xG p1 y12 y1 cK.2.1 cK.2.2 0 (y12.2.b,(y12.2.i,(y12.2.h,(([]:List (List UInt8)),([]:List aB))))))
  partial_fixpoint
def uO (p0:aJ) (p1:Int):Option (aV×aJ) :=
  (gH p0 3)>>=fun y1=>(dY y1.2 2)>>=fun y2=>wX p1 y2 y1 0 y2.2.b y2.2.i (y2.2.h,(([]:List (List aB)),([]:List Int)))
  partial_fixpoint
end
def X5 (p0:(List Int)) (p1:Int):Option Int :=
  if (decide (p1<(IntKind.wrap .i64 (2+(IntKind.wrap .i64 (Int.tdiv (p0.length:Int) 20))))))=true then (some p1) else (some (IntKind.wrap .i64 (2+(IntKind.wrap .i64 (Int.tdiv (p0.length:Int) 20)))))
def pV (p1:Int) (x5:(List Int)) (x6:Int) (bC:(List Int)) (aX:Int) (aZ:Int):Option ((List Int)×aJ) :=
  if (decide (x6<p1))=true then ((mE (aJ.mk bC aX aZ))>>=fun y1=>(appG 1 x5 ([(IntKind.wrap .u8 y1.1)]:List Int))>>=fun y2=>pV p1 y2 (IntKind.wrap .i64 (x6+1)) y1.2.b y1.2.i y1.2.h) else (some (x5,(aJ.mk bC aX aZ)))
  partial_fixpoint
def uU (p0:aJ) (p1:Int):Option ((List Int)×aJ) :=
  pV p1 ([]:List Int) 0 p0.b p0.i p0.h
def aD0:Option (List (List UInt8)) :=
  some ([[],[83,69,76,69,67,84],[68,73,83,84,73,78,67,84],[70,82,79,77],[74,79,73,78],[79,78],[87,72,69,82,69],[79,82,68,69,82],[66,89],[65,83,67],[68,69,83,67],[76,73,77,73,84],[65,83],[65,78,68],[79,82],[78,79,84],[73,83],[73,78],[66,69,84,87,69,69,78],[69,88,73,83,84,83],[78,85,76,76],[84,82,85,69],[70,65,76,83,69],[73,78,83,69,82,84],[73,78,84,79],[86,65,76,85,69,83],[85,80,68,65,84,69],[83,69,84],[68,69,76,69,84,69]]:List (List UInt8))
def Q5 (p0:aJ):Option ((List UInt8)×aJ) :=
  (dY p0 6)>>=fun y1=>if (decide (y1.1=0))=true then ((mZ y1.2 ([[],[97,98,99,100,101,102,103,104,105,106,107,108,109,110,111,112,113,114,115,116],[97,98,99,100,101,102,103,104,105,106,107,108,109,110,111,112,113,114,115,116,117],[108,105,109,105,116],[76,73,77,73,84,83],[65,83,99],[57],[97,57],[195,169]]:List (List UInt8)))>>=fun y2=>some (y2.1,y2.2)) else (if (decide (y1.1=1))=true then ((aD0)>>=fun y3=>(dY y1.2 29)>>=fun y4=>(idx y3 y4.1)>>=fun y5=>some (y5,y4.2)) else (if (decide (y1.1=2))=true then ((dY y1.2 5)>>=fun y6=>(uU y6.2 y6.1)>>=fun y7=>(ofBytes y7.1)>>=fun y8=>some (y8,y7.2)) else ((xK y1.2)>>=fun y9=>some (y9.1,y9.2))))
def U4 (p0:aJ) (p1:(List Int)):Option (aV×aJ) :=
  (X5 p1 4)>>=fun y1=>(dY p0 y1)>>=fun y2=>(uO y2.2 y2.1)>>=fun y3=>(dY y3.2 14)>>=fun y4=>if (decide (y4.1=0))=true then ((jX y4.2)>>=fun y5=>(appG 8 y3.1.tables ([y5.1]:List Int))>>=fun y6=>rF y3 y5.2.b y5.2.i y5.2.h y6 y3.1.on_ y3.1.where_ y3.1.items y3.1.names) else (if (decide (y4.1=1))=true then ((Q5 y4.2)>>=fun y7=>(appG 16 y3.1.names ([y7.1]:List (List UInt8)))>>=fun y8=>rF y3 y7.2.b y7.2.i y7.2.h y3.1.tables y3.1.on_ y3.1.where_ y3.1.items y8) else (if (decide (y4.1=2))=true then ((appG 24 y3.1.on_ ([([(aB.mk 0 0 false (bN.mk 0 0 []) 0 0 ([]:List aB) ([]:List aV))]:List aB)]:List (List aB)))>>=fun y9=>rF y3 y4.2.b y4.2.i y4.2.h y3.1.tables y9 y3.1.where_ y3.1.items y3.1.names) else (if (decide (y4.1=3))=true then ((idx y3.1.items 0)>>=fun y10=>(vX y4.2 y10)>>=fun y11=>rF y3 y11.2.b y11.2.i y11.2.h y3.1.tables y3.1.on_ y3.1.where_ (y3.1.items.set (0:Int).toNat y11.1) y3.1.names) else (if (decide (y4.1=4))=true then ((jX y4.2)>>=fun y12=>(appG 120 y3.1.where_ ([(aB.mk y12.1 0 false (bN.mk 0 0 []) 0 0 ([]:List aB) ([]:List aV))]:List aB))>>=fun y13=>rF y3 y12.2.b y12.2.i y12.2.h y3.1.tables y3.1.on_ y13 y3.1.items y3.1.names) else (rF y3 y4.2.b y4.2.i y4.2.h y3.1.tables y3.1.on_ y3.1.where_ y3.1.items y3.1.names)))))
def vQ (p0:(List Int)) (x3:Int) (x4:Int):Option aJ :=
  (some (if (decide (x4<(p0.length:Int)))=true then (decide (x4<4000)) else false))>>=fun y1=>if y1=true then ((idx p0 x4)>>=fun y2=>vQ p0 (IntKind.wrap .i64 ((BitVec.ofInt (IntKind.bits .i64) (IntKind.wrap .i64 ((IntKind.wrap .i64 ((IntKind.wrap .i64 (x3 * 131))+(IntKind.wrap .i64 y2)))+7)) &&& BitVec.ofInt (IntKind.bits .i64) 1073741823).toNat:Int)) (IntKind.wrap .i64 (x4+1))) else (some (aJ.mk p0 0 x3))
  partial_fixpoint
def E5 (p0:(List Int)):Option aJ :=
  vQ p0 (IntKind.wrap .i64 (28322+(p0.length:Int))) 0
def aC3 (y5:Int×aJ) (x5:(List Int)):Option ((List UInt8)×aJ) :=
  (ofBytes x5)>>=fun y6=>some (y6,y5.2)
def M3 (p0:aJ) (p1:(List UInt8)):Option ((List UInt8)×aJ) :=
  if (decide (p1=[]))=true then ((uU p0 2)>>=fun y1=>(ofBytes y1.1)>>=fun y2=>some (y2,y1.2)) else ((dY p0 ((fC p1).length:Int))>>=fun y3=>(idx (fC p1) y3.1)>>=fun y4=>(dY y3.2 255)>>=fun y5=>aC3 y5 ((fC p1).set (y3.1).toNat (IntKind.wrap .u8 ((BitVec.ofInt (IntKind.bits .u8) y4 ^^^ BitVec.ofInt (IntKind.bits .u8) (IntKind.wrap .u8 (IntKind.wrap .i64 (1+y5.1)))).toNat:Int))))
def uK (y3:(List UInt8)) (x1:(List UInt8)) (x7:Int) (bC:(List Int)) (aX:Int) (aZ:Int):Option ((List UInt8)×Int×aJ) :=
  (qV y3 x1)>>=fun y10=>some (y10,x7,(aJ.mk bC aX aZ))
def D5 (p0:aJ) (p1:(List UInt8)):Option ((List UInt8)×Int×aJ) :=
  (dY p0 3)>>=fun y1=>(uU y1.2 y1.1)>>=fun y2=>(ofBytes y2.1)>>=fun y3=>(dY y2.2 6)>>=fun y4=>if (decide (y4.1=0))=true then ((M3 y4.2 p1)>>=fun y5=>uK y3 y5.1 (y3.length:Int) y5.2.b y5.2.i y5.2.h) else (if (decide (y4.1=1))=true then ((dY y4.2 (IntKind.wrap .i64 ((p1.length:Int)+1)))>>=fun y6=>(mU p1 0 y6.1)>>=fun y7=>uK y3 y7 (y3.length:Int) y6.2.b y6.2.i y6.2.h) else (if (decide (y4.1=2))=true then ((qV p1 [0,2])>>=fun y8=>uK y3 y8 (y3.length:Int) y4.2.b y4.2.i y4.2.h) else (if (decide (y4.1=3))=true then ((tZ y4.2 ([0,(-1),(IntKind.wrap .i64 ((y3.length:Int)+1)),9223372036854775807]:List Int))>>=fun y9=>uK y3 p1 y9.1 y9.2.b y9.2.i y9.2.h) else (uK y3 p1 (y3.length:Int) y4.2.b y4.2.i y4.2.h))))
def wO (x0:Int) (x3:(List Int)):Option (List UInt8) :=
  if (decide (127<x0))=true then ((appG 1 x3 ([(IntKind.wrap .u8 (IntKind.wrap .u64 ((Int.tmod x0 128)+128)))]:List Int))>>=fun y1=>wO (IntKind.wrap .u64 (Int.tdiv x0 128)) y1) else ((appG 1 x3 ([(IntKind.wrap .u8 x0)]:List Int))>>=fun y2=>(ofBytes y2)>>=fun y3=>some y3)
  partial_fixpoint
def xJ (p0:Int):Option (List UInt8) :=
  wO p0 ([]:List Int)
def F9 (p0:Int):Option Int :=
  if (decide (p0<0))=true then (some (IntKind.wrap .u64 ((IntKind.wrap .u64 (2 * (IntKind.wrap .u64 (IntKind.wrap .i64 (0 - (IntKind.wrap .i64 (p0+1)))))))+1))) else (some (IntKind.wrap .u64 (2 * (IntKind.wrap .u64 p0))))
def fZ (p0:(List Int)) (p1:Int):Option (List Int) :=
  (F9 p1)>>=fun y1=>(xJ y1)>>=fun y2=>(appG 1 p0 (fC y2))>>=fun y3=>some y3
def oI (p0:(List Int)) (p1:Bool):Option (List Int) :=
  if p1=true then ((fZ p0 1)>>=fun y1=>some y1) else ((fZ p0 0)>>=fun y2=>some y2)
def tC (p0:(List Int)) (p1:(List UInt8)):Option (List Int) :=
  (fZ p0 (p1.length:Int))>>=fun y1=>(appG 1 y1 (fC p1))>>=fun y2=>some y2
def yJ (p1:aV) (iL:(List Int)) (x8:Int):Option (List Int) :=
  if (decide (x8<(p1.names.length:Int)))=true then ((idx p1.names x8)>>=fun y18=>(tC iL y18)>>=fun y19=>yJ p1 y19 (IntKind.wrap .i64 (x8+1))) else ((oI iL p1.distinct)>>=fun y20=>(fZ y20 p1.limit)>>=fun y21=>some y21)
  partial_fixpoint
mutual
def yU (p1:aV) (gJ:(List Int)) (x7:Int):Option (List Int) :=
  if (decide (x7<(p1.order.length:Int)))=true then ((idx p1.order x7)>>=fun y11=>(oH gJ y11.expr)>>=fun y12=>(idx p1.order x7)>>=fun y13=>(oI y12 y13.desc)>>=fun y14=>yU p1 y14 (IntKind.wrap .i64 (x7+1))) else ((sQ gJ p1.items)>>=fun y15=>(fZ y15 (p1.names.length:Int))>>=fun y16=>yJ p1 y16 0)
  partial_fixpoint
def H7 (p1:aB) (x0:(List Int)) (x5:Int):Option (List Int) :=
  if (decide (x5<(p1.sub.length:Int)))=true then ((idx p1.sub x5)>>=fun y11=>(oO x0 y11)>>=fun y12=>H7 p1 y12 (IntKind.wrap .i64 (x5+1))) else (some x0)
  partial_fixpoint
def oH (p0:(List Int)) (p1:aB):Option (List Int) :=
  (fZ p0 p1.kind)>>=fun y1=>(fZ y1 p1.op)>>=fun y2=>(oI y2 p1.not_)>>=fun y3=>(fZ y3 p1.value.kind)>>=fun y4=>(fZ y4 p1.value.num)>>=fun y5=>(tC y5 p1.value.text)>>=fun y6=>(fZ y6 p1.up)>>=fun y7=>(fZ y7 p1.at_)>>=fun y8=>(sQ y8 p1.kids)>>=fun y9=>(fZ y9 (p1.sub.length:Int))>>=fun y10=>H7 p1 y10 0
  partial_fixpoint
def M8 (p1:(List aB)) (x0:(List Int)) (x5:Int):Option (List Int) :=
  if (decide (x5<(p1.length:Int)))=true then ((idx p1 x5)>>=fun y2=>(oH x0 y2)>>=fun y3=>M8 p1 y3 (IntKind.wrap .i64 (x5+1))) else (some x0)
  partial_fixpoint
def sQ (p0:(List Int)) (p1:(List aB)):Option (List Int) :=
  (fZ p0 (p1.length:Int))>>=fun y1=>M8 p1 y1 0
  partial_fixpoint
def U6 (p1:aV) (iJ:(List Int)) (x6:Int):Option (List Int) :=
  if (decide (x6<(p1.on_.length:Int)))=true then ((idx p1.on_ x6)>>=fun y6=>(sQ iJ y6)>>=fun y7=>U6 p1 y7 (IntKind.wrap .i64 (x6+1))) else ((sQ iJ p1.where_)>>=fun y8=>(fZ y8 (p1.order.length:Int))>>=fun y9=>yU p1 y9 0)
  partial_fixpoint
def R8 (p1:aV) (x0:(List Int)) (x5:Int):Option (List Int) :=
  if (decide (x5<(p1.tables.length:Int)))=true then ((idx p1.tables x5)>>=fun y2=>(fZ x0 y2)>>=fun y3=>R8 p1 y3 (IntKind.wrap .i64 (x5+1))) else ((fZ x0 (p1.on_.length:Int))>>=fun y4=>U6 p1 y4 0)
  partial_fixpoint
def oO (p0:(List Int)) (p1:aV):Option (List Int) :=
  (fZ p0 (p1.tables.length:Int))>>=fun y1=>R8 p1 y1 0
  partial_fixpoint
end
def J9 (p0:aV):Option (List UInt8) :=
  (oO ([]:List Int) p0)>>=fun y1=>(ofBytes y1)>>=fun y2=>some y2
def aAx (p0:(List Int)):Option ((List UInt8)×Int) :=
  (E5 p0)>>=fun y1=>(U4 y1 p0)>>=fun y2=>(J9 y2.1)>>=fun y3=>(D5 y2.2 y3)>>=fun y4=>some (y4.1,y4.2.1)
def qA (p0:(List UInt8)) (p1:Int) (x7:Int) (x8:Int):Option (Int×Int×Bool) :=
  (some (if (decide (x8<10))=true then (decide ((IntKind.wrap .i64 (p1+x8))<(p0.length:Int))) else false))>>=fun y2=>if y2=true then ((xN p0 (IntKind.wrap .i64 (p1+x8)))>>=fun y3=>(R6 .u64 (Int.tmod (IntKind.wrap .u64 y3) 128) (IntKind.wrap .u64 (IntKind.wrap .i64 (7 * x8))))>>=fun y4=>if (decide ((IntKind.wrap .u64 y3)<128))=true then ((xJ (IntKind.wrap .u64 (x7+y4)))>>=fun y5=>(mU p0 p1 (IntKind.wrap .i64 ((IntKind.wrap .i64 (p1+x8))+1)))>>=fun y6=>if (!decide (y5=y6))=true then (some (0,0,false)) else (some ((IntKind.wrap .u64 (x7+y4)),(IntKind.wrap .i64 ((IntKind.wrap .i64 (p1+x8))+1)),true))) else (qA p0 p1 (IntKind.wrap .u64 (x7+y4)) (IntKind.wrap .i64 (x8+1)))) else (some (0,0,false))
  partial_fixpoint
def oU (p0:Int) (p1:Int) (p2:Int):Option Bool :=
  (some (if (decide (p1≤p0))=true then (decide (p0≤p2)) else false))>>=fun y1=>some y1
def zG (p0:(List UInt8)) (p1:Int):Option (Int×Int×Bool) :=
  (oU p1 0 (p0.length:Int))>>=fun y1=>if (!y1)=true then (some (0,0,false)) else (qA p0 p1 0 0)
def Q9 (p0:Int):Option Int :=
  if (decide ((Int.tmod p0 2)=1))=true then (some (IntKind.wrap .i64 ((IntKind.wrap .i64 (0 - (IntKind.wrap .i64 (IntKind.wrap .u64 (Int.tdiv p0 2))))) - 1))) else (some (IntKind.wrap .i64 (IntKind.wrap .u64 (Int.tdiv p0 2))))
def iC (p0:aY):Option (Int×aY) :=
  if p0.bad=true then (some (0,p0)) else ((zG p0.s p0.at_)>>=fun y1=>if (!y1.2.2)=true then (some (0,(aY.mk p0.s p0.at_ true))) else ((Q9 y1.1)>>=fun y2=>some (y2,(aY.mk p0.s y1.2.1 p0.bad))))
def rZ (y1:Int×aY) (aZ:Bool):Option (Bool×aY) :=
  some ((decide (y1.1=1)),(aY.mk y1.2.s y1.2.at_ aZ))
def jO (p0:aY):Option (Bool×aY) :=
  (iC p0)>>=fun y1=>(oU y1.1 0 1)>>=fun y2=>if (!y2)=true then (rZ y1 true) else (rZ y1 y1.2.bad)
def iA (p0:aY):Option (Int×aY) :=
  (iC p0)>>=fun y1=>(oU y1.1 0 (IntKind.wrap .i64 ((y1.2.s.length:Int) - y1.2.at_)))>>=fun y2=>if (!y2)=true then (some (0,(aY.mk y1.2.s y1.2.at_ true))) else (some (y1.1,y1.2))
def mI (p0:aY):Option ((List UInt8)×aY) :=
  (iA p0)>>=fun y1=>if y1.2.bad=true then (some ([],y1.2)) else ((mU y1.2.s (IntKind.wrap .i64 ((IntKind.wrap .i64 (y1.2.at_+y1.1)) - y1.1)) (IntKind.wrap .i64 (y1.2.at_+y1.1)))>>=fun y2=>some (y2,(aY.mk y1.2.s (IntKind.wrap .i64 (y1.2.at_+y1.1)) y1.2.bad)))
def pY (y22:Int×aY) (bO:(List Int)) (bQ:(List (List aB))) (y12:(List aB)×aY) (dN:(List bH)) (y21:(List aB)×aY) (x9:Int) (fO:(List (List UInt8))) (kP:(List UInt8)) (kX:Int) (jA:Bool):Option (aV×aY) :=
  (some (if (decide (x9<y22.1))=true then (!jA) else false))>>=fun y26=>if y26=true then ((mI (aY.mk kP kX jA))>>=fun y27=>(appG 16 fO ([y27.1]:List (List UInt8)))>>=fun y28=>pY y22 bO bQ y12 dN y21 (IntKind.wrap .i64 (x9+1)) y28 y27.2.s y27.2.at_ y27.2.bad) else ((jO (aY.mk kP kX jA))>>=fun y29=>(iC y29.2)>>=fun y30=>some ((aV.mk bO bQ y12.1 dN y21.1 fO y29.1 y30.1),y30.2))
  partial_fixpoint
mutual
def qB (y13:Int×aY) (bO:(List Int)) (bQ:(List (List aB))) (y12:(List aB)×aY) (x7:Int) (dN:(List bH)) (fD:((List UInt8)×(Int×Bool))):Option (aV×aY) :=
  (some (if (decide (x7<y13.1))=true then (!fD.2.2) else false))>>=fun y17=>if y17=true then ((uD (aY.mk fD.1 fD.2.1 fD.2.2))>>=fun y18=>(jO y18.2)>>=fun y19=>(appG 128 dN ([(bH.mk y18.1 y19.1)]:List bH))>>=fun y20=>qB y13 bO bQ y12 (IntKind.wrap .i64 (x7+1)) y20 (y19.2.s,(y19.2.at_,y19.2.bad))) else ((nT (aY.mk fD.1 fD.2.1 fD.2.2))>>=fun y21=>(iA y21.2)>>=fun y22=>pY y22 bO bQ y12 dN y21 0 ([]:List (List UInt8)) y22.2.s y22.2.at_ y22.2.bad)
  partial_fixpoint
def vZ (y10:Int×aY) (y1:Int×aY) (y2:Int×aY) (y3:Bool×aY) (y4:Int×aY) (y5:Int×aY) (ky6:(((List UInt8)×aY)×((Int×aY)×((Int×aY)×((((List aB)×aY)×(Int×((List aV)×((List UInt8)×(Int×Bool)))))))))):Option (aB×aY) :=
  (some (if (decide (ky6.2.2.2.2.1<y10.1))=true then (!ky6.2.2.2.2.2.2.2.2) else false))>>=fun y11=>if y11=true then ((pX (aY.mk ky6.2.2.2.2.2.2.1 ky6.2.2.2.2.2.2.2.1 ky6.2.2.2.2.2.2.2.2))>>=fun y12=>(appG 160 ky6.2.2.2.2.2.1 ([y12.1]:List aV))>>=fun y13=>vZ y10 y1 y2 y3 y4 y5 (ky6.1,(ky6.2.1,(ky6.2.2.1,(ky6.2.2.2.1,((IntKind.wrap .i64 (ky6.2.2.2.2.1+1)),(y13,(y12.2.s,(y12.2.at_,y12.2.bad))))))))) else (some ((aB.mk y1.1 y2.1 y3.1 (bN.mk y4.1 y5.1 ky6.1.1) ky6.2.1.1 ky6.2.2.1.1 ky6.2.2.2.1.1 ky6.2.2.2.2.2.1),(aY.mk ky6.2.2.2.2.2.2.1 ky6.2.2.2.2.2.2.2.1 ky6.2.2.2.2.2.2.2.2)))
  partial_fixpoint
def uD (p0:aY):Option (aB×aY) :=
  (iC p0)>>=fun y1=>(iC y1.2)>>=fun y2=>(jO y2.2)>>=fun y3=>(iC y3.2)>>=fun y4=>(iC y4.2)>>=fun y5=>(mI y5.2)>>=fun y6=>(iC y6.2)>>=fun y7=>(iC y7.2)>>=fun y8=>(nT y8.2)>>=fun y9=>(iA y9.2)>>=fun y10=>vZ y10 y1 y2 y3 y4 y5 (y6,(y7,(y8,(y9,(0,(([]:List aV),(y10.2.s,(y10.2.at_,y10.2.bad))))))))
  partial_fixpoint
def xC (y1:Int×aY) (x3:(List aB)) (x5:Int) (bC:(List UInt8)) (aX:Int) (aZ:Bool):Option ((List aB)×aY) :=
  (some (if (decide (x5<y1.1))=true then (!aZ) else false))>>=fun y2=>if y2=true then ((uD (aY.mk bC aX aZ))>>=fun y3=>(appG 120 x3 ([y3.1]:List aB))>>=fun y4=>xC y1 y4 (IntKind.wrap .i64 (x5+1)) y3.2.s y3.2.at_ y3.2.bad) else (some (x3,(aY.mk bC aX aZ)))
  partial_fixpoint
def nT (p0:aY):Option ((List aB)×aY) :=
  (iA p0)>>=fun y1=>xC y1 ([]:List aB) 0 y1.2.s y1.2.at_ y1.2.bad
  partial_fixpoint
def rV (y5:Int×aY) (bO:(List Int)) (x6:Int) (bQ:(List (List aB))) (lF:(List UInt8)) (kN:Int) (iX:Bool):Option (aV×aY) :=
  (some (if (decide (x6<y5.1))=true then (!iX) else false))>>=fun y9=>if y9=true then ((nT (aY.mk lF kN iX))>>=fun y10=>(appG 24 bQ ([y10.1]:List (List aB)))>>=fun y11=>rV y5 bO (IntKind.wrap .i64 (x6+1)) y11 y10.2.s y10.2.at_ y10.2.bad) else ((nT (aY.mk lF kN iX))>>=fun y12=>(iA y12.2)>>=fun y13=>qB y13 bO bQ y12 0 ([]:List bH) (y13.2.s,(y13.2.at_,y13.2.bad)))
  partial_fixpoint
def vT (y1:Int×aY) (x5:Int) (bO:(List Int)) (bC:(List UInt8)) (aX:Int) (aZ:Bool):Option (aV×aY) :=
  (some (if (decide (x5<y1.1))=true then (!aZ) else false))>>=fun y2=>if y2=true then ((iC (aY.mk bC aX aZ))>>=fun y3=>(appG 8 bO ([y3.1]:List Int))>>=fun y4=>vT y1 (IntKind.wrap .i64 (x5+1)) y4 y3.2.s y3.2.at_ y3.2.bad) else ((iA (aY.mk bC aX aZ))>>=fun y5=>rV y5 bO 0 ([]:List (List aB)) y5.2.s y5.2.at_ y5.2.bad)
  partial_fixpoint
def pX (p0:aY):Option (aV×aY) :=
  (iA p0)>>=fun y1=>vT y1 0 ([]:List Int) y1.2.s y1.2.at_ y1.2.bad
  partial_fixpoint
end
def wN (p0:(List UInt8)) (p1:Int):Option aY :=
  (if (true&&((decide (20000<(p0.length:Int)))==false))=true then oU p1 0 (p0.length:Int) else some default)>>=fun y1=>(some (if (decide (20000<(p0.length:Int)))=true then true else (!y1)))>>=fun y2=>some (aY.mk p0 p1 y2)
def J2 (p0:(List UInt8)) (p1:Int):Option (aV×Int×Bool) :=
  (wN p0 p1)>>=fun y1=>(pX y1)>>=fun y2=>if y2.2.bad=true then (some ((aV.mk ([]:List Int) ([]:List (List aB)) ([]:List aB) ([]:List bH) ([]:List aB) ([]:List (List UInt8)) false 0),0,false)) else (some (y2.1,y2.2.at_,true))
def aCk (p0:(List Int)):Option Bool :=
  some (decide (1048576<(p0.length:Int)))
def X3 (p0:(List Int)):Option Bool :=
  (aCk p0)>>=fun y1=>if y1=true then (some true) else ((aAx p0)>>=fun y2=>(Q3 y2.1 y2.2)>>=fun y3=>(J2 y2.1 y2.2)>>=fun y4=>if (!(y3.2.2==y4.2.2))=true then (some false) else (if (!y3.2.2)=true then (some (decide (y3.2.1=0))) else ((some (if (decide (y2.2<y3.2.1))=true then (decide (y3.2.1≤(y2.1.length:Int))) else false))>>=fun y5=>(if (true&&(y5==true))=true then O3 y3.1 else some default)>>=fun y6=>(if (true&&(y5==true))=true then mU y2.1 y2.2 y3.2.1 else some default)>>=fun y7=>(some (if y5=true then (decide (y6=y7)) else false))>>=fun y8=>some y8)))
end Go.Ab
