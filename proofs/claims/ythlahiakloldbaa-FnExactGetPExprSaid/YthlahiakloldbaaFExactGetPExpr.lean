/- The functions of the program,as Lean functions (printed by a program). -/
import Derived.Test.YthlahiakloldbaaAbF0
namespace Go.Ab
open Go
structure dR where
  kind:Int
  num:Int
  text:(List UInt8)
instance:Inhabited dR:=⟨(dR.mk 0 0 [])⟩
mutual
structure aB where
  kind:Int
  op:Int
  not_:Bool
  value:dR
  up:Int
  at_:Int
  kids:(List aB)
  sub:(List aX)
structure bC where
  expr:aB
  desc:Bool
structure aX where
  tables:(List Int)
  on_:(List (List aB))
  where_:(List aB)
  order:(List bC)
  items:(List aB)
  names:(List (List UInt8))
  distinct:Bool
  limit:Int
end
instance:Inhabited aB:=⟨(aB.mk 0 0 false (dR.mk 0 0 []) 0 0 [] [])⟩
instance:Inhabited bC:=⟨(bC.mk (aB.mk 0 0 false (dR.mk 0 0 []) 0 0 [] []) false)⟩
instance:Inhabited aX:=⟨(aX.mk [] [] [] [] [] [] false 0)⟩
structure aL where
  s:(List UInt8)
  at_:Int
  bad:Bool
instance:Inhabited aL:=⟨(aL.mk [] 0 false)⟩
structure aJ where
  s:(List UInt8)
  at_:Int
  failed:Bool
instance:Inhabited aJ:=⟨(aJ.mk [] 0 false)⟩
def okGValue (x:dR):Prop:=okI x.kind∧okI x.num∧okS x.text
mutual
def okGPExpr:aB→Prop
  | ⟨a0,a1,a2,a3,a4,a5,a6,a7⟩=>okI a0∧okI a1∧okB a2∧okGValue a3∧okI a4∧okI a5∧(a6.length≤9223372036854775807∧okLGPExpr a6)∧(a7.length≤9223372036854775807∧okLGPlan a7)
def okGPSort:bC→Prop
  | ⟨a0,a1⟩=>okGPExpr a0∧okB a1
def okGPlan:aX→Prop
  | ⟨a0,a1,a2,a3,a4,a5,a6,a7⟩=>(okL okI) a0∧(a1.length≤9223372036854775807∧okLLGPExpr a1)∧(a2.length≤9223372036854775807∧okLGPExpr a2)∧(a3.length≤9223372036854775807∧okLGPSort a3)∧(a4.length≤9223372036854775807∧okLGPExpr a4)∧(okL okS) a5∧okB a6∧okI a7
def okLGPExpr:List aB→Prop
  | []=>True
  | x::l=>okGPExpr x∧okLGPExpr l
def okLGPSort:List bC→Prop
  | []=>True
  | x::l=>okGPSort x∧okLGPSort l
def okLGPlan:List aX→Prop
  | []=>True
  | x::l=>okGPlan x∧okLGPlan l
def okLLGPExpr:List (List aB)→Prop
  | []=>True
  | x::l=>(x.length≤9223372036854775807∧okLGPExpr x)∧okLLGPExpr l
end
def okGL24In (x:aL):Prop:=okS x.s∧okI x.at_∧okB x.bad
def okGReader (x:aJ):Prop:=okS x.s∧okI x.at_∧okB x.failed
def qC (p0:(List UInt8)) (p1:Int):Option (aJ×Bool) :=
  (some (if (decide ((p0.length:Int)≤20000))=true then (decide (0≤p1)) else false))>>=fun y1=>(some (if y1=true then (decide (p1≤(p0.length:Int))) else false))>>=fun y2=>some ((aJ.mk p0 p1 false),y2)
def qV (y1:Int×aJ) (aZ:Bool):Option (Int×aJ) :=
  if aZ=true then (some (0,(aJ.mk y1.2.s y1.2.at_ aZ))) else (some (y1.1,(aJ.mk y1.2.s y1.2.at_ aZ)))
def qD (x0:Int) (x3:(List Int)):Option (List UInt8) :=
  if (decide (128≤x0))=true then ((appG 1 x3 ([(IntKind.wrap .u8 ((BitVec.ofInt (IntKind.bits .u8) (IntKind.wrap .u8 x0) ||| BitVec.ofInt (IntKind.bits .u8) 128).toNat:Int))]:List Int))>>=fun y1=>qD (Int.fdiv x0 (2 ^ 7)) y1) else ((appG 1 x3 ([(IntKind.wrap .u8 x0)]:List Int))>>=fun y2=>(ofBytes y2)>>=fun y3=>some y3)
  partial_fixpoint
def wV (p0:Int):Option (List UInt8) :=
  qD p0 ([]:List Int)
def mV (p0:(List UInt8)) (p1:Int) (x7:Int) (x8:Int):Option (Int×Int×Bool) :=
  (some (if (decide (x8<(p0.length:Int)))=true then (decide (x8<(IntKind.wrap .i64 (p1+10)))) else false))>>=fun y1=>if y1=true then ((tN p0 x8)>>=fun y2=>(xE .u64 (IntKind.wrap .u64 (IntKind.wrap .u8 ((BitVec.ofInt (IntKind.bits .u8) y2 &&& BitVec.ofInt (IntKind.bits .u8) 127).toNat:Int))) (IntKind.wrap .i64 (7 * (IntKind.wrap .i64 (x8 - p1)))))>>=fun y3=>(tN p0 x8)>>=fun y4=>if (decide (y4<128))=true then ((wV (IntKind.wrap .u64 ((BitVec.ofInt (IntKind.bits .u64) x7 ||| BitVec.ofInt (IntKind.bits .u64) y3).toNat:Int)))>>=fun y5=>(lC p0 p1 (IntKind.wrap .i64 (x8+1)))>>=fun y6=>if (!decide (y5=y6))=true then (some (0,0,false)) else (some ((IntKind.wrap .u64 ((BitVec.ofInt (IntKind.bits .u64) x7 ||| BitVec.ofInt (IntKind.bits .u64) y3).toNat:Int)),(IntKind.wrap .i64 (x8+1)),true))) else (mV p0 p1 (IntKind.wrap .u64 ((BitVec.ofInt (IntKind.bits .u64) x7 ||| BitVec.ofInt (IntKind.bits .u64) y3).toNat:Int)) (IntKind.wrap .i64 (x8+1)))) else (some (0,0,false))
  partial_fixpoint
def vN (p0:(List UInt8)) (p1:Int):Option (Int×Int×Bool) :=
  if (decide (p1<0))=true then (some (0,0,false)) else (mV p0 p1 0 p1)
def vQ (p0:Int):Option Int :=
  some (IntKind.wrap .i64 ((BitVec.ofInt (IntKind.bits .i64) (IntKind.wrap .i64 (Int.fdiv p0 (2 ^ 1))) ^^^ BitVec.ofInt (IntKind.bits .i64) (IntKind.wrap .i64 (0 - (IntKind.wrap .i64 (IntKind.wrap .u64 ((BitVec.ofInt (IntKind.bits .u64) p0 &&& BitVec.ofInt (IntKind.bits .u64) 1).toNat:Int)))))).toNat:Int))
def eF (p0:aJ):Option (Int×aJ) :=
  (vN p0.s p0.at_)>>=fun y1=>(some (if p0.failed=true then true else (!y1.2.2)))>>=fun y2=>if y2=true then (some (0,(aJ.mk p0.s p0.at_ true))) else ((vQ y1.1)>>=fun y3=>some (y3,(aJ.mk p0.s y1.2.1 p0.failed)))
def gN (p0:aJ):Option (Int×aJ) :=
  (eF p0)>>=fun y1=>(some (if (decide (y1.1<0))=true then true else (decide ((IntKind.wrap .i64 ((y1.2.s.length:Int) - y1.2.at_))<y1.1))))>>=fun y2=>if y2=true then (qV y1 true) else (qV y1 y1.2.failed)
def fH (p0:aJ):Option (Bool×aJ) :=
  (eF p0)>>=fun y1=>(if (true&&(y1.2.failed==false))=true then some (if (!decide (y1.1=0))=true then (!decide (y1.1=1)) else false) else some default)>>=fun y2=>(some (if y1.2.failed=true then true else y2))>>=fun y3=>some ((decide (y1.1=1)),(aJ.mk y1.2.s y1.2.at_ y3))
def I9 (c0_0:(List Int)) (c0_6:Bool) (c0_7:Int) (c2:aJ):Option (Bool×Int×aJ×(List Int)) :=
  (eF c2)>>=fun y1=>(appG 8 c0_0 ([y1.1]:List Int))>>=fun y2=>some (c0_6,c0_7,y1.2,y2)
def pY (x4:Int) (bF:(List UInt8)) (bD:Int) (aZ:Bool) (dC:Bool) (eP:Int) (dI:(List Int)):Option (aJ×Bool×Int×(List Int)) :=
  (some (if (decide (0<x4))=true then (!aZ) else false))>>=fun y2=>if y2=true then ((I9 dI dC eP (aJ.mk bF bD aZ))>>=fun y3=>pY (IntKind.wrap .i64 (x4 - 1)) y3.2.2.1.s y3.2.2.1.at_ y3.2.2.1.failed y3.1 y3.2.1 y3.2.2.2) else (some ((aJ.mk bF bD aZ),dC,eP,dI))
  partial_fixpoint
def zY (p0:aJ) (c1_6:Bool) (c1_7:Int):Option (aJ×Bool×Int×(List Int)) :=
  (gN p0)>>=fun y1=>pY y1.1 y1.2.s y1.2.at_ y1.2.failed c1_6 c1_7 ([]:List Int)
def jK (p0:aJ):Option ((List UInt8)×aJ) :=
  (gN p0)>>=fun y1=>(lC y1.2.s (IntKind.wrap .i64 ((IntKind.wrap .i64 (y1.2.at_+y1.1)) - y1.1)) (IntKind.wrap .i64 (y1.2.at_+y1.1)))>>=fun y2=>some (y2,(aJ.mk y1.2.s (IntKind.wrap .i64 (y1.2.at_+y1.1)) y1.2.failed))
def F5 (c0_0:(List Int)) (c0_1:(List (List aB))) (c0_2:(List aB)) (c0_3:(List bC)) (c0_4:(List aB)) (c0_5:(List (List UInt8))) (c0_6:Bool) (c0_7:Int) (c2:aJ):Option (Bool×Int×aJ×(List (List UInt8))) :=
  (jK c2)>>=fun y1=>(appG 16 c0_5 ([y1.1]:List (List UInt8)))>>=fun y2=>some (c0_6,c0_7,y1.2,y2)
def qR (c1_0:(List Int)) (c1_1:(List (List aB))) (c1_2:(List aB)) (c1_3:(List bC)) (c1_4:(List aB)) (x4:Int) (bF:(List UInt8)) (bD:Int) (aZ:Bool) (dC:Bool) (eP:Int) (dI:(List (List UInt8))):Option (aJ×Bool×Int×(List (List UInt8))) :=
  (some (if (decide (0<x4))=true then (!aZ) else false))>>=fun y2=>if y2=true then ((F5 c1_0 c1_1 c1_2 c1_3 c1_4 dI dC eP (aJ.mk bF bD aZ))>>=fun y3=>qR c1_0 c1_1 c1_2 c1_3 c1_4 (IntKind.wrap .i64 (x4 - 1)) y3.2.2.1.s y3.2.2.1.at_ y3.2.2.1.failed y3.1 y3.2.1 y3.2.2.2) else (some ((aJ.mk bF bD aZ),dC,eP,dI))
  partial_fixpoint
def kN (p0:aJ) (c1_0:(List Int)) (c1_1:(List (List aB))) (c1_2:(List aB)) (c1_3:(List bC)) (c1_4:(List aB)) (c1_6:Bool) (c1_7:Int):Option (aJ×Bool×Int×(List (List UInt8))) :=
  (gN p0)>>=fun y1=>qR c1_0 c1_1 c1_2 c1_3 c1_4 y1.1 y1.2.s y1.2.at_ y1.2.failed c1_6 c1_7 ([]:List (List UInt8))
mutual
def O7 (c0_0:(List Int)) (c0_1:(List (List aB))) (c0_2:(List aB)) (c0_3:(List bC)) (c0_6:Bool) (c0_7:Int) (c2:aJ):Option (Bool×Int×aJ×(List bC)) :=
  (mG c2)>>=fun y1=>(fH y1.2)>>=fun y2=>(appG 128 c0_3 ([(bC.mk y1.1 y2.1)]:List bC))>>=fun y3=>some (c0_6,c0_7,y2.2,y3)
  partial_fixpoint
def tV (c1_0:(List Int)) (c1_1:(List (List aB))) (c1_2:(List aB)) (x4:Int) (bF:(List UInt8)) (bD:Int) (dX:(Bool×(Bool×(Int×(List bC))))):Option (aJ×Bool×Int×(List bC)) :=
  (some (if (decide (0<x4))=true then (!dX.1) else false))>>=fun y2=>if y2=true then ((O7 c1_0 c1_1 c1_2 dX.2.2.2 dX.2.1 dX.2.2.1 (aJ.mk bF bD dX.1))>>=fun y3=>tV c1_0 c1_1 c1_2 (IntKind.wrap .i64 (x4 - 1)) y3.2.2.1.s y3.2.2.1.at_ (y3.2.2.1.failed,(y3.1,(y3.2.1,y3.2.2.2)))) else (some ((aJ.mk bF bD dX.1),dX.2.1,dX.2.2.1,dX.2.2.2))
  partial_fixpoint
def nR (p0:aJ) (c1_0:(List Int)) (c1_1:(List (List aB))) (c1_2:(List aB)) (c1_6:Bool) (c1_7:Int):Option (aJ×Bool×Int×(List bC)) :=
  (gN p0)>>=fun y1=>tV c1_0 c1_1 c1_2 y1.1 y1.2.s y1.2.at_ (y1.2.failed,(c1_6,(c1_7,([]:List bC))))
  partial_fixpoint
def aA7 (c0_0:(List Int)) (c0_1:(List (List aB))) (c0_6:Bool) (c0_7:Int) (c2:aJ):Option (Bool×Int×aJ×(List (List aB))) :=
  (iI c2)>>=fun y1=>(appG 24 c0_1 ([y1.1]:List (List aB)))>>=fun y2=>some (c0_6,c0_7,y1.2,y2)
  partial_fixpoint
def uV (c1_0:(List Int)) (x4:Int) (bF:(List UInt8)) (bD:Int) (aZ:Bool) (dC:Bool) (gI:(Int×(List (List aB)))):Option (aJ×Bool×Int×(List (List aB))) :=
  (some (if (decide (0<x4))=true then (!aZ) else false))>>=fun y2=>if y2=true then ((aA7 c1_0 gI.2 dC gI.1 (aJ.mk bF bD aZ))>>=fun y3=>uV c1_0 (IntKind.wrap .i64 (x4 - 1)) y3.2.2.1.s y3.2.2.1.at_ y3.2.2.1.failed y3.1 (y3.2.1,y3.2.2.2)) else (some ((aJ.mk bF bD aZ),dC,gI.1,gI.2))
  partial_fixpoint
def tJ (p0:aJ) (c1_0:(List Int)) (c1_6:Bool) (c1_7:Int):Option (aJ×Bool×Int×(List (List aB))) :=
  (gN p0)>>=fun y1=>uV c1_0 y1.1 y1.2.s y1.2.at_ y1.2.failed c1_6 (c1_7,([]:List (List aB)))
  partial_fixpoint
def uE (p0:aJ):Option (aX×aJ) :=
  (zY p0 false 0)>>=fun y1=>(tJ y1.1 y1.2.2.2 y1.2.1 y1.2.2.1)>>=fun y2=>(iI y2.1)>>=fun y3=>(nR y3.2 y1.2.2.2 y2.2.2.2 y3.1 y2.2.1 y2.2.2.1)>>=fun y4=>(iI y4.1)>>=fun y5=>(kN y5.2 y1.2.2.2 y2.2.2.2 y3.1 y4.2.2.2 y5.1 y4.2.1 y4.2.2.1)>>=fun y6=>(fH y6.1)>>=fun y7=>(eF y7.2)>>=fun y8=>some ((aX.mk y1.2.2.2 y2.2.2.2 y3.1 y4.2.2.2 y5.1 y6.2.2.2 y7.1 y8.1),y8.2)
  partial_fixpoint
def T9 (c0_0:Int) (c0_1:Int) (c0_2:Bool) (c0_3:Int) (c0_4:Int) (c0_5:(List UInt8)) (kc0_6:(Int×(Int×((List aB)×((List aX)×aJ))))):Option (Int×Int×Bool×Int×Int×(List UInt8)×Int×Int×aJ×(List aX)) :=
  (uE kc0_6.2.2.2.2)>>=fun y1=>(appG 160 kc0_6.2.2.2.1 ([y1.1]:List aX))>>=fun y2=>some (c0_0,c0_1,c0_2,c0_3,c0_4,c0_5,kc0_6.1,kc0_6.2.1,y1.2,y2)
  partial_fixpoint
def tY (c1_8:(List aB)) (x4:Int) (bF:(List UInt8)) (bD:Int) (aZ:Bool) (iW:Int) (bS:(Int×(Bool×(Int×(Int×((List UInt8)×(Int×(Int×(List aX))))))))):Option (aJ×Int×Int×Bool×Int×Int×(List UInt8)×Int×Int×(List aX)) :=
  (some (if (decide (0<x4))=true then (!aZ) else false))>>=fun y2=>if y2=true then ((T9 iW bS.1 bS.2.1 bS.2.2.1 bS.2.2.2.1 bS.2.2.2.2.1 (bS.2.2.2.2.2.1,(bS.2.2.2.2.2.2.1,(c1_8,(bS.2.2.2.2.2.2.2,(aJ.mk bF bD aZ))))))>>=fun y3=>tY c1_8 (IntKind.wrap .i64 (x4 - 1)) y3.2.2.2.2.2.2.2.2.1.s y3.2.2.2.2.2.2.2.2.1.at_ y3.2.2.2.2.2.2.2.2.1.failed y3.1 (y3.2.1,(y3.2.2.1,(y3.2.2.2.1,(y3.2.2.2.2.1,(y3.2.2.2.2.2.1,(y3.2.2.2.2.2.2.1,(y3.2.2.2.2.2.2.2.1,y3.2.2.2.2.2.2.2.2.2)))))))) else (some ((aJ.mk bF bD aZ),iW,bS.1,bS.2.1,bS.2.2.1,bS.2.2.2.1,bS.2.2.2.2.1,bS.2.2.2.2.2.1,bS.2.2.2.2.2.2.1,bS.2.2.2.2.2.2.2))
  partial_fixpoint
def F6 (p0:aJ) (c1_0:Int) (c1_1:Int) (c1_2:Bool) (c1_3:Int) (c1_4:Int) (kc1_5:((List UInt8)×(Int×(Int×(List aB))))):Option (aJ×Int×Int×Bool×Int×Int×(List UInt8)×Int×Int×(List aX)) :=
  (gN p0)>>=fun y1=>tY kc1_5.2.2.2 y1.1 y1.2.s y1.2.at_ y1.2.failed c1_0 (c1_1,(c1_2,(c1_3,(c1_4,(kc1_5.1,(kc1_5.2.1,(kc1_5.2.2.1,([]:List aX))))))))
  partial_fixpoint
def R5 (c0_0:(List aB)) (c2:aJ):Option (aJ×(List aB)) :=
  (mG c2)>>=fun y1=>(appG 120 c0_0 ([(aB.mk 0 0 false (dR.mk 0 0 []) 0 0 [] [])]:List aB))>>=fun y2=>(idx y2 (c0_0.length:Int))>>=fun y3=>some (y1.2,(y2.set ((c0_0.length:Int)).toNat y1.1))
  partial_fixpoint
def qE (x4:Int) (bF:(List UInt8)) (bD:Int) (aZ:Bool) (dI:(List aB)):Option (aJ×(List aB)) :=
  (some (if (decide (0<x4))=true then (!aZ) else false))>>=fun y2=>if y2=true then ((R5 dI (aJ.mk bF bD aZ))>>=fun y3=>qE (IntKind.wrap .i64 (x4 - 1)) y3.1.s y3.1.at_ y3.1.failed y3.2) else (some ((aJ.mk bF bD aZ),dI))
  partial_fixpoint
def aA3 (p0:aJ) (c1_0:(List aB)):Option (aJ×(List aB)) :=
  (gN p0)>>=fun y1=>qE y1.1 y1.2.s y1.2.at_ y1.2.failed c1_0
  partial_fixpoint
def iI (p0:aJ):Option ((List aB)×aJ) :=
  (aA3 p0 ([]:List aB))>>=fun y1=>some (y1.2,y1.1)
  partial_fixpoint
def mG (p0:aJ):Option (aB×aJ) :=
  (eF p0)>>=fun y1=>(eF y1.2)>>=fun y2=>(fH y2.2)>>=fun y3=>(eF y3.2)>>=fun y4=>(eF y4.2)>>=fun y5=>(jK y5.2)>>=fun y6=>(eF y6.2)>>=fun y7=>(eF y7.2)>>=fun y8=>(iI y8.2)>>=fun y9=>(F6 y9.2 y1.1 y2.1 y3.1 y4.1 y5.1 (y6.1,(y7.1,(y8.1,y9.1))))>>=fun y10=>some ((aB.mk y10.2.1 y10.2.2.1 y10.2.2.2.1 (dR.mk y10.2.2.2.2.1 y10.2.2.2.2.2.1 y10.2.2.2.2.2.2.1) y10.2.2.2.2.2.2.2.1 y10.2.2.2.2.2.2.2.2.1 y9.1 y10.2.2.2.2.2.2.2.2.2),y10.1)
  partial_fixpoint
end
def pE (p0:(List UInt8)) (p1:Int):Option (aB×Int×Bool) :=
  (qC p0 p1)>>=fun y1=>if (!y1.2)=true then (some ((aB.mk 0 0 false (dR.mk 0 0 []) 0 0 ([]:List aB) ([]:List aX)),0,false)) else ((mG y1.1)>>=fun y2=>if y2.2.failed=true then (some ((aB.mk 0 0 false (dR.mk 0 0 []) 0 0 ([]:List aB) ([]:List aX)),0,false)) else (some (y2.1,y2.2.at_,true)))
def qA (x0:Int) (x3:(List Int)):Option (List UInt8) :=
  if (decide (127<x0))=true then ((appG 1 x3 ([(IntKind.wrap .u8 (IntKind.wrap .u64 ((Int.tmod x0 128)+128)))]:List Int))>>=fun y1=>qA (IntKind.wrap .u64 (Int.tdiv x0 128)) y1) else ((appG 1 x3 ([(IntKind.wrap .u8 x0)]:List Int))>>=fun y2=>(ofBytes y2)>>=fun y3=>some y3)
  partial_fixpoint
def vY (p0:Int):Option (List UInt8) :=
  qA p0 ([]:List Int)
def nE (p0:(List UInt8)) (p1:Int) (x7:Int) (x8:Int):Option (Int×Int×Bool) :=
  (some (if (decide (x8<10))=true then (decide ((IntKind.wrap .i64 (p1+x8))<(p0.length:Int))) else false))>>=fun y2=>if y2=true then ((tN p0 (IntKind.wrap .i64 (p1+x8)))>>=fun y3=>(xE .u64 (Int.tmod (IntKind.wrap .u64 y3) 128) (IntKind.wrap .u64 (IntKind.wrap .i64 (7 * x8))))>>=fun y4=>if (decide ((IntKind.wrap .u64 y3)<128))=true then ((vY (IntKind.wrap .u64 (x7+y4)))>>=fun y5=>(lC p0 p1 (IntKind.wrap .i64 ((IntKind.wrap .i64 (p1+x8))+1)))>>=fun y6=>if (!decide (y5=y6))=true then (some (0,0,false)) else (some ((IntKind.wrap .u64 (x7+y4)),(IntKind.wrap .i64 ((IntKind.wrap .i64 (p1+x8))+1)),true))) else (nE p0 p1 (IntKind.wrap .u64 (x7+y4)) (IntKind.wrap .i64 (x8+1)))) else (some (0,0,false))
  partial_fixpoint
def lF (p0:Int) (p1:Int) (p2:Int):Option Bool :=
  (some (if (decide (p1≤p0))=true then (decide (p0≤p2)) else false))>>=fun y1=>some y1
def wI (p0:(List UInt8)) (p1:Int):Option (Int×Int×Bool) :=
  (lF p1 0 (p0.length:Int))>>=fun y1=>if (!y1)=true then (some (0,0,false)) else (nE p0 p1 0 0)
def vK (p0:Int):Option Int :=
  if (decide ((Int.tmod p0 2)=1))=true then (some (IntKind.wrap .i64 ((IntKind.wrap .i64 (0 - (IntKind.wrap .i64 (IntKind.wrap .u64 (Int.tdiv p0 2))))) - 1))) else (some (IntKind.wrap .i64 (IntKind.wrap .u64 (Int.tdiv p0 2))))
def fJ (p0:aL):Option (Int×aL) :=
  if p0.bad=true then (some (0,p0)) else ((wI p0.s p0.at_)>>=fun y1=>if (!y1.2.2)=true then (some (0,(aL.mk p0.s p0.at_ true))) else ((vK y1.1)>>=fun y2=>some (y2,(aL.mk p0.s y1.2.1 p0.bad))))
def fI (p0:aL):Option (Int×aL) :=
  (fJ p0)>>=fun y1=>(lF y1.1 0 (IntKind.wrap .i64 ((y1.2.s.length:Int) - y1.2.at_)))>>=fun y2=>if (!y2)=true then (some (0,(aL.mk y1.2.s y1.2.at_ true))) else (some (y1.1,y1.2))
def oZ (y1:Int×aL) (aZ:Bool):Option (Bool×aL) :=
  some ((decide (y1.1=1)),(aL.mk y1.2.s y1.2.at_ aZ))
def iG (p0:aL):Option (Bool×aL) :=
  (fJ p0)>>=fun y1=>(lF y1.1 0 1)>>=fun y2=>if (!y2)=true then (oZ y1 true) else (oZ y1 y1.2.bad)
def jL (p0:aL):Option ((List UInt8)×aL) :=
  (fI p0)>>=fun y1=>if y1.2.bad=true then (some ([],y1.2)) else ((lC y1.2.s (IntKind.wrap .i64 ((IntKind.wrap .i64 (y1.2.at_+y1.1)) - y1.1)) (IntKind.wrap .i64 (y1.2.at_+y1.1)))>>=fun y2=>some (y2,(aL.mk y1.2.s (IntKind.wrap .i64 (y1.2.at_+y1.1)) y1.2.bad)))
def nJ (y22:Int×aL) (bI:(List Int)) (bN:(List (List aB))) (y12:(List aB)×aL) (cZ:(List bC)) (y21:(List aB)×aL) (x9:Int) (fT:(List (List UInt8))) (iV:(List UInt8)) (iY:Int) (fQ:Bool):Option (aX×aL) :=
  (some (if (decide (x9<y22.1))=true then (!fQ) else false))>>=fun y26=>if y26=true then ((jL (aL.mk iV iY fQ))>>=fun y27=>(appG 16 fT ([y27.1]:List (List UInt8)))>>=fun y28=>nJ y22 bI bN y12 cZ y21 (IntKind.wrap .i64 (x9+1)) y28 y27.2.s y27.2.at_ y27.2.bad) else ((iG (aL.mk iV iY fQ))>>=fun y29=>(fJ y29.2)>>=fun y30=>some ((aX.mk bI bN y12.1 cZ y21.1 fT y29.1 y30.1),y30.2))
  partial_fixpoint
mutual
def nY (y13:Int×aL) (bI:(List Int)) (bN:(List (List aB))) (y12:(List aB)×aL) (x7:Int) (cZ:(List bC)) (dZ:((List UInt8)×(Int×Bool))):Option (aX×aL) :=
  (some (if (decide (x7<y13.1))=true then (!dZ.2.2) else false))>>=fun y17=>if y17=true then ((kZ (aL.mk dZ.1 dZ.2.1 dZ.2.2))>>=fun y18=>(iG y18.2)>>=fun y19=>(appG 128 cZ ([(bC.mk y18.1 y19.1)]:List bC))>>=fun y20=>nY y13 bI bN y12 (IntKind.wrap .i64 (x7+1)) y20 (y19.2.s,(y19.2.at_,y19.2.bad))) else ((kY (aL.mk dZ.1 dZ.2.1 dZ.2.2))>>=fun y21=>(fI y21.2)>>=fun y22=>nJ y22 bI bN y12 cZ y21 0 ([]:List (List UInt8)) y22.2.s y22.2.at_ y22.2.bad)
  partial_fixpoint
def qG (y1:Int×aL) (x3:(List aB)) (x5:Int) (bF:(List UInt8)) (bD:Int) (aZ:Bool):Option ((List aB)×aL) :=
  (some (if (decide (x5<y1.1))=true then (!aZ) else false))>>=fun y2=>if y2=true then ((kZ (aL.mk bF bD aZ))>>=fun y3=>(appG 120 x3 ([y3.1]:List aB))>>=fun y4=>qG y1 y4 (IntKind.wrap .i64 (x5+1)) y3.2.s y3.2.at_ y3.2.bad) else (some (x3,(aL.mk bF bD aZ)))
  partial_fixpoint
def kY (p0:aL):Option ((List aB)×aL) :=
  (fI p0)>>=fun y1=>qG y1 ([]:List aB) 0 y1.2.s y1.2.at_ y1.2.bad
  partial_fixpoint
def oC (y5:Int×aL) (bI:(List Int)) (x6:Int) (bN:(List (List aB))) (jA:(List UInt8)) (iX:Int) (fP:Bool):Option (aX×aL) :=
  (some (if (decide (x6<y5.1))=true then (!fP) else false))>>=fun y9=>if y9=true then ((kY (aL.mk jA iX fP))>>=fun y10=>(appG 24 bN ([y10.1]:List (List aB)))>>=fun y11=>oC y5 bI (IntKind.wrap .i64 (x6+1)) y11 y10.2.s y10.2.at_ y10.2.bad) else ((kY (aL.mk jA iX fP))>>=fun y12=>(fI y12.2)>>=fun y13=>nY y13 bI bN y12 0 ([]:List bC) (y13.2.s,(y13.2.at_,y13.2.bad)))
  partial_fixpoint
def tF (y1:Int×aL) (x5:Int) (bI:(List Int)) (bF:(List UInt8)) (bD:Int) (aZ:Bool):Option (aX×aL) :=
  (some (if (decide (x5<y1.1))=true then (!aZ) else false))>>=fun y2=>if y2=true then ((fJ (aL.mk bF bD aZ))>>=fun y3=>(appG 8 bI ([y3.1]:List Int))>>=fun y4=>tF y1 (IntKind.wrap .i64 (x5+1)) y4 y3.2.s y3.2.at_ y3.2.bad) else ((fI (aL.mk bF bD aZ))>>=fun y5=>oC y5 bI 0 ([]:List (List aB)) y5.2.s y5.2.at_ y5.2.bad)
  partial_fixpoint
def vD (p0:aL):Option (aX×aL) :=
  (fI p0)>>=fun y1=>tF y1 0 ([]:List Int) y1.2.s y1.2.at_ y1.2.bad
  partial_fixpoint
def oP (y10:Int×aL) (y1:Int×aL) (y2:Int×aL) (y3:Bool×aL) (y4:Int×aL) (y5:Int×aL) (ky6:(((List UInt8)×aL)×((Int×aL)×((Int×aL)×((((List aB)×aL)×(Int×((List aX)×((List UInt8)×(Int×Bool)))))))))):Option (aB×aL) :=
  (some (if (decide (ky6.2.2.2.2.1<y10.1))=true then (!ky6.2.2.2.2.2.2.2.2) else false))>>=fun y11=>if y11=true then ((vD (aL.mk ky6.2.2.2.2.2.2.1 ky6.2.2.2.2.2.2.2.1 ky6.2.2.2.2.2.2.2.2))>>=fun y12=>(appG 160 ky6.2.2.2.2.2.1 ([y12.1]:List aX))>>=fun y13=>oP y10 y1 y2 y3 y4 y5 (ky6.1,(ky6.2.1,(ky6.2.2.1,(ky6.2.2.2.1,((IntKind.wrap .i64 (ky6.2.2.2.2.1+1)),(y13,(y12.2.s,(y12.2.at_,y12.2.bad))))))))) else (some ((aB.mk y1.1 y2.1 y3.1 (dR.mk y4.1 y5.1 ky6.1.1) ky6.2.1.1 ky6.2.2.1.1 ky6.2.2.2.1.1 ky6.2.2.2.2.2.1),(aL.mk ky6.2.2.2.2.2.2.1 ky6.2.2.2.2.2.2.2.1 ky6.2.2.2.2.2.2.2.2)))
  partial_fixpoint
def kZ (p0:aL):Option (aB×aL) :=
  (fJ p0)>>=fun y1=>(fJ y1.2)>>=fun y2=>(iG y2.2)>>=fun y3=>(fJ y3.2)>>=fun y4=>(fJ y4.2)>>=fun y5=>(jL y5.2)>>=fun y6=>(fJ y6.2)>>=fun y7=>(fJ y7.2)>>=fun y8=>(kY y8.2)>>=fun y9=>(fI y9.2)>>=fun y10=>oP y10 y1 y2 y3 y4 y5 (y6,(y7,(y8,(y9,(0,(([]:List aX),(y10.2.s,(y10.2.at_,y10.2.bad))))))))
  partial_fixpoint
end
def qJ (p0:(List UInt8)) (p1:Int):Option aL :=
  (if (true&&((decide (20000<(p0.length:Int)))==false))=true then lF p1 0 (p0.length:Int) else some default)>>=fun y1=>(some (if (decide (20000<(p0.length:Int)))=true then true else (!y1)))>>=fun y2=>some (aL.mk p0 p1 y2)
def vV (p0:(List UInt8)) (p1:Int):Option (aB×Int×Bool) :=
  (qJ p0 p1)>>=fun y1=>(kZ y1)>>=fun y2=>if y2.2.bad=true then (some ((aB.mk 0 0 false (dR.mk 0 0 []) 0 0 ([]:List aB) ([]:List aX)),0,false)) else (some (y2.1,y2.2.at_,true))
def wN (p0:(List Int)) (p1:(List Int)) (x5:Int):Option Bool :=
  if (decide (x5<(p0.length:Int)))=true then ((idx p0 x5)>>=fun y1=>(idx p1 x5)>>=fun y2=>if (!decide (y1=y2))=true then (some false) else (wN p0 p1 (IntKind.wrap .i64 (x5+1)))) else (some true)
  partial_fixpoint
def wF (p0:(List Int)) (p1:(List Int)):Option Bool :=
  if (!decide ((p0.length:Int)=(p1.length:Int)))=true then (some false) else (wN p0 p1 0)
def vZ (p0:(List (List UInt8))) (p1:(List (List UInt8))) (x5:Int):Option Bool :=
  if (decide (x5<(p0.length:Int)))=true then ((idx p0 x5)>>=fun y1=>(idx p1 x5)>>=fun y2=>if (!decide (y1=y2))=true then (some false) else (vZ p0 p1 (IntKind.wrap .i64 (x5+1)))) else (some true)
  partial_fixpoint
def wK (p0:(List (List UInt8))) (p1:(List (List UInt8))):Option Bool :=
  if (!decide ((p0.length:Int)=(p1.length:Int)))=true then (some false) else (vZ p0 p1 0)
def vL (p0:dR) (p1:dR):Option Bool :=
  if (!decide (p0.kind=p1.kind))=true then (some false) else (if (!decide (p0.num=p1.num))=true then (some false) else (if (!decide (p0.text=p1.text))=true then (some false) else (some true)))
mutual
def rJ (p0:bC) (p1:bC):Option Bool :=
  (jJ p0.expr p1.expr)>>=fun y1=>if (!y1)=true then (some false) else (if (!(p0.desc==p1.desc))=true then (some false) else (some true))
  partial_fixpoint
def G5 (p0:(List bC)) (p1:(List bC)) (x5:Int):Option Bool :=
  if (decide (x5<(p0.length:Int)))=true then ((idx p0 x5)>>=fun y1=>(idx p1 x5)>>=fun y2=>(rJ y1 y2)>>=fun y3=>if (!y3)=true then (some false) else (G5 p0 p1 (IntKind.wrap .i64 (x5+1)))) else (some true)
  partial_fixpoint
def zI (p0:(List bC)) (p1:(List bC)):Option Bool :=
  if (!decide ((p0.length:Int)=(p1.length:Int)))=true then (some false) else (G5 p0 p1 0)
  partial_fixpoint
def C8 (p0:(List (List aB))) (p1:(List (List aB))) (x5:Int):Option Bool :=
  if (decide (x5<(p0.length:Int)))=true then ((idx p0 x5)>>=fun y1=>(idx p1 x5)>>=fun y2=>(kE y1 y2)>>=fun y3=>if (!y3)=true then (some false) else (C8 p0 p1 (IntKind.wrap .i64 (x5+1)))) else (some true)
  partial_fixpoint
def N7 (p0:(List (List aB))) (p1:(List (List aB))):Option Bool :=
  if (!decide ((p0.length:Int)=(p1.length:Int)))=true then (some false) else (C8 p0 p1 0)
  partial_fixpoint
def sH (p0:aX) (p1:aX):Option Bool :=
  (wF p0.tables p1.tables)>>=fun y1=>if (!y1)=true then (some false) else ((N7 p0.on_ p1.on_)>>=fun y2=>if (!y2)=true then (some false) else ((kE p0.where_ p1.where_)>>=fun y3=>if (!y3)=true then (some false) else ((zI p0.order p1.order)>>=fun y4=>if (!y4)=true then (some false) else ((kE p0.items p1.items)>>=fun y5=>if (!y5)=true then (some false) else ((wK p0.names p1.names)>>=fun y6=>if (!y6)=true then (some false) else (if (!(p0.distinct==p1.distinct))=true then (some false) else (if (!decide (p0.limit=p1.limit))=true then (some false) else (some true))))))))
  partial_fixpoint
def M3 (p0:(List aX)) (p1:(List aX)) (x5:Int):Option Bool :=
  if (decide (x5<(p0.length:Int)))=true then ((idx p0 x5)>>=fun y1=>(idx p1 x5)>>=fun y2=>(sH y1 y2)>>=fun y3=>if (!y3)=true then (some false) else (M3 p0 p1 (IntKind.wrap .i64 (x5+1)))) else (some true)
  partial_fixpoint
def I4 (p0:(List aX)) (p1:(List aX)):Option Bool :=
  if (!decide ((p0.length:Int)=(p1.length:Int)))=true then (some false) else (M3 p0 p1 0)
  partial_fixpoint
def rD (p0:(List aB)) (p1:(List aB)) (x5:Int):Option Bool :=
  if (decide (x5<(p0.length:Int)))=true then ((idx p0 x5)>>=fun y1=>(idx p1 x5)>>=fun y2=>(jJ y1 y2)>>=fun y3=>if (!y3)=true then (some false) else (rD p0 p1 (IntKind.wrap .i64 (x5+1)))) else (some true)
  partial_fixpoint
def kE (p0:(List aB)) (p1:(List aB)):Option Bool :=
  if (!decide ((p0.length:Int)=(p1.length:Int)))=true then (some false) else (rD p0 p1 0)
  partial_fixpoint
def jJ (p0:aB) (p1:aB):Option Bool :=
  if (!decide (p0.kind=p1.kind))=true then (some false) else (if (!decide (p0.op=p1.op))=true then (some false) else (if (!(p0.not_==p1.not_))=true then (some false) else ((vL p0.value p1.value)>>=fun y1=>if (!y1)=true then (some false) else (if (!decide (p0.up=p1.up))=true then (some false) else (if (!decide (p0.at_=p1.at_))=true then (some false) else ((kE p0.kids p1.kids)>>=fun y2=>if (!y2)=true then (some false) else ((I4 p0.sub p1.sub)>>=fun y3=>if (!y3)=true then (some false) else (some true))))))))
  partial_fixpoint
end
def oV (p0:(List Int)) (x1:Int) (x5:Int):Option Int :=
  if (decide (x5<(p0.length:Int)))=true then ((idx p0 x5)>>=fun y1=>if (!decide (y1=x1))=true then (some (-1)) else (oV p0 (IntKind.wrap .i64 (x1+1)) (IntKind.wrap .i64 (x5+1)))) else (some x1)
  partial_fixpoint
def M4 (p0:(List Int)) (p1:Int):Option Int :=
  oV p0 p1 0
def qX (x0:Int) (x3:(List UInt8)):Option (List UInt8) :=
  if (decide (0<x0))=true then ((ofBytes ([(IntKind.wrap .u8 (IntKind.wrap .i64 (48+(Int.tmod x0 10))))]:List Int))>>=fun y1=>(wW y1 x3)>>=fun y2=>qX (IntKind.wrap .i64 (Int.tdiv x0 10)) y2) else ((wW [109] x3)>>=fun y3=>some y3)
  partial_fixpoint
def jV (p0:Int):Option (List UInt8) :=
  if (decide (p0≤0))=true then (some [109,48]) else (qX p0 [])
def oG (p0:(List (List UInt8))) (x1:Int) (x5:Int):Option Int :=
  if (decide (x5<(p0.length:Int)))=true then ((idx p0 x5)>>=fun y1=>(jV x1)>>=fun y2=>if (!decide (y1=y2))=true then (some (-1)) else (oG p0 (IntKind.wrap .i64 (x1+1)) (IntKind.wrap .i64 (x5+1)))) else (some x1)
  partial_fixpoint
def H6 (p0:(List (List UInt8))) (p1:Int):Option Int :=
  oG p0 p1 0
mutual
def oQ (p0:(List bC)) (x1:Int) (x5:Int):Option Int :=
  if (decide (x5<(p0.length:Int)))=true then ((idx p0 x5)>>=fun y1=>if (!decide (y1.expr.kind=x1))=true then (some (-1)) else ((idx p0 x5)>>=fun y2=>if (!decide (y2.expr.op=(IntKind.wrap .i64 (x1+1))))=true then (some (-1)) else ((idx p0 x5)>>=fun y3=>if (!(y3.expr.not_==(decide ((Int.tmod (IntKind.wrap .i64 ((IntKind.wrap .i64 (x1+1))+1)) 3)=0))))=true then (some (-1)) else ((idx p0 x5)>>=fun y4=>if (!decide (y4.expr.value.kind=(IntKind.wrap .i64 ((IntKind.wrap .i64 ((IntKind.wrap .i64 (x1+1))+1))+1))))=true then (some (-1)) else ((idx p0 x5)>>=fun y5=>if (!decide (y5.expr.value.num=(IntKind.wrap .i64 ((IntKind.wrap .i64 ((IntKind.wrap .i64 ((IntKind.wrap .i64 (x1+1))+1))+1))+1))))=true then (some (-1)) else ((idx p0 x5)>>=fun y6=>(jV (IntKind.wrap .i64 ((IntKind.wrap .i64 ((IntKind.wrap .i64 ((IntKind.wrap .i64 ((IntKind.wrap .i64 (x1+1))+1))+1))+1))+1)))>>=fun y7=>if (!decide (y6.expr.value.text=y7))=true then (some (-1)) else ((idx p0 x5)>>=fun y8=>if (!decide (y8.expr.up=(IntKind.wrap .i64 ((IntKind.wrap .i64 ((IntKind.wrap .i64 ((IntKind.wrap .i64 ((IntKind.wrap .i64 ((IntKind.wrap .i64 (x1+1))+1))+1))+1))+1))+1))))=true then (some (-1)) else ((idx p0 x5)>>=fun y9=>if (!decide (y9.expr.at_=(IntKind.wrap .i64 ((IntKind.wrap .i64 ((IntKind.wrap .i64 ((IntKind.wrap .i64 ((IntKind.wrap .i64 ((IntKind.wrap .i64 ((IntKind.wrap .i64 (x1+1))+1))+1))+1))+1))+1))+1))))=true then (some (-1)) else ((idx p0 x5)>>=fun y10=>(nM y10.expr.kids (IntKind.wrap .i64 ((IntKind.wrap .i64 ((IntKind.wrap .i64 ((IntKind.wrap .i64 ((IntKind.wrap .i64 ((IntKind.wrap .i64 ((IntKind.wrap .i64 ((IntKind.wrap .i64 (x1+1))+1))+1))+1))+1))+1))+1))+1)))>>=fun y11=>if (decide (y11<0))=true then (some (-1)) else ((idx p0 x5)>>=fun y12=>(uJ y12.expr.sub y11)>>=fun y13=>if (decide (y13<0))=true then (some (-1)) else ((idx p0 x5)>>=fun y14=>if (!(y14.desc==(decide ((Int.tmod y13 3)=0))))=true then (some (-1)) else (oQ p0 (IntKind.wrap .i64 (y13+1)) (IntKind.wrap .i64 (x5+1)))))))))))))) else (some x1)
  partial_fixpoint
def xY (p0:(List bC)) (p1:Int):Option Int :=
  oQ p0 p1 0
  partial_fixpoint
def qZ (p0:(List (List aB))) (x1:Int) (x5:Int):Option Int :=
  if (decide (x5<(p0.length:Int)))=true then ((idx p0 x5)>>=fun y1=>(nM y1 x1)>>=fun y2=>if (decide (y2<0))=true then (some (-1)) else (qZ p0 y2 (IntKind.wrap .i64 (x5+1)))) else (some x1)
  partial_fixpoint
def wH (p0:(List (List aB))) (p1:Int):Option Int :=
  qZ p0 p1 0
  partial_fixpoint
def qL (p0:(List aX)) (x1:Int) (x5:Int):Option Int :=
  if (decide (x5<(p0.length:Int)))=true then ((idx p0 x5)>>=fun y1=>(M4 y1.tables x1)>>=fun y2=>if (decide (y2<0))=true then (some (-1)) else ((idx p0 x5)>>=fun y3=>(wH y3.on_ y2)>>=fun y4=>if (decide (y4<0))=true then (some (-1)) else ((idx p0 x5)>>=fun y5=>(nM y5.where_ y4)>>=fun y6=>if (decide (y6<0))=true then (some (-1)) else ((idx p0 x5)>>=fun y7=>(xY y7.order y6)>>=fun y8=>if (decide (y8<0))=true then (some (-1)) else ((idx p0 x5)>>=fun y9=>(nM y9.items y8)>>=fun y10=>if (decide (y10<0))=true then (some (-1)) else ((idx p0 x5)>>=fun y11=>(H6 y11.names y10)>>=fun y12=>if (decide (y12<0))=true then (some (-1)) else ((idx p0 x5)>>=fun y13=>if (!(y13.distinct==(decide ((Int.tmod y12 3)=0))))=true then (some (-1)) else ((idx p0 x5)>>=fun y14=>if (!decide (y14.limit=(IntKind.wrap .i64 (y12+1))))=true then (some (-1)) else (qL p0 (IntKind.wrap .i64 ((IntKind.wrap .i64 (y12+1))+1)) (IntKind.wrap .i64 (x5+1))))))))))) else (some x1)
  partial_fixpoint
def uJ (p0:(List aX)) (p1:Int):Option Int :=
  qL p0 p1 0
  partial_fixpoint
def rO (p0:(List aB)) (x1:Int) (x5:Int):Option Int :=
  if (decide (x5<(p0.length:Int)))=true then ((idx p0 x5)>>=fun y1=>if (!decide (y1.kind=x1))=true then (some (-1)) else ((idx p0 x5)>>=fun y2=>if (!decide (y2.op=(IntKind.wrap .i64 (x1+1))))=true then (some (-1)) else ((idx p0 x5)>>=fun y3=>if (!(y3.not_==(decide ((Int.tmod (IntKind.wrap .i64 ((IntKind.wrap .i64 (x1+1))+1)) 3)=0))))=true then (some (-1)) else ((idx p0 x5)>>=fun y4=>if (!decide (y4.value.kind=(IntKind.wrap .i64 ((IntKind.wrap .i64 ((IntKind.wrap .i64 (x1+1))+1))+1))))=true then (some (-1)) else ((idx p0 x5)>>=fun y5=>if (!decide (y5.value.num=(IntKind.wrap .i64 ((IntKind.wrap .i64 ((IntKind.wrap .i64 ((IntKind.wrap .i64 (x1+1))+1))+1))+1))))=true then (some (-1)) else ((idx p0 x5)>>=fun y6=>(jV (IntKind.wrap .i64 ((IntKind.wrap .i64 ((IntKind.wrap .i64 ((IntKind.wrap .i64 ((IntKind.wrap .i64 (x1+1))+1))+1))+1))+1)))>>=fun y7=>if (!decide (y6.value.text=y7))=true then (some (-1)) else ((idx p0 x5)>>=fun y8=>if (!decide (y8.up=(IntKind.wrap .i64 ((IntKind.wrap .i64 ((IntKind.wrap .i64 ((IntKind.wrap .i64 ((IntKind.wrap .i64 ((IntKind.wrap .i64 (x1+1))+1))+1))+1))+1))+1))))=true then (some (-1)) else ((idx p0 x5)>>=fun y9=>if (!decide (y9.at_=(IntKind.wrap .i64 ((IntKind.wrap .i64 ((IntKind.wrap .i64 ((IntKind.wrap .i64 ((IntKind.wrap .i64 ((IntKind.wrap .i64 ((IntKind.wrap .i64 (x1+1))+1))+1))+1))+1))+1))+1))))=true then (some (-1)) else ((idx p0 x5)>>=fun y10=>(nM y10.kids (IntKind.wrap .i64 ((IntKind.wrap .i64 ((IntKind.wrap .i64 ((IntKind.wrap .i64 ((IntKind.wrap .i64 ((IntKind.wrap .i64 ((IntKind.wrap .i64 ((IntKind.wrap .i64 (x1+1))+1))+1))+1))+1))+1))+1))+1)))>>=fun y11=>if (decide (y11<0))=true then (some (-1)) else ((idx p0 x5)>>=fun y12=>(uJ y12.sub y11)>>=fun y13=>if (decide (y13<0))=true then (some (-1)) else (rO p0 y13 (IntKind.wrap .i64 (x5+1))))))))))))) else (some x1)
  partial_fixpoint
def nM (p0:(List aB)) (p1:Int):Option Int :=
  rO p0 p1 0
  partial_fixpoint
end
def pX (p0:aB) (p1:Int):Option Int :=
  (nM p0.kids p1)>>=fun y1=>if (decide (y1<0))=true then (some (-1)) else ((uJ p0.sub y1)>>=fun y2=>if (decide (y2<0))=true then (some (-1)) else (some y2))
def pK (x1:Int) (x5:Int) (aP:(List Int)):Option (Int×(List Int)) :=
  if (decide (x5<(aP.length:Int)))=true then ((idx aP x5)>>=fun y1=>pK (IntKind.wrap .i64 (x1+1)) (IntKind.wrap .i64 (x5+1)) (aP.set (x5).toNat x1)) else (some (x1,aP))
  partial_fixpoint
def xV (p0:(List Int)) (p1:Int):Option (Int×(List Int)) :=
  pK p1 0 p0
def oJ (x1:Int) (x5:Int) (aP:(List (List UInt8))):Option (Int×(List (List UInt8))) :=
  if (decide (x5<(aP.length:Int)))=true then ((jV x1)>>=fun y1=>(idx aP x5)>>=fun y2=>oJ (IntKind.wrap .i64 (x1+1)) (IntKind.wrap .i64 (x5+1)) (aP.set (x5).toNat y1)) else (some (x1,aP))
  partial_fixpoint
def xO (p0:(List (List UInt8))) (p1:Int):Option (Int×(List (List UInt8))) :=
  oJ p1 0 p0
mutual
def oL (x1:Int) (x5:Int) (aP:(List bC)):Option (Int×(List bC)) :=
  if (decide (x5<(aP.length:Int)))=true then ((idx aP x5)>>=fun y1=>(jV (IntKind.wrap .i64 ((IntKind.wrap .i64 ((IntKind.wrap .i64 ((IntKind.wrap .i64 ((IntKind.wrap .i64 (x1+1))+1))+1))+1))+1)))>>=fun y2=>(mI y1.expr.kids (IntKind.wrap .i64 ((IntKind.wrap .i64 ((IntKind.wrap .i64 ((IntKind.wrap .i64 ((IntKind.wrap .i64 ((IntKind.wrap .i64 ((IntKind.wrap .i64 ((IntKind.wrap .i64 (x1+1))+1))+1))+1))+1))+1))+1))+1)))>>=fun y3=>(qK y1.expr.sub y3.1)>>=fun y4=>oL (IntKind.wrap .i64 (y4.1+1)) (IntKind.wrap .i64 (x5+1)) (aP.set (x5).toNat (bC.mk (aB.mk x1 (IntKind.wrap .i64 (x1+1)) (decide ((Int.tmod (IntKind.wrap .i64 ((IntKind.wrap .i64 (x1+1))+1)) 3)=0)) (dR.mk (IntKind.wrap .i64 ((IntKind.wrap .i64 ((IntKind.wrap .i64 (x1+1))+1))+1)) (IntKind.wrap .i64 ((IntKind.wrap .i64 ((IntKind.wrap .i64 ((IntKind.wrap .i64 (x1+1))+1))+1))+1)) y2) (IntKind.wrap .i64 ((IntKind.wrap .i64 ((IntKind.wrap .i64 ((IntKind.wrap .i64 ((IntKind.wrap .i64 ((IntKind.wrap .i64 (x1+1))+1))+1))+1))+1))+1)) (IntKind.wrap .i64 ((IntKind.wrap .i64 ((IntKind.wrap .i64 ((IntKind.wrap .i64 ((IntKind.wrap .i64 ((IntKind.wrap .i64 ((IntKind.wrap .i64 (x1+1))+1))+1))+1))+1))+1))+1)) y3.2 y4.2) (decide ((Int.tmod y4.1 3)=0))))) else (some (x1,aP))
  partial_fixpoint
def yR (p0:(List bC)) (p1:Int):Option (Int×(List bC)) :=
  oL p1 0 p0
  partial_fixpoint
def rV (x1:Int) (x5:Int) (aP:(List (List aB))):Option (Int×(List (List aB))) :=
  if (decide (x5<(aP.length:Int)))=true then ((idx aP x5)>>=fun y1=>(mI y1 x1)>>=fun y2=>rV y2.1 (IntKind.wrap .i64 (x5+1)) (aP.set (x5).toNat y2.2)) else (some (x1,aP))
  partial_fixpoint
def wB (p0:(List (List aB))) (p1:Int):Option (Int×(List (List aB))) :=
  rV p1 0 p0
  partial_fixpoint
def sF (x1:Int) (x5:Int) (aP:(List aX)):Option (Int×(List aX)) :=
  if (decide (x5<(aP.length:Int)))=true then ((idx aP x5)>>=fun y1=>(xV y1.tables x1)>>=fun y2=>(wB y1.on_ y2.1)>>=fun y3=>(mI y1.where_ y3.1)>>=fun y4=>(yR y1.order y4.1)>>=fun y5=>(mI y1.items y5.1)>>=fun y6=>(xO y1.names y6.1)>>=fun y7=>sF (IntKind.wrap .i64 ((IntKind.wrap .i64 (y7.1+1))+1)) (IntKind.wrap .i64 (x5+1)) (aP.set (x5).toNat (aX.mk y2.2 y3.2 y4.2 y5.2 y6.2 y7.2 (decide ((Int.tmod y7.1 3)=0)) (IntKind.wrap .i64 (y7.1+1))))) else (some (x1,aP))
  partial_fixpoint
def qK (p0:(List aX)) (p1:Int):Option (Int×(List aX)) :=
  sF p1 0 p0
  partial_fixpoint
def rX (x1:Int) (x5:Int) (aP:(List aB)):Option (Int×(List aB)) :=
  if (decide (x5<(aP.length:Int)))=true then ((idx aP x5)>>=fun y1=>(jV (IntKind.wrap .i64 ((IntKind.wrap .i64 ((IntKind.wrap .i64 ((IntKind.wrap .i64 ((IntKind.wrap .i64 (x1+1))+1))+1))+1))+1)))>>=fun y2=>(mI y1.kids (IntKind.wrap .i64 ((IntKind.wrap .i64 ((IntKind.wrap .i64 ((IntKind.wrap .i64 ((IntKind.wrap .i64 ((IntKind.wrap .i64 ((IntKind.wrap .i64 ((IntKind.wrap .i64 (x1+1))+1))+1))+1))+1))+1))+1))+1)))>>=fun y3=>(qK y1.sub y3.1)>>=fun y4=>rX y4.1 (IntKind.wrap .i64 (x5+1)) (aP.set (x5).toNat (aB.mk x1 (IntKind.wrap .i64 (x1+1)) (decide ((Int.tmod (IntKind.wrap .i64 ((IntKind.wrap .i64 (x1+1))+1)) 3)=0)) (dR.mk (IntKind.wrap .i64 ((IntKind.wrap .i64 ((IntKind.wrap .i64 (x1+1))+1))+1)) (IntKind.wrap .i64 ((IntKind.wrap .i64 ((IntKind.wrap .i64 ((IntKind.wrap .i64 (x1+1))+1))+1))+1)) y2) (IntKind.wrap .i64 ((IntKind.wrap .i64 ((IntKind.wrap .i64 ((IntKind.wrap .i64 ((IntKind.wrap .i64 ((IntKind.wrap .i64 (x1+1))+1))+1))+1))+1))+1)) (IntKind.wrap .i64 ((IntKind.wrap .i64 ((IntKind.wrap .i64 ((IntKind.wrap .i64 ((IntKind.wrap .i64 ((IntKind.wrap .i64 ((IntKind.wrap .i64 (x1+1))+1))+1))+1))+1))+1))+1)) y3.2 y4.2))) else (some (x1,aP))
  partial_fixpoint
def mI (p0:(List aB)) (p1:Int):Option (Int×(List aB)) :=
  rX p1 0 p0
  partial_fixpoint
end
def xW (p0:aB) (p1:Int):Option (Int×(List aB)×(List aX)) :=
  (mI p0.kids p1)>>=fun y1=>(qK p0.sub y1.1)>>=fun y2=>some (y2.1,y1.2,y2.2)
def C9 (p0:(List UInt8)) (p1:Int):Option Bool :=
  if (decide (1048576<(p0.length:Int)))=true then (some true) else ((vV p0 p1)>>=fun y1=>(pE p0 p1)>>=fun y2=>(jJ y2.1 y1.1)>>=fun y3=>(some (if (!y3)=true then true else (!decide (y2.2.1=y1.2.1))))>>=fun y4=>(some (if y4=true then true else (!(y2.2.2==y1.2.2))))>>=fun y5=>if y5=true then (some false) else ((xW y2.1 1)>>=fun y6=>(pX (aB.mk y2.1.kind y2.1.op y2.1.not_ y2.1.value y2.1.up y2.1.at_ y6.2.1 y6.2.2) 1)>>=fun y7=>if (decide (y7<0))=true then (some false) else (if (!decide (y7=y6.1))=true then (some false) else ((pE p0 p1)>>=fun y8=>(jJ y8.1 y1.1)>>=fun y9=>(some (if (!y9)=true then true else (!decide (y8.2.1=y1.2.1))))>>=fun y10=>(some (if y10=true then true else (!(y8.2.2==y1.2.2))))>>=fun y11=>if y11=true then (some false) else ((pX (aB.mk y2.1.kind y2.1.op y2.1.not_ y2.1.value y2.1.up y2.1.at_ y6.2.1 y6.2.2) 1)>>=fun y12=>if (decide (y12<0))=true then (some false) else (if (!decide (y12=y6.1))=true then (some false) else (some true)))))))
end Go.Ab
