/- The functions of the program,as Lean functions (printed by a program). -/
import Derived.Test.YthlahiakloldbaaAbF0
namespace Go.Ab
open Go
structure eD where
  kind:Int
  num:Int
  text:(List UInt8)
instance:Inhabited eD:=⟨(eD.mk 0 0 [])⟩
mutual
structure aB where
  kind:Int
  op:Int
  not_:Bool
  value:eD
  up:Int
  at_:Int
  kids:(List aB)
  sub:(List aU)
structure bC where
  expr:aB
  desc:Bool
structure aU where
  tables:(List Int)
  on_:(List (List aB))
  where_:(List aB)
  order:(List bC)
  items:(List aB)
  names:(List (List UInt8))
  distinct:Bool
  limit:Int
end
instance:Inhabited aB:=⟨(aB.mk 0 0 false (eD.mk 0 0 []) 0 0 [] [])⟩
instance:Inhabited bC:=⟨(bC.mk (aB.mk 0 0 false (eD.mk 0 0 []) 0 0 [] []) false)⟩
instance:Inhabited aU:=⟨(aU.mk [] [] [] [] [] [] false 0)⟩
structure aL where
  s:(List UInt8)
  at_:Int
  bad:Bool
instance:Inhabited aL:=⟨(aL.mk [] 0 false)⟩
structure aJ where
  s:(List UInt8)
  at_:Int
  failed:Bool
instance:Inhabited aJ:=⟨(aJ.mk [] 0 false)⟩
def okGValue (x:eD):Prop:=okI x.kind∧okI x.num∧okS x.text
mutual
def okGPExpr:aB→Prop
  | ⟨a0,a1,a2,a3,a4,a5,a6,a7⟩=>okI a0∧okI a1∧okB a2∧okGValue a3∧okI a4∧okI a5∧(a6.length≤9223372036854775807∧okLGPExpr a6)∧(a7.length≤9223372036854775807∧okLGPlan a7)
def okGPSort:bC→Prop
  | ⟨a0,a1⟩=>okGPExpr a0∧okB a1
def okGPlan:aU→Prop
  | ⟨a0,a1,a2,a3,a4,a5,a6,a7⟩=>(okL okI) a0∧(a1.length≤9223372036854775807∧okLLGPExpr a1)∧(a2.length≤9223372036854775807∧okLGPExpr a2)∧(a3.length≤9223372036854775807∧okLGPSort a3)∧(a4.length≤9223372036854775807∧okLGPExpr a4)∧(okL okS) a5∧okB a6∧okI a7
def okLGPExpr:List aB→Prop
  | []=>True
  | x::l=>okGPExpr x∧okLGPExpr l
def okLGPSort:List bC→Prop
  | []=>True
  | x::l=>okGPSort x∧okLGPSort l
def okLGPlan:List aU→Prop
  | []=>True
  | x::l=>okGPlan x∧okLGPlan l
def okLLGPExpr:List (List aB)→Prop
  | []=>True
  | x::l=>(x.length≤9223372036854775807∧okLGPExpr x)∧okLLGPExpr l
end
def okGL24In (x:aL):Prop:=okS x.s∧okI x.at_∧okB x.bad
def okGReader (x:aJ):Prop:=okS x.s∧okI x.at_∧okB x.failed
def qC (p0:(List UInt8)) (p1:Int):Option (aJ×Bool) :=
  (some (if (decide ((p0.length:Int)≤20000))=true then (decide (0≤p1)) else false))>>=fun y1=>(some (if y1=true then (decide (p1≤(p0.length:Int))) else false))>>=fun y2=>some ((aJ.mk p0 p1 false),y2)
def sI (y1:Int×aJ) (bA:Bool):Option (Int×aJ) :=
  if bA=true then (some (0,(aJ.mk y1.2.s y1.2.at_ bA))) else (some (y1.1,(aJ.mk y1.2.s y1.2.at_ bA)))
def qW (x0:Int) (x3:(List Int)):Option (List UInt8) :=
  if (decide (128≤x0))=true then ((appG 1 x3 ([(IntKind.wrap .u8 ((BitVec.ofInt (IntKind.bits .u8) (IntKind.wrap .u8 x0) ||| BitVec.ofInt (IntKind.bits .u8) 128).toNat:Int))]:List Int))>>=fun y1=>qW (Int.fdiv x0 (2 ^ 7)) y1) else ((appG 1 x3 ([(IntKind.wrap .u8 x0)]:List Int))>>=fun y2=>(ofBytes y2)>>=fun y3=>some y3)
  partial_fixpoint
def yM (p0:Int):Option (List UInt8) :=
  qW p0 ([]:List Int)
def nI (p0:(List UInt8)) (p1:Int) (x7:Int) (x8:Int):Option (Int×Int×Bool) :=
  (some (if (decide (x8<(p0.length:Int)))=true then (decide (x8<(IntKind.wrap .i64 (p1+10)))) else false))>>=fun y1=>if y1=true then ((uI p0 x8)>>=fun y2=>(yH .u64 (IntKind.wrap .u64 (IntKind.wrap .u8 ((BitVec.ofInt (IntKind.bits .u8) y2 &&& BitVec.ofInt (IntKind.bits .u8) 127).toNat:Int))) (IntKind.wrap .i64 (7 * (IntKind.wrap .i64 (x8 - p1)))))>>=fun y3=>(uI p0 x8)>>=fun y4=>if (decide (y4<128))=true then ((yM (IntKind.wrap .u64 ((BitVec.ofInt (IntKind.bits .u64) x7 ||| BitVec.ofInt (IntKind.bits .u64) y3).toNat:Int)))>>=fun y5=>(lV p0 p1 (IntKind.wrap .i64 (x8+1)))>>=fun y6=>if (!decide (y5=y6))=true then (some (0,0,false)) else (some ((IntKind.wrap .u64 ((BitVec.ofInt (IntKind.bits .u64) x7 ||| BitVec.ofInt (IntKind.bits .u64) y3).toNat:Int)),(IntKind.wrap .i64 (x8+1)),true))) else (nI p0 p1 (IntKind.wrap .u64 ((BitVec.ofInt (IntKind.bits .u64) x7 ||| BitVec.ofInt (IntKind.bits .u64) y3).toNat:Int)) (IntKind.wrap .i64 (x8+1)))) else (some (0,0,false))
  partial_fixpoint
def yY (p0:(List UInt8)) (p1:Int):Option (Int×Int×Bool) :=
  if (decide (p1<0))=true then (some (0,0,false)) else (nI p0 p1 0 p1)
def xG (p0:Int):Option Int :=
  some (IntKind.wrap .i64 ((BitVec.ofInt (IntKind.bits .i64) (IntKind.wrap .i64 (Int.fdiv p0 (2 ^ 1))) ^^^ BitVec.ofInt (IntKind.bits .i64) (IntKind.wrap .i64 (0 - (IntKind.wrap .i64 (IntKind.wrap .u64 ((BitVec.ofInt (IntKind.bits .u64) p0 &&& BitVec.ofInt (IntKind.bits .u64) 1).toNat:Int)))))).toNat:Int))
def eB (p0:aJ):Option (Int×aJ) :=
  (yY p0.s p0.at_)>>=fun y1=>(some (if p0.failed=true then true else (!y1.2.2)))>>=fun y2=>if y2=true then (some (0,(aJ.mk p0.s p0.at_ true))) else ((xG y1.1)>>=fun y3=>some (y3,(aJ.mk p0.s y1.2.1 p0.failed)))
def gU (p0:aJ):Option (Int×aJ) :=
  (eB p0)>>=fun y1=>(some (if (decide (y1.1<0))=true then true else (decide ((IntKind.wrap .i64 ((y1.2.s.length:Int) - y1.2.at_))<y1.1))))>>=fun y2=>if y2=true then (sI y1 true) else (sI y1 y1.2.failed)
def fI (p0:aJ):Option (Bool×aJ) :=
  (eB p0)>>=fun y1=>(if (true&&(y1.2.failed==false))=true then some (if (!decide (y1.1=0))=true then (!decide (y1.1=1)) else false) else some default)>>=fun y2=>(some (if y1.2.failed=true then true else y2))>>=fun y3=>some ((decide (y1.1=1)),(aJ.mk y1.2.s y1.2.at_ y3))
def jN (p0:aJ):Option ((List UInt8)×aJ) :=
  (gU p0)>>=fun y1=>(lV y1.2.s (IntKind.wrap .i64 ((IntKind.wrap .i64 (y1.2.at_+y1.1)) - y1.1)) (IntKind.wrap .i64 (y1.2.at_+y1.1)))>>=fun y2=>some (y2,(aJ.mk y1.2.s (IntKind.wrap .i64 (y1.2.at_+y1.1)) y1.2.failed))
def G7 (c0_0:(List Int)) (c0_6:Bool) (c0_7:Int) (c2:aJ):Option (Bool×Int×aJ×(List Int)) :=
  (eB c2)>>=fun y1=>(appG 8 c0_0 ([y1.1]:List Int))>>=fun y2=>some (c0_6,c0_7,y1.2,y2)
def qU (x4:Int) (bF:(List UInt8)) (bD:Int) (bA:Bool) (cZ:Bool) (eH:Int) (dJ:(List Int)):Option (aJ×Bool×Int×(List Int)) :=
  (some (if (decide (0<x4))=true then (!bA) else false))>>=fun y2=>if y2=true then ((G7 dJ cZ eH (aJ.mk bF bD bA))>>=fun y3=>qU (IntKind.wrap .i64 (x4 - 1)) y3.2.2.1.s y3.2.2.1.at_ y3.2.2.1.failed y3.1 y3.2.1 y3.2.2.2) else (some ((aJ.mk bF bD bA),cZ,eH,dJ))
  partial_fixpoint
def zK (p0:aJ) (c1_6:Bool) (c1_7:Int):Option (aJ×Bool×Int×(List Int)) :=
  (gU p0)>>=fun y1=>qU y1.1 y1.2.s y1.2.at_ y1.2.failed c1_6 c1_7 ([]:List Int)
def J5 (c0_0:(List Int)) (c0_1:(List (List aB))) (c0_2:(List aB)) (c0_3:(List bC)) (c0_4:(List aB)) (c0_5:(List (List UInt8))) (c0_6:Bool) (c0_7:Int) (c2:aJ):Option (Bool×Int×aJ×(List (List UInt8))) :=
  (jN c2)>>=fun y1=>(appG 16 c0_5 ([y1.1]:List (List UInt8)))>>=fun y2=>some (c0_6,c0_7,y1.2,y2)
def qY (c1_0:(List Int)) (c1_1:(List (List aB))) (c1_2:(List aB)) (c1_3:(List bC)) (c1_4:(List aB)) (x4:Int) (bF:(List UInt8)) (bD:Int) (bA:Bool) (cZ:Bool) (eH:Int) (dJ:(List (List UInt8))):Option (aJ×Bool×Int×(List (List UInt8))) :=
  (some (if (decide (0<x4))=true then (!bA) else false))>>=fun y2=>if y2=true then ((J5 c1_0 c1_1 c1_2 c1_3 c1_4 dJ cZ eH (aJ.mk bF bD bA))>>=fun y3=>qY c1_0 c1_1 c1_2 c1_3 c1_4 (IntKind.wrap .i64 (x4 - 1)) y3.2.2.1.s y3.2.2.1.at_ y3.2.2.1.failed y3.1 y3.2.1 y3.2.2.2) else (some ((aJ.mk bF bD bA),cZ,eH,dJ))
  partial_fixpoint
def kN (p0:aJ) (c1_0:(List Int)) (c1_1:(List (List aB))) (c1_2:(List aB)) (c1_3:(List bC)) (c1_4:(List aB)) (c1_6:Bool) (c1_7:Int):Option (aJ×Bool×Int×(List (List UInt8))) :=
  (gU p0)>>=fun y1=>qY c1_0 c1_1 c1_2 c1_3 c1_4 y1.1 y1.2.s y1.2.at_ y1.2.failed c1_6 c1_7 ([]:List (List UInt8))
mutual
def zH (c0_0:(List Int)) (c0_1:(List (List aB))) (c0_2:(List aB)) (c0_3:(List bC)) (c0_6:Bool) (c0_7:Int) (c2:aJ):Option (Bool×Int×aJ×(List bC)) :=
  (oM c2)>>=fun y1=>(fI y1.2)>>=fun y2=>(appG 128 c0_3 ([(bC.mk y1.1 y2.1)]:List bC))>>=fun y3=>some (c0_6,c0_7,y2.2,y3)
  partial_fixpoint
def uT (c1_0:(List Int)) (c1_1:(List (List aB))) (c1_2:(List aB)) (x4:Int) (bF:(List UInt8)) (bD:Int) (dR:(Bool×(Bool×(Int×(List bC))))):Option (aJ×Bool×Int×(List bC)) :=
  (some (if (decide (0<x4))=true then (!dR.1) else false))>>=fun y2=>if y2=true then ((zH c1_0 c1_1 c1_2 dR.2.2.2 dR.2.1 dR.2.2.1 (aJ.mk bF bD dR.1))>>=fun y3=>uT c1_0 c1_1 c1_2 (IntKind.wrap .i64 (x4 - 1)) y3.2.2.1.s y3.2.2.1.at_ (y3.2.2.1.failed,(y3.1,(y3.2.1,y3.2.2.2)))) else (some ((aJ.mk bF bD dR.1),dR.2.1,dR.2.2.1,dR.2.2.2))
  partial_fixpoint
def nS (p0:aJ) (c1_0:(List Int)) (c1_1:(List (List aB))) (c1_2:(List aB)) (c1_6:Bool) (c1_7:Int):Option (aJ×Bool×Int×(List bC)) :=
  (gU p0)>>=fun y1=>uT c1_0 c1_1 c1_2 y1.1 y1.2.s y1.2.at_ (y1.2.failed,(c1_6,(c1_7,([]:List bC))))
  partial_fixpoint
def Q3 (c0_0:(List Int)) (c0_1:(List (List aB))) (c0_6:Bool) (c0_7:Int) (c2:aJ):Option (Bool×Int×aJ×(List (List aB))) :=
  (iL c2)>>=fun y1=>(appG 24 c0_1 ([y1.1]:List (List aB)))>>=fun y2=>some (c0_6,c0_7,y1.2,y2)
  partial_fixpoint
def uE (c1_0:(List Int)) (x4:Int) (bF:(List UInt8)) (bD:Int) (bA:Bool) (cZ:Bool) (gK:(Int×(List (List aB)))):Option (aJ×Bool×Int×(List (List aB))) :=
  (some (if (decide (0<x4))=true then (!bA) else false))>>=fun y2=>if y2=true then ((Q3 c1_0 gK.2 cZ gK.1 (aJ.mk bF bD bA))>>=fun y3=>uE c1_0 (IntKind.wrap .i64 (x4 - 1)) y3.2.2.1.s y3.2.2.1.at_ y3.2.2.1.failed y3.1 (y3.2.1,y3.2.2.2)) else (some ((aJ.mk bF bD bA),cZ,gK.1,gK.2))
  partial_fixpoint
def uB (p0:aJ) (c1_0:(List Int)) (c1_6:Bool) (c1_7:Int):Option (aJ×Bool×Int×(List (List aB))) :=
  (gU p0)>>=fun y1=>uE c1_0 y1.1 y1.2.s y1.2.at_ y1.2.failed c1_6 (c1_7,([]:List (List aB)))
  partial_fixpoint
def Q9 (c0_0:Int) (c0_1:Int) (c0_2:Bool) (c0_3:Int) (c0_4:Int) (c0_5:(List UInt8)) (kc0_6:(Int×(Int×((List aB)×((List aU)×aJ))))):Option (Int×Int×Bool×Int×Int×(List UInt8)×Int×Int×aJ×(List aU)) :=
  (oJ kc0_6.2.2.2.2)>>=fun y1=>(appG 160 kc0_6.2.2.2.1 ([y1.1]:List aU))>>=fun y2=>some (c0_0,c0_1,c0_2,c0_3,c0_4,c0_5,kc0_6.1,kc0_6.2.1,y1.2,y2)
  partial_fixpoint
def vE (c1_8:(List aB)) (x4:Int) (bF:(List UInt8)) (bD:Int) (bA:Bool) (iW:Int) (bU:(Int×(Bool×(Int×(Int×((List UInt8)×(Int×(Int×(List aU))))))))):Option (aJ×Int×Int×Bool×Int×Int×(List UInt8)×Int×Int×(List aU)) :=
  (some (if (decide (0<x4))=true then (!bA) else false))>>=fun y2=>if y2=true then ((Q9 iW bU.1 bU.2.1 bU.2.2.1 bU.2.2.2.1 bU.2.2.2.2.1 (bU.2.2.2.2.2.1,(bU.2.2.2.2.2.2.1,(c1_8,(bU.2.2.2.2.2.2.2,(aJ.mk bF bD bA))))))>>=fun y3=>vE c1_8 (IntKind.wrap .i64 (x4 - 1)) y3.2.2.2.2.2.2.2.2.1.s y3.2.2.2.2.2.2.2.2.1.at_ y3.2.2.2.2.2.2.2.2.1.failed y3.1 (y3.2.1,(y3.2.2.1,(y3.2.2.2.1,(y3.2.2.2.2.1,(y3.2.2.2.2.2.1,(y3.2.2.2.2.2.2.1,(y3.2.2.2.2.2.2.2.1,y3.2.2.2.2.2.2.2.2.2)))))))) else (some ((aJ.mk bF bD bA),iW,bU.1,bU.2.1,bU.2.2.1,bU.2.2.2.1,bU.2.2.2.2.1,bU.2.2.2.2.2.1,bU.2.2.2.2.2.2.1,bU.2.2.2.2.2.2.2))
  partial_fixpoint
def D9 (p0:aJ) (c1_0:Int) (c1_1:Int) (c1_2:Bool) (c1_3:Int) (c1_4:Int) (kc1_5:((List UInt8)×(Int×(Int×(List aB))))):Option (aJ×Int×Int×Bool×Int×Int×(List UInt8)×Int×Int×(List aU)) :=
  (gU p0)>>=fun y1=>vE kc1_5.2.2.2 y1.1 y1.2.s y1.2.at_ y1.2.failed c1_0 (c1_1,(c1_2,(c1_3,(c1_4,(kc1_5.1,(kc1_5.2.1,(kc1_5.2.2.1,([]:List aU))))))))
  partial_fixpoint
def oM (p0:aJ):Option (aB×aJ) :=
  (eB p0)>>=fun y1=>(eB y1.2)>>=fun y2=>(fI y2.2)>>=fun y3=>(eB y3.2)>>=fun y4=>(eB y4.2)>>=fun y5=>(jN y5.2)>>=fun y6=>(eB y6.2)>>=fun y7=>(eB y7.2)>>=fun y8=>(iL y8.2)>>=fun y9=>(D9 y9.2 y1.1 y2.1 y3.1 y4.1 y5.1 (y6.1,(y7.1,(y8.1,y9.1))))>>=fun y10=>some ((aB.mk y10.2.1 y10.2.2.1 y10.2.2.2.1 (eD.mk y10.2.2.2.2.1 y10.2.2.2.2.2.1 y10.2.2.2.2.2.2.1) y10.2.2.2.2.2.2.2.1 y10.2.2.2.2.2.2.2.2.1 y9.1 y10.2.2.2.2.2.2.2.2.2),y10.1)
  partial_fixpoint
def aA4 (c0_0:(List aB)) (c2:aJ):Option (aJ×(List aB)) :=
  (oM c2)>>=fun y1=>(appG 120 c0_0 ([(aB.mk 0 0 false (eD.mk 0 0 []) 0 0 [] [])]:List aB))>>=fun y2=>(idx y2 (c0_0.length:Int))>>=fun y3=>some (y1.2,(y2.set ((c0_0.length:Int)).toNat y1.1))
  partial_fixpoint
def sS (x4:Int) (bF:(List UInt8)) (bD:Int) (bA:Bool) (dJ:(List aB)):Option (aJ×(List aB)) :=
  (some (if (decide (0<x4))=true then (!bA) else false))>>=fun y2=>if y2=true then ((aA4 dJ (aJ.mk bF bD bA))>>=fun y3=>sS (IntKind.wrap .i64 (x4 - 1)) y3.1.s y3.1.at_ y3.1.failed y3.2) else (some ((aJ.mk bF bD bA),dJ))
  partial_fixpoint
def U6 (p0:aJ) (c1_0:(List aB)):Option (aJ×(List aB)) :=
  (gU p0)>>=fun y1=>sS y1.1 y1.2.s y1.2.at_ y1.2.failed c1_0
  partial_fixpoint
def iL (p0:aJ):Option ((List aB)×aJ) :=
  (U6 p0 ([]:List aB))>>=fun y1=>some (y1.2,y1.1)
  partial_fixpoint
def oJ (p0:aJ):Option (aU×aJ) :=
  (zK p0 false 0)>>=fun y1=>(uB y1.1 y1.2.2.2 y1.2.1 y1.2.2.1)>>=fun y2=>(iL y2.1)>>=fun y3=>(nS y3.2 y1.2.2.2 y2.2.2.2 y3.1 y2.2.1 y2.2.2.1)>>=fun y4=>(iL y4.1)>>=fun y5=>(kN y5.2 y1.2.2.2 y2.2.2.2 y3.1 y4.2.2.2 y5.1 y4.2.1 y4.2.2.1)>>=fun y6=>(fI y6.1)>>=fun y7=>(eB y7.2)>>=fun y8=>some ((aU.mk y1.2.2.2 y2.2.2.2 y3.1 y4.2.2.2 y5.1 y6.2.2.2 y7.1 y8.1),y8.2)
  partial_fixpoint
end
def pE (p0:(List UInt8)) (p1:Int):Option (aU×Int×Bool) :=
  (qC p0 p1)>>=fun y1=>if (!y1.2)=true then (some ((aU.mk ([]:List Int) ([]:List (List aB)) ([]:List aB) ([]:List bC) ([]:List aB) ([]:List (List UInt8)) false 0),0,false)) else ((oJ y1.1)>>=fun y2=>if y2.2.failed=true then (some ((aU.mk ([]:List Int) ([]:List (List aB)) ([]:List aB) ([]:List bC) ([]:List aB) ([]:List (List UInt8)) false 0),0,false)) else (some (y2.1,y2.2.at_,true)))
def rV (x0:Int) (x3:(List Int)):Option (List UInt8) :=
  if (decide (127<x0))=true then ((appG 1 x3 ([(IntKind.wrap .u8 (IntKind.wrap .u64 ((Int.tmod x0 128)+128)))]:List Int))>>=fun y1=>rV (IntKind.wrap .u64 (Int.tdiv x0 128)) y1) else ((appG 1 x3 ([(IntKind.wrap .u8 x0)]:List Int))>>=fun y2=>(ofBytes y2)>>=fun y3=>some y3)
  partial_fixpoint
def wM (p0:Int):Option (List UInt8) :=
  rV p0 ([]:List Int)
def nD (p0:(List UInt8)) (p1:Int) (x7:Int) (x8:Int):Option (Int×Int×Bool) :=
  (some (if (decide (x8<10))=true then (decide ((IntKind.wrap .i64 (p1+x8))<(p0.length:Int))) else false))>>=fun y2=>if y2=true then ((uI p0 (IntKind.wrap .i64 (p1+x8)))>>=fun y3=>(yH .u64 (Int.tmod (IntKind.wrap .u64 y3) 128) (IntKind.wrap .u64 (IntKind.wrap .i64 (7 * x8))))>>=fun y4=>if (decide ((IntKind.wrap .u64 y3)<128))=true then ((wM (IntKind.wrap .u64 (x7+y4)))>>=fun y5=>(lV p0 p1 (IntKind.wrap .i64 ((IntKind.wrap .i64 (p1+x8))+1)))>>=fun y6=>if (!decide (y5=y6))=true then (some (0,0,false)) else (some ((IntKind.wrap .u64 (x7+y4)),(IntKind.wrap .i64 ((IntKind.wrap .i64 (p1+x8))+1)),true))) else (nD p0 p1 (IntKind.wrap .u64 (x7+y4)) (IntKind.wrap .i64 (x8+1)))) else (some (0,0,false))
  partial_fixpoint
def kZ (p0:Int) (p1:Int) (p2:Int):Option Bool :=
  (some (if (decide (p1≤p0))=true then (decide (p0≤p2)) else false))>>=fun y1=>some y1
def wQ (p0:(List UInt8)) (p1:Int):Option (Int×Int×Bool) :=
  (kZ p1 0 (p0.length:Int))>>=fun y1=>if (!y1)=true then (some (0,0,false)) else (nD p0 p1 0 0)
def yO (p0:Int):Option Int :=
  if (decide ((Int.tmod p0 2)=1))=true then (some (IntKind.wrap .i64 ((IntKind.wrap .i64 (0 - (IntKind.wrap .i64 (IntKind.wrap .u64 (Int.tdiv p0 2))))) - 1))) else (some (IntKind.wrap .i64 (IntKind.wrap .u64 (Int.tdiv p0 2))))
def fJ (p0:aL):Option (Int×aL) :=
  if p0.bad=true then (some (0,p0)) else ((wQ p0.s p0.at_)>>=fun y1=>if (!y1.2.2)=true then (some (0,(aL.mk p0.s p0.at_ true))) else ((yO y1.1)>>=fun y2=>some (y2,(aL.mk p0.s y1.2.1 p0.bad))))
def pI (y1:Int×aL) (bA:Bool):Option (Bool×aL) :=
  some ((decide (y1.1=1)),(aL.mk y1.2.s y1.2.at_ bA))
def iC (p0:aL):Option (Bool×aL) :=
  (fJ p0)>>=fun y1=>(kZ y1.1 0 1)>>=fun y2=>if (!y2)=true then (pI y1 true) else (pI y1 y1.2.bad)
def fH (p0:aL):Option (Int×aL) :=
  (fJ p0)>>=fun y1=>(kZ y1.1 0 (IntKind.wrap .i64 ((y1.2.s.length:Int) - y1.2.at_)))>>=fun y2=>if (!y2)=true then (some (0,(aL.mk y1.2.s y1.2.at_ true))) else (some (y1.1,y1.2))
def jK (p0:aL):Option ((List UInt8)×aL) :=
  (fH p0)>>=fun y1=>if y1.2.bad=true then (some ([],y1.2)) else ((lV y1.2.s (IntKind.wrap .i64 ((IntKind.wrap .i64 (y1.2.at_+y1.1)) - y1.1)) (IntKind.wrap .i64 (y1.2.at_+y1.1)))>>=fun y2=>some (y2,(aL.mk y1.2.s (IntKind.wrap .i64 (y1.2.at_+y1.1)) y1.2.bad)))
def lY (y22:Int×aL) (bI:(List Int)) (bN:(List (List aB))) (y12:(List aB)×aL) (cO:(List bC)) (y21:(List aB)×aL) (x9:Int) (fT:(List (List UInt8))) (iV:(List UInt8)) (iX:Int) (fQ:Bool):Option (aU×aL) :=
  (some (if (decide (x9<y22.1))=true then (!fQ) else false))>>=fun y26=>if y26=true then ((jK (aL.mk iV iX fQ))>>=fun y27=>(appG 16 fT ([y27.1]:List (List UInt8)))>>=fun y28=>lY y22 bI bN y12 cO y21 (IntKind.wrap .i64 (x9+1)) y28 y27.2.s y27.2.at_ y27.2.bad) else ((iC (aL.mk iV iX fQ))>>=fun y29=>(fJ y29.2)>>=fun y30=>some ((aU.mk bI bN y12.1 cO y21.1 fT y29.1 y30.1),y30.2))
  partial_fixpoint
mutual
def mF (y13:Int×aL) (bI:(List Int)) (bN:(List (List aB))) (y12:(List aB)×aL) (x7:Int) (cO:(List bC)) (dY:((List UInt8)×(Int×Bool))):Option (aU×aL) :=
  (some (if (decide (x7<y13.1))=true then (!dY.2.2) else false))>>=fun y17=>if y17=true then ((oD (aL.mk dY.1 dY.2.1 dY.2.2))>>=fun y18=>(iC y18.2)>>=fun y19=>(appG 128 cO ([(bC.mk y18.1 y19.1)]:List bC))>>=fun y20=>mF y13 bI bN y12 (IntKind.wrap .i64 (x7+1)) y20 (y19.2.s,(y19.2.at_,y19.2.bad))) else ((kV (aL.mk dY.1 dY.2.1 dY.2.2))>>=fun y21=>(fH y21.2)>>=fun y22=>lY y22 bI bN y12 cO y21 0 ([]:List (List UInt8)) y22.2.s y22.2.at_ y22.2.bad)
  partial_fixpoint
def qZ (y10:Int×aL) (y1:Int×aL) (y2:Int×aL) (y3:Bool×aL) (y4:Int×aL) (y5:Int×aL) (ky6:(((List UInt8)×aL)×((Int×aL)×((Int×aL)×((((List aB)×aL)×(Int×((List aU)×((List UInt8)×(Int×Bool)))))))))):Option (aB×aL) :=
  (some (if (decide (ky6.2.2.2.2.1<y10.1))=true then (!ky6.2.2.2.2.2.2.2.2) else false))>>=fun y11=>if y11=true then ((mR (aL.mk ky6.2.2.2.2.2.2.1 ky6.2.2.2.2.2.2.2.1 ky6.2.2.2.2.2.2.2.2))>>=fun y12=>(appG 160 ky6.2.2.2.2.2.1 ([y12.1]:List aU))>>=fun y13=>qZ y10 y1 y2 y3 y4 y5 (ky6.1,(ky6.2.1,(ky6.2.2.1,(ky6.2.2.2.1,((IntKind.wrap .i64 (ky6.2.2.2.2.1+1)),(y13,(y12.2.s,(y12.2.at_,y12.2.bad))))))))) else (some ((aB.mk y1.1 y2.1 y3.1 (eD.mk y4.1 y5.1 ky6.1.1) ky6.2.1.1 ky6.2.2.1.1 ky6.2.2.2.1.1 ky6.2.2.2.2.2.1),(aL.mk ky6.2.2.2.2.2.2.1 ky6.2.2.2.2.2.2.2.1 ky6.2.2.2.2.2.2.2.2)))
  partial_fixpoint
def oD (p0:aL):Option (aB×aL) :=
  (fJ p0)>>=fun y1=>(fJ y1.2)>>=fun y2=>(iC y2.2)>>=fun y3=>(fJ y3.2)>>=fun y4=>(fJ y4.2)>>=fun y5=>(jK y5.2)>>=fun y6=>(fJ y6.2)>>=fun y7=>(fJ y7.2)>>=fun y8=>(kV y8.2)>>=fun y9=>(fH y9.2)>>=fun y10=>qZ y10 y1 y2 y3 y4 y5 (y6,(y7,(y8,(y9,(0,(([]:List aU),(y10.2.s,(y10.2.at_,y10.2.bad))))))))
  partial_fixpoint
def qD (y1:Int×aL) (x3:(List aB)) (x5:Int) (bF:(List UInt8)) (bD:Int) (bA:Bool):Option ((List aB)×aL) :=
  (some (if (decide (x5<y1.1))=true then (!bA) else false))>>=fun y2=>if y2=true then ((oD (aL.mk bF bD bA))>>=fun y3=>(appG 120 x3 ([y3.1]:List aB))>>=fun y4=>qD y1 y4 (IntKind.wrap .i64 (x5+1)) y3.2.s y3.2.at_ y3.2.bad) else (some (x3,(aL.mk bF bD bA)))
  partial_fixpoint
def kV (p0:aL):Option ((List aB)×aL) :=
  (fH p0)>>=fun y1=>qD y1 ([]:List aB) 0 y1.2.s y1.2.at_ y1.2.bad
  partial_fixpoint
def mZ (y5:Int×aL) (bI:(List Int)) (x6:Int) (bN:(List (List aB))) (iZ:(List UInt8)) (iY:Int) (fP:Bool):Option (aU×aL) :=
  (some (if (decide (x6<y5.1))=true then (!fP) else false))>>=fun y9=>if y9=true then ((kV (aL.mk iZ iY fP))>>=fun y10=>(appG 24 bN ([y10.1]:List (List aB)))>>=fun y11=>mZ y5 bI (IntKind.wrap .i64 (x6+1)) y11 y10.2.s y10.2.at_ y10.2.bad) else ((kV (aL.mk iZ iY fP))>>=fun y12=>(fH y12.2)>>=fun y13=>mF y13 bI bN y12 0 ([]:List bC) (y13.2.s,(y13.2.at_,y13.2.bad)))
  partial_fixpoint
def nW (y1:Int×aL) (x5:Int) (bI:(List Int)) (bF:(List UInt8)) (bD:Int) (bA:Bool):Option (aU×aL) :=
  (some (if (decide (x5<y1.1))=true then (!bA) else false))>>=fun y2=>if y2=true then ((fJ (aL.mk bF bD bA))>>=fun y3=>(appG 8 bI ([y3.1]:List Int))>>=fun y4=>nW y1 (IntKind.wrap .i64 (x5+1)) y4 y3.2.s y3.2.at_ y3.2.bad) else ((fH (aL.mk bF bD bA))>>=fun y5=>mZ y5 bI 0 ([]:List (List aB)) y5.2.s y5.2.at_ y5.2.bad)
  partial_fixpoint
def mR (p0:aL):Option (aU×aL) :=
  (fH p0)>>=fun y1=>nW y1 0 ([]:List Int) y1.2.s y1.2.at_ y1.2.bad
  partial_fixpoint
end
def tF (p0:(List UInt8)) (p1:Int):Option aL :=
  (if (true&&((decide (20000<(p0.length:Int)))==false))=true then kZ p1 0 (p0.length:Int) else some default)>>=fun y1=>(some (if (decide (20000<(p0.length:Int)))=true then true else (!y1)))>>=fun y2=>some (aL.mk p0 p1 y2)
def wK (p0:(List UInt8)) (p1:Int):Option (aU×Int×Bool) :=
  (tF p0 p1)>>=fun y1=>(mR y1)>>=fun y2=>if y2.2.bad=true then (some ((aU.mk ([]:List Int) ([]:List (List aB)) ([]:List aB) ([]:List bC) ([]:List aB) ([]:List (List UInt8)) false 0),0,false)) else (some (y2.1,y2.2.at_,true))
def xN (p0:(List Int)) (p1:(List Int)) (x5:Int):Option Bool :=
  if (decide (x5<(p0.length:Int)))=true then ((idx p0 x5)>>=fun y1=>(idx p1 x5)>>=fun y2=>if (!decide (y1=y2))=true then (some false) else (xN p0 p1 (IntKind.wrap .i64 (x5+1)))) else (some true)
  partial_fixpoint
def wT (p0:(List Int)) (p1:(List Int)):Option Bool :=
  if (!decide ((p0.length:Int)=(p1.length:Int)))=true then (some false) else (xN p0 p1 0)
def yE (p0:eD) (p1:eD):Option Bool :=
  if (!decide (p0.kind=p1.kind))=true then (some false) else (if (!decide (p0.num=p1.num))=true then (some false) else (if (!decide (p0.text=p1.text))=true then (some false) else (some true)))
def wP (p0:(List (List UInt8))) (p1:(List (List UInt8))) (x5:Int):Option Bool :=
  if (decide (x5<(p0.length:Int)))=true then ((idx p0 x5)>>=fun y1=>(idx p1 x5)>>=fun y2=>if (!decide (y1=y2))=true then (some false) else (wP p0 p1 (IntKind.wrap .i64 (x5+1)))) else (some true)
  partial_fixpoint
def yB (p0:(List (List UInt8))) (p1:(List (List UInt8))):Option Bool :=
  if (!decide ((p0.length:Int)=(p1.length:Int)))=true then (some false) else (wP p0 p1 0)
mutual
def qK (p0:bC) (p1:bC):Option Bool :=
  (lQ p0.expr p1.expr)>>=fun y1=>if (!y1)=true then (some false) else (if (!(p0.desc==p1.desc))=true then (some false) else (some true))
  partial_fixpoint
def J2 (p0:(List bC)) (p1:(List bC)) (x5:Int):Option Bool :=
  if (decide (x5<(p0.length:Int)))=true then ((idx p0 x5)>>=fun y1=>(idx p1 x5)>>=fun y2=>(qK y1 y2)>>=fun y3=>if (!y3)=true then (some false) else (J2 p0 p1 (IntKind.wrap .i64 (x5+1)))) else (some true)
  partial_fixpoint
def I7 (p0:(List bC)) (p1:(List bC)):Option Bool :=
  if (!decide ((p0.length:Int)=(p1.length:Int)))=true then (some false) else (J2 p0 p1 0)
  partial_fixpoint
def M3 (p0:(List (List aB))) (p1:(List (List aB))) (x5:Int):Option Bool :=
  if (decide (x5<(p0.length:Int)))=true then ((idx p0 x5)>>=fun y1=>(idx p1 x5)>>=fun y2=>(jO y1 y2)>>=fun y3=>if (!y3)=true then (some false) else (M3 p0 p1 (IntKind.wrap .i64 (x5+1)))) else (some true)
  partial_fixpoint
def zY (p0:(List (List aB))) (p1:(List (List aB))):Option Bool :=
  if (!decide ((p0.length:Int)=(p1.length:Int)))=true then (some false) else (M3 p0 p1 0)
  partial_fixpoint
def zV (p0:(List aU)) (p1:(List aU)) (x5:Int):Option Bool :=
  if (decide (x5<(p0.length:Int)))=true then ((idx p0 x5)>>=fun y1=>(idx p1 x5)>>=fun y2=>(nK y1 y2)>>=fun y3=>if (!y3)=true then (some false) else (zV p0 p1 (IntKind.wrap .i64 (x5+1)))) else (some true)
  partial_fixpoint
def E8 (p0:(List aU)) (p1:(List aU)):Option Bool :=
  if (!decide ((p0.length:Int)=(p1.length:Int)))=true then (some false) else (zV p0 p1 0)
  partial_fixpoint
def lQ (p0:aB) (p1:aB):Option Bool :=
  if (!decide (p0.kind=p1.kind))=true then (some false) else (if (!decide (p0.op=p1.op))=true then (some false) else (if (!(p0.not_==p1.not_))=true then (some false) else ((yE p0.value p1.value)>>=fun y1=>if (!y1)=true then (some false) else (if (!decide (p0.up=p1.up))=true then (some false) else (if (!decide (p0.at_=p1.at_))=true then (some false) else ((jO p0.kids p1.kids)>>=fun y2=>if (!y2)=true then (some false) else ((E8 p0.sub p1.sub)>>=fun y3=>if (!y3)=true then (some false) else (some true))))))))
  partial_fixpoint
def qE (p0:(List aB)) (p1:(List aB)) (x5:Int):Option Bool :=
  if (decide (x5<(p0.length:Int)))=true then ((idx p0 x5)>>=fun y1=>(idx p1 x5)>>=fun y2=>(lQ y1 y2)>>=fun y3=>if (!y3)=true then (some false) else (qE p0 p1 (IntKind.wrap .i64 (x5+1)))) else (some true)
  partial_fixpoint
def jO (p0:(List aB)) (p1:(List aB)):Option Bool :=
  if (!decide ((p0.length:Int)=(p1.length:Int)))=true then (some false) else (qE p0 p1 0)
  partial_fixpoint
def nK (p0:aU) (p1:aU):Option Bool :=
  (wT p0.tables p1.tables)>>=fun y1=>if (!y1)=true then (some false) else ((zY p0.on_ p1.on_)>>=fun y2=>if (!y2)=true then (some false) else ((jO p0.where_ p1.where_)>>=fun y3=>if (!y3)=true then (some false) else ((I7 p0.order p1.order)>>=fun y4=>if (!y4)=true then (some false) else ((jO p0.items p1.items)>>=fun y5=>if (!y5)=true then (some false) else ((yB p0.names p1.names)>>=fun y6=>if (!y6)=true then (some false) else (if (!(p0.distinct==p1.distinct))=true then (some false) else (if (!decide (p0.limit=p1.limit))=true then (some false) else (some true))))))))
  partial_fixpoint
end
def oL (p0:(List Int)) (x1:Int) (x5:Int):Option Int :=
  if (decide (x5<(p0.length:Int)))=true then ((idx p0 x5)>>=fun y1=>if (!decide (y1=x1))=true then (some (-1)) else (oL p0 (IntKind.wrap .i64 (x1+1)) (IntKind.wrap .i64 (x5+1)))) else (some x1)
  partial_fixpoint
def vR (p0:(List Int)) (p1:Int):Option Int :=
  oL p0 p1 0
def sV (x0:Int) (x3:(List UInt8)):Option (List UInt8) :=
  if (decide (0<x0))=true then ((ofBytes ([(IntKind.wrap .u8 (IntKind.wrap .i64 (48+(Int.tmod x0 10))))]:List Int))>>=fun y1=>(vX y1 x3)>>=fun y2=>sV (IntKind.wrap .i64 (Int.tdiv x0 10)) y2) else ((vX [109] x3)>>=fun y3=>some y3)
  partial_fixpoint
def jQ (p0:Int):Option (List UInt8) :=
  if (decide (p0≤0))=true then (some [109,48]) else (sV p0 [])
def pQ (p0:(List (List UInt8))) (x1:Int) (x5:Int):Option Int :=
  if (decide (x5<(p0.length:Int)))=true then ((idx p0 x5)>>=fun y1=>(jQ x1)>>=fun y2=>if (!decide (y1=y2))=true then (some (-1)) else (pQ p0 (IntKind.wrap .i64 (x1+1)) (IntKind.wrap .i64 (x5+1)))) else (some x1)
  partial_fixpoint
def wW (p0:(List (List UInt8))) (p1:Int):Option Int :=
  pQ p0 p1 0
mutual
def oH (p0:(List bC)) (x1:Int) (x5:Int):Option Int :=
  if (decide (x5<(p0.length:Int)))=true then ((idx p0 x5)>>=fun y1=>if (!decide (y1.expr.kind=x1))=true then (some (-1)) else ((idx p0 x5)>>=fun y2=>if (!decide (y2.expr.op=(IntKind.wrap .i64 (x1+1))))=true then (some (-1)) else ((idx p0 x5)>>=fun y3=>if (!(y3.expr.not_==(decide ((Int.tmod (IntKind.wrap .i64 ((IntKind.wrap .i64 (x1+1))+1)) 3)=0))))=true then (some (-1)) else ((idx p0 x5)>>=fun y4=>if (!decide (y4.expr.value.kind=(IntKind.wrap .i64 ((IntKind.wrap .i64 ((IntKind.wrap .i64 (x1+1))+1))+1))))=true then (some (-1)) else ((idx p0 x5)>>=fun y5=>if (!decide (y5.expr.value.num=(IntKind.wrap .i64 ((IntKind.wrap .i64 ((IntKind.wrap .i64 ((IntKind.wrap .i64 (x1+1))+1))+1))+1))))=true then (some (-1)) else ((idx p0 x5)>>=fun y6=>(jQ (IntKind.wrap .i64 ((IntKind.wrap .i64 ((IntKind.wrap .i64 ((IntKind.wrap .i64 ((IntKind.wrap .i64 (x1+1))+1))+1))+1))+1)))>>=fun y7=>if (!decide (y6.expr.value.text=y7))=true then (some (-1)) else ((idx p0 x5)>>=fun y8=>if (!decide (y8.expr.up=(IntKind.wrap .i64 ((IntKind.wrap .i64 ((IntKind.wrap .i64 ((IntKind.wrap .i64 ((IntKind.wrap .i64 ((IntKind.wrap .i64 (x1+1))+1))+1))+1))+1))+1))))=true then (some (-1)) else ((idx p0 x5)>>=fun y9=>if (!decide (y9.expr.at_=(IntKind.wrap .i64 ((IntKind.wrap .i64 ((IntKind.wrap .i64 ((IntKind.wrap .i64 ((IntKind.wrap .i64 ((IntKind.wrap .i64 ((IntKind.wrap .i64 (x1+1))+1))+1))+1))+1))+1))+1))))=true then (some (-1)) else ((idx p0 x5)>>=fun y10=>(nL y10.expr.kids (IntKind.wrap .i64 ((IntKind.wrap .i64 ((IntKind.wrap .i64 ((IntKind.wrap .i64 ((IntKind.wrap .i64 ((IntKind.wrap .i64 ((IntKind.wrap .i64 ((IntKind.wrap .i64 (x1+1))+1))+1))+1))+1))+1))+1))+1)))>>=fun y11=>if (decide (y11<0))=true then (some (-1)) else ((idx p0 x5)>>=fun y12=>(yL y12.expr.sub y11)>>=fun y13=>if (decide (y13<0))=true then (some (-1)) else ((idx p0 x5)>>=fun y14=>if (!(y14.desc==(decide ((Int.tmod y13 3)=0))))=true then (some (-1)) else (oH p0 (IntKind.wrap .i64 (y13+1)) (IntKind.wrap .i64 (x5+1)))))))))))))) else (some x1)
  partial_fixpoint
def uC (p0:(List bC)) (p1:Int):Option Int :=
  oH p0 p1 0
  partial_fixpoint
def qO (p0:(List (List aB))) (x1:Int) (x5:Int):Option Int :=
  if (decide (x5<(p0.length:Int)))=true then ((idx p0 x5)>>=fun y1=>(nL y1 x1)>>=fun y2=>if (decide (y2<0))=true then (some (-1)) else (qO p0 y2 (IntKind.wrap .i64 (x5+1)))) else (some x1)
  partial_fixpoint
def tN (p0:(List (List aB))) (p1:Int):Option Int :=
  qO p0 p1 0
  partial_fixpoint
def qV (p0:(List aU)) (x1:Int) (x5:Int):Option Int :=
  if (decide (x5<(p0.length:Int)))=true then ((idx p0 x5)>>=fun y1=>(vR y1.tables x1)>>=fun y2=>if (decide (y2<0))=true then (some (-1)) else ((idx p0 x5)>>=fun y3=>(tN y3.on_ y2)>>=fun y4=>if (decide (y4<0))=true then (some (-1)) else ((idx p0 x5)>>=fun y5=>(nL y5.where_ y4)>>=fun y6=>if (decide (y6<0))=true then (some (-1)) else ((idx p0 x5)>>=fun y7=>(uC y7.order y6)>>=fun y8=>if (decide (y8<0))=true then (some (-1)) else ((idx p0 x5)>>=fun y9=>(nL y9.items y8)>>=fun y10=>if (decide (y10<0))=true then (some (-1)) else ((idx p0 x5)>>=fun y11=>(wW y11.names y10)>>=fun y12=>if (decide (y12<0))=true then (some (-1)) else ((idx p0 x5)>>=fun y13=>if (!(y13.distinct==(decide ((Int.tmod y12 3)=0))))=true then (some (-1)) else ((idx p0 x5)>>=fun y14=>if (!decide (y14.limit=(IntKind.wrap .i64 (y12+1))))=true then (some (-1)) else (qV p0 (IntKind.wrap .i64 ((IntKind.wrap .i64 (y12+1))+1)) (IntKind.wrap .i64 (x5+1))))))))))) else (some x1)
  partial_fixpoint
def yL (p0:(List aU)) (p1:Int):Option Int :=
  qV p0 p1 0
  partial_fixpoint
def rJ (p0:(List aB)) (x1:Int) (x5:Int):Option Int :=
  if (decide (x5<(p0.length:Int)))=true then ((idx p0 x5)>>=fun y1=>if (!decide (y1.kind=x1))=true then (some (-1)) else ((idx p0 x5)>>=fun y2=>if (!decide (y2.op=(IntKind.wrap .i64 (x1+1))))=true then (some (-1)) else ((idx p0 x5)>>=fun y3=>if (!(y3.not_==(decide ((Int.tmod (IntKind.wrap .i64 ((IntKind.wrap .i64 (x1+1))+1)) 3)=0))))=true then (some (-1)) else ((idx p0 x5)>>=fun y4=>if (!decide (y4.value.kind=(IntKind.wrap .i64 ((IntKind.wrap .i64 ((IntKind.wrap .i64 (x1+1))+1))+1))))=true then (some (-1)) else ((idx p0 x5)>>=fun y5=>if (!decide (y5.value.num=(IntKind.wrap .i64 ((IntKind.wrap .i64 ((IntKind.wrap .i64 ((IntKind.wrap .i64 (x1+1))+1))+1))+1))))=true then (some (-1)) else ((idx p0 x5)>>=fun y6=>(jQ (IntKind.wrap .i64 ((IntKind.wrap .i64 ((IntKind.wrap .i64 ((IntKind.wrap .i64 ((IntKind.wrap .i64 (x1+1))+1))+1))+1))+1)))>>=fun y7=>if (!decide (y6.value.text=y7))=true then (some (-1)) else ((idx p0 x5)>>=fun y8=>if (!decide (y8.up=(IntKind.wrap .i64 ((IntKind.wrap .i64 ((IntKind.wrap .i64 ((IntKind.wrap .i64 ((IntKind.wrap .i64 ((IntKind.wrap .i64 (x1+1))+1))+1))+1))+1))+1))))=true then (some (-1)) else ((idx p0 x5)>>=fun y9=>if (!decide (y9.at_=(IntKind.wrap .i64 ((IntKind.wrap .i64 ((IntKind.wrap .i64 ((IntKind.wrap .i64 ((IntKind.wrap .i64 ((IntKind.wrap .i64 ((IntKind.wrap .i64 (x1+1))+1))+1))+1))+1))+1))+1))))=true then (some (-1)) else ((idx p0 x5)>>=fun y10=>(nL y10.kids (IntKind.wrap .i64 ((IntKind.wrap .i64 ((IntKind.wrap .i64 ((IntKind.wrap .i64 ((IntKind.wrap .i64 ((IntKind.wrap .i64 ((IntKind.wrap .i64 ((IntKind.wrap .i64 (x1+1))+1))+1))+1))+1))+1))+1))+1)))>>=fun y11=>if (decide (y11<0))=true then (some (-1)) else ((idx p0 x5)>>=fun y12=>(yL y12.sub y11)>>=fun y13=>if (decide (y13<0))=true then (some (-1)) else (rJ p0 y13 (IntKind.wrap .i64 (x5+1))))))))))))) else (some x1)
  partial_fixpoint
def nL (p0:(List aB)) (p1:Int):Option Int :=
  rJ p0 p1 0
  partial_fixpoint
end
def rH (p0:aU) (p1:Int):Option Int :=
  (vR p0.tables p1)>>=fun y1=>if (decide (y1<0))=true then (some (-1)) else ((tN p0.on_ y1)>>=fun y2=>if (decide (y2<0))=true then (some (-1)) else ((nL p0.where_ y2)>>=fun y3=>if (decide (y3<0))=true then (some (-1)) else ((uC p0.order y3)>>=fun y4=>if (decide (y4<0))=true then (some (-1)) else ((nL p0.items y4)>>=fun y5=>if (decide (y5<0))=true then (some (-1)) else ((wW p0.names y5)>>=fun y6=>if (decide (y6<0))=true then (some (-1)) else (some y6))))))
def oZ (x1:Int) (x5:Int) (aP:(List Int)):Option (Int×(List Int)) :=
  if (decide (x5<(aP.length:Int)))=true then ((idx aP x5)>>=fun y1=>oZ (IntKind.wrap .i64 (x1+1)) (IntKind.wrap .i64 (x5+1)) (aP.set (x5).toNat x1)) else (some (x1,aP))
  partial_fixpoint
def qQ (p0:(List Int)) (p1:Int):Option (Int×(List Int)) :=
  oZ p1 0 p0
def oO (x1:Int) (x5:Int) (aP:(List (List UInt8))):Option (Int×(List (List UInt8))) :=
  if (decide (x5<(aP.length:Int)))=true then ((jQ x1)>>=fun y1=>(idx aP x5)>>=fun y2=>oO (IntKind.wrap .i64 (x1+1)) (IntKind.wrap .i64 (x5+1)) (aP.set (x5).toNat y1)) else (some (x1,aP))
  partial_fixpoint
def qR (p0:(List (List UInt8))) (p1:Int):Option (Int×(List (List UInt8))) :=
  oO p1 0 p0
mutual
def oQ (x1:Int) (x5:Int) (aP:(List bC)):Option (Int×(List bC)) :=
  if (decide (x5<(aP.length:Int)))=true then ((idx aP x5)>>=fun y1=>(jQ (IntKind.wrap .i64 ((IntKind.wrap .i64 ((IntKind.wrap .i64 ((IntKind.wrap .i64 ((IntKind.wrap .i64 (x1+1))+1))+1))+1))+1)))>>=fun y2=>(kT y1.expr.kids (IntKind.wrap .i64 ((IntKind.wrap .i64 ((IntKind.wrap .i64 ((IntKind.wrap .i64 ((IntKind.wrap .i64 ((IntKind.wrap .i64 ((IntKind.wrap .i64 ((IntKind.wrap .i64 (x1+1))+1))+1))+1))+1))+1))+1))+1)))>>=fun y3=>(xP y1.expr.sub y3.1)>>=fun y4=>oQ (IntKind.wrap .i64 (y4.1+1)) (IntKind.wrap .i64 (x5+1)) (aP.set (x5).toNat (bC.mk (aB.mk x1 (IntKind.wrap .i64 (x1+1)) (decide ((Int.tmod (IntKind.wrap .i64 ((IntKind.wrap .i64 (x1+1))+1)) 3)=0)) (eD.mk (IntKind.wrap .i64 ((IntKind.wrap .i64 ((IntKind.wrap .i64 (x1+1))+1))+1)) (IntKind.wrap .i64 ((IntKind.wrap .i64 ((IntKind.wrap .i64 ((IntKind.wrap .i64 (x1+1))+1))+1))+1)) y2) (IntKind.wrap .i64 ((IntKind.wrap .i64 ((IntKind.wrap .i64 ((IntKind.wrap .i64 ((IntKind.wrap .i64 ((IntKind.wrap .i64 (x1+1))+1))+1))+1))+1))+1)) (IntKind.wrap .i64 ((IntKind.wrap .i64 ((IntKind.wrap .i64 ((IntKind.wrap .i64 ((IntKind.wrap .i64 ((IntKind.wrap .i64 ((IntKind.wrap .i64 (x1+1))+1))+1))+1))+1))+1))+1)) y3.2 y4.2) (decide ((Int.tmod y4.1 3)=0))))) else (some (x1,aP))
  partial_fixpoint
def rQ (p0:(List bC)) (p1:Int):Option (Int×(List bC)) :=
  oQ p1 0 p0
  partial_fixpoint
def qJ (x1:Int) (x5:Int) (aP:(List aU)):Option (Int×(List aU)) :=
  if (decide (x5<(aP.length:Int)))=true then ((idx aP x5)>>=fun y1=>(qQ y1.tables x1)>>=fun y2=>(sN y1.on_ y2.1)>>=fun y3=>(kT y1.where_ y3.1)>>=fun y4=>(rQ y1.order y4.1)>>=fun y5=>(kT y1.items y5.1)>>=fun y6=>(qR y1.names y6.1)>>=fun y7=>qJ (IntKind.wrap .i64 ((IntKind.wrap .i64 (y7.1+1))+1)) (IntKind.wrap .i64 (x5+1)) (aP.set (x5).toNat (aU.mk y2.2 y3.2 y4.2 y5.2 y6.2 y7.2 (decide ((Int.tmod y7.1 3)=0)) (IntKind.wrap .i64 (y7.1+1))))) else (some (x1,aP))
  partial_fixpoint
def xP (p0:(List aU)) (p1:Int):Option (Int×(List aU)) :=
  qJ p1 0 p0
  partial_fixpoint
def qN (x1:Int) (x5:Int) (aP:(List aB)):Option (Int×(List aB)) :=
  if (decide (x5<(aP.length:Int)))=true then ((idx aP x5)>>=fun y1=>(jQ (IntKind.wrap .i64 ((IntKind.wrap .i64 ((IntKind.wrap .i64 ((IntKind.wrap .i64 ((IntKind.wrap .i64 (x1+1))+1))+1))+1))+1)))>>=fun y2=>(kT y1.kids (IntKind.wrap .i64 ((IntKind.wrap .i64 ((IntKind.wrap .i64 ((IntKind.wrap .i64 ((IntKind.wrap .i64 ((IntKind.wrap .i64 ((IntKind.wrap .i64 ((IntKind.wrap .i64 (x1+1))+1))+1))+1))+1))+1))+1))+1)))>>=fun y3=>(xP y1.sub y3.1)>>=fun y4=>qN y4.1 (IntKind.wrap .i64 (x5+1)) (aP.set (x5).toNat (aB.mk x1 (IntKind.wrap .i64 (x1+1)) (decide ((Int.tmod (IntKind.wrap .i64 ((IntKind.wrap .i64 (x1+1))+1)) 3)=0)) (eD.mk (IntKind.wrap .i64 ((IntKind.wrap .i64 ((IntKind.wrap .i64 (x1+1))+1))+1)) (IntKind.wrap .i64 ((IntKind.wrap .i64 ((IntKind.wrap .i64 ((IntKind.wrap .i64 (x1+1))+1))+1))+1)) y2) (IntKind.wrap .i64 ((IntKind.wrap .i64 ((IntKind.wrap .i64 ((IntKind.wrap .i64 ((IntKind.wrap .i64 ((IntKind.wrap .i64 (x1+1))+1))+1))+1))+1))+1)) (IntKind.wrap .i64 ((IntKind.wrap .i64 ((IntKind.wrap .i64 ((IntKind.wrap .i64 ((IntKind.wrap .i64 ((IntKind.wrap .i64 ((IntKind.wrap .i64 (x1+1))+1))+1))+1))+1))+1))+1)) y3.2 y4.2))) else (some (x1,aP))
  partial_fixpoint
def kT (p0:(List aB)) (p1:Int):Option (Int×(List aB)) :=
  qN p1 0 p0
  partial_fixpoint
def rU (x1:Int) (x5:Int) (aP:(List (List aB))):Option (Int×(List (List aB))) :=
  if (decide (x5<(aP.length:Int)))=true then ((idx aP x5)>>=fun y1=>(kT y1 x1)>>=fun y2=>rU y2.1 (IntKind.wrap .i64 (x5+1)) (aP.set (x5).toNat y2.2)) else (some (x1,aP))
  partial_fixpoint
def sN (p0:(List (List aB))) (p1:Int):Option (Int×(List (List aB))) :=
  rU p1 0 p0
  partial_fixpoint
end
def yN (p0:aU) (p1:Int):Option (Int×(List Int)×(List (List aB))×(List aB)×(List bC)×(List aB)×(List (List UInt8))) :=
  (qQ p0.tables p1)>>=fun y1=>(sN p0.on_ y1.1)>>=fun y2=>(kT p0.where_ y2.1)>>=fun y3=>(rQ p0.order y3.1)>>=fun y4=>(kT p0.items y4.1)>>=fun y5=>(qR p0.names y5.1)>>=fun y6=>some (y6.1,y1.2,y2.2,y3.2,y4.2,y5.2,y6.2)
def zC (p0:(List UInt8)) (p1:Int):Option Bool :=
  if (decide (1048576<(p0.length:Int)))=true then (some true) else ((wK p0 p1)>>=fun y1=>(pE p0 p1)>>=fun y2=>(nK y2.1 y1.1)>>=fun y3=>(some (if (!y3)=true then true else (!decide (y2.2.1=y1.2.1))))>>=fun y4=>(some (if y4=true then true else (!(y2.2.2==y1.2.2))))>>=fun y5=>if y5=true then (some false) else ((yN y2.1 1)>>=fun y6=>(rH (aU.mk y6.2.1 y6.2.2.1 y6.2.2.2.1 y6.2.2.2.2.1 y6.2.2.2.2.2.1 y6.2.2.2.2.2.2 y2.1.distinct y2.1.limit) 1)>>=fun y7=>if (decide (y7<0))=true then (some false) else (if (!decide (y7=y6.1))=true then (some false) else ((pE p0 p1)>>=fun y8=>(nK y8.1 y1.1)>>=fun y9=>(some (if (!y9)=true then true else (!decide (y8.2.1=y1.2.1))))>>=fun y10=>(some (if y10=true then true else (!(y8.2.2==y1.2.2))))>>=fun y11=>if y11=true then (some false) else ((rH (aU.mk y6.2.1 y6.2.2.1 y6.2.2.2.1 y6.2.2.2.2.1 y6.2.2.2.2.2.1 y6.2.2.2.2.2.2 y2.1.distinct y2.1.limit) 1)>>=fun y12=>if (decide (y12<0))=true then (some false) else (if (!decide (y12=y6.1))=true then (some false) else (some true)))))))
end Go.Ab
