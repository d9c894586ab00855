/- The functions of the program,as Lean functions (printed by a program). -/
import Derived.Test.YtfomfmjicgdebabGreatDoorAbF1
namespace Go.Ab
open Go
structure aZ where
  name:(List UInt8)
  type:Int
instance:Inhabited aZ:=⟨(aZ.mk [] 0)⟩
structure aQ where
  name:(List UInt8)
  cols:(List aZ)
instance:Inhabited aQ:=⟨(aQ.mk [] [])⟩
structure aR where
  tables:(List aQ)
instance:Inhabited aR:=⟨(aR.mk [])⟩
structure aA where
  kind:Int
  text:(List UInt8)
  at_:Int
instance:Inhabited aA:=⟨(aA.mk 0 [] 0)⟩
structure eB where
  list:(List aA)
  full:Bool
instance:Inhabited eB:=⟨(eB.mk [] false)⟩
structure aB where
  b:(List Int)
  i:Int
  h:Int
instance:Inhabited aB:=⟨(aB.mk [] 0 0)⟩
structure cK where
  t:(List aA)
  at_:Int
  bad:Bool
instance:Inhabited cK:=⟨(cK.mk [] 0 false)⟩
structure bZ where
  list:(List aA)
  at_:Int
  failed:Bool
instance:Inhabited bZ:=⟨(bZ.mk [] 0 false)⟩
def okGCol (x:aZ):Prop:=okS x.name∧okI x.type
def okGTable (x:aQ):Prop:=okS x.name∧(okL okGCol) x.cols
def okGCatalog (x:aR):Prop:=(okL okGTable) x.tables
def okGToken (x:aA):Prop:=okI x.kind∧okS x.text∧okI x.at_
def okGPrinter (x:eB):Prop:=(okL okGToken) x.list∧okB x.full
def okGL1Cur (x:aB):Prop:=(okL okU8) x.b∧okI x.i∧okI x.h
def okGL12In (x:cK):Prop:=(okL okGToken) x.t∧okI x.at_∧okB x.bad
def okGParser (x:bZ):Prop:=(okL okGToken) x.list∧okI x.at_∧okB x.failed
def aEc (p0:aZ) (c0_0:List UInt8):Option Bool :=
  some (decide (p0.name=c0_0))
def wX (p0:List aZ) (c0_0:List UInt8) (x8:Int):Option Int :=
  if (decide (x8<(p0.length:Int)))=true then ((idx p0 x8)>>=fun y1=>(aEc y1 c0_0)>>=fun y2=>if y2=true then (some x8) else (wX p0 c0_0 (IntKind.wrap .i64 (x8+1)))) else (some (-1))
  partial_fixpoint
def aD1 (p0:List aZ) (c0_0:List UInt8):Option Int :=
  wX p0 c0_0 0
def aB9 (p0:aQ) (p1:List UInt8):Option Int :=
  (aD1 p0.cols p1)>>=fun y1=>some y1
def qB (p0:List UInt8):Option Bool :=
  (some (if (decide (1≤(p0.length:Int)))=true then (decide ((p0.length:Int)≤20)) else false))>>=fun y1=>some y1
def xM (p0:aQ) (x8:Int):Option Bool :=
  if (decide (x8<(p0.cols.length:Int)))=true then ((idx p0.cols x8)>>=fun y1=>(qB y1.name)>>=fun y2=>(some (if (!y2)=true then true else (decide (y1.type<1))))>>=fun y3=>(some (if y3=true then true else (decide (3<y1.type))))>>=fun y4=>(if (true&&(y4==false))=true then aB9 p0 y1.name else some default)>>=fun y5=>(some (if y4=true then true else (!decide (y5=x8))))>>=fun y6=>if y6=true then (some false) else (xM p0 (IntKind.wrap .i64 (x8+1)))) else ((qB p0.name)>>=fun y7=>(some (if y7=true then (decide (1≤(p0.cols.length:Int))) else false))>>=fun y8=>(some (if y8=true then (decide ((p0.cols.length:Int)≤4)) else false))>>=fun y9=>some y9)
  partial_fixpoint
def V7 (p0:aQ):Option Bool :=
  xM p0 0
def aFq (p0:aQ) (c0_0:List UInt8):Option Bool :=
  some (decide (p0.name=c0_0))
def wV (p0:List aQ) (c0_0:List UInt8) (x8:Int):Option Int :=
  if (decide (x8<(p0.length:Int)))=true then ((idx p0 x8)>>=fun y1=>(aFq y1 c0_0)>>=fun y2=>if y2=true then (some x8) else (wV p0 c0_0 (IntKind.wrap .i64 (x8+1)))) else (some (-1))
  partial_fixpoint
def aE0 (p0:List aQ) (c0_0:List UInt8):Option Int :=
  wV p0 c0_0 0
def aB8 (p0:aR) (p1:List UInt8):Option Int :=
  (aE0 p0.tables p1)>>=fun y1=>some y1
def wP (p0:aR) (x8:Int):Option Bool :=
  if (decide (x8<(p0.tables.length:Int)))=true then ((idx p0.tables x8)>>=fun y1=>(V7 y1)>>=fun y2=>(if (true&&((!y2)==false))=true then aB8 p0 y1.name else some default)>>=fun y3=>(some (if (!y2)=true then true else (!decide (y3=x8))))>>=fun y4=>if y4=true then (some false) else (wP p0 (IntKind.wrap .i64 (x8+1)))) else (some (decide ((p0.tables.length:Int)≤4)))
  partial_fixpoint
def M9 (p0:aR):Option Bool :=
  wP p0 0
def R9 (p0:eB) (p1:Int) (p2:List UInt8):Option eB :=
  (appG 32 p0.list ([(aA.mk p1 p2 0)]:List aA))>>=fun y1=>some (eB.mk y1 p0.full)
def xK (p0:eB) (p1:List UInt8):Option eB :=
  (R9 p0 5 p1)>>=fun y1=>some y1
def M8 (p0:eB) (p1:Int):Option eB :=
  if (decide (0<p1))=true then ((xK p0 [44])>>=fun y1=>some y1) else (some p0)
def F5 (p0:eB) (p1:List UInt8):Option eB :=
  (R9 p0 2 p1)>>=fun y1=>some y1
def yA (p0:Int):Option (List UInt8) :=
  (some (if (decide (p0<0))=true then true else (decide (3<p0))))>>=fun y1=>if y1=true then (some []) else ((idx ([[65,78,89],[73,78,84],[84,69,88,84],[66,79,79,76]]:List (List UInt8)) p0)>>=fun y2=>some y2)
mutual
def wY (p0:aR) (x13:Int) (y1:aQ) (x30:Int) (kZ:List aA) (kY:Bool):Option (List aA) :=
  if (decide (x30<(y1.cols.length:Int)))=true then ((idx y1.cols x30)>>=fun y7=>(M8 (eB.mk kZ kY) x30)>>=fun y8=>(F5 y8 y7.name)>>=fun y9=>(yA y7.type)>>=fun y10=>(F5 y9 y10)>>=fun y11=>wY p0 x13 y1 (IntKind.wrap .i64 (x30+1)) y11.list y11.full) else ((xK (eB.mk kZ kY) [41])>>=fun y12=>wE p0 (IntKind.wrap .i64 (x13+1)) y12.list y12.full)
  partial_fixpoint
def wE (p0:aR) (x13:Int) (jR:List aA) (fP:Bool):Option (List aA) :=
  if (decide (x13<(p0.tables.length:Int)))=true then ((idx p0.tables x13)>>=fun y1=>(M8 (eB.mk jR fP) x13)>>=fun y2=>(F5 y2 y1.name)>>=fun y3=>(xK y3 [40])>>=fun y4=>wY p0 x13 y1 0 y4.list y4.full) else (some jR)
  partial_fixpoint
end
def aAb (p0:aR):Option (List aA) :=
  wE p0 0 ([]:List aA) false
def aC9 (c0_1:List Int):Option Int :=
  some (c0_1.length:Int)
def aEg (c0_1:List Int):Option ((List UInt8)×(List Int)) :=
  (ofBytes c0_1)>>=fun y=>some (y,c0_1)
def aFh (c0_1:List Int):Option Unit :=
  some ()
def Q3 (c0_1:List Int) (p1:List UInt8):Option (Int×(List Int)) :=
  (aFh c0_1)>>=fun y1=>(appG 1 c0_1 (dW p1))>>=fun y2=>some ((p1.length:Int),y2)
def kJ (p0:Int):Option Bool :=
  (some (if (decide (48≤p0))=true then (decide (p0≤57)) else false))>>=fun y1=>some y1
def fU (p0:List (List UInt8)) (p1:List UInt8) (x8:Int):Option Int :=
  if (decide (x8<(p0.length:Int)))=true then ((idx p0 x8)>>=fun y1=>if (decide (p1=y1))=true then (some x8) else (fU p0 p1 (IntKind.wrap .i64 (x8+1)))) else (some (-1))
  partial_fixpoint
def qX (p0:List (List UInt8)) (p1:List UInt8):Option Int :=
  fU p0 p1 0
def aEi (x3:List Int):Option (List UInt8) :=
  (ofBytes x3)>>=fun y3=>some y3
mutual
def A8 (p0:List UInt8) (x10:Int) (lW:List Int):Option (List UInt8) :=
  zM p0 (IntKind.wrap .i64 (x10+1)) lW
  partial_fixpoint
def zM (p0:List UInt8) (x10:Int) (gM:List Int):Option (List UInt8) :=
  if (decide (x10<((dW p0).length:Int)))=true then ((idx gM x10)>>=fun y1=>(some (if (decide (97≤y1))=true then (decide (y1≤122)) else false))>>=fun y2=>if y2=true then (A8 p0 x10 (gM.set (x10).toNat (IntKind.wrap .u8 ((IntKind.wrap .u8 (y1 - 97))+65)))) else (A8 p0 x10 (gM.set (x10).toNat y1))) else (aEi gM)
  partial_fixpoint
end
def xP (p0:List UInt8):Option (List UInt8) :=
  zM p0 0 (dW p0)
def aI0 (p0:List UInt8) (p1:List UInt8):Option (List (List UInt8)) :=
  aGt p0 p1
def aDp:Option (List (List UInt8)) :=
  (aI0 [83,69,76,69,67,84,32,68,73,83,84,73,78,67,84,32,70,82,79,77,32,74,79,73,78,32,79,78,32,87,72,69,82,69,32,79,82,68,69,82,32,66,89,32,65,83,67,32,68,69,83,67,32,76,73,77,73,84,32,65,83,32,65,78,68,32,79,82,32,78,79,84,32,73,83,32,73,78,32,66,69,84,87,69,69,78,32,69,88,73,83,84,83,32,78,85,76,76,32,84,82,85,69,32,70,65,76,83,69,32,73,78,83,69,82,84,32,73,78,84,79,32,86,65,76,85,69,83,32,85,80,68,65,84,69,32,83,69,84,32,68,69,76,69,84,69] [32])>>=fun y1=>some y1
def nJ (p0:List UInt8):Option Int :=
  (aDp)>>=fun y1=>(xP p0)>>=fun y2=>(qX y1 y2)>>=fun y3=>some (IntKind.wrap .i64 (y3+1))
def U9 (p0:Int):Option Bool :=
  (some (if (decide (97≤p0))=true then (decide (p0≤122)) else false))>>=fun y1=>(if (true&&(y1==false))=true then some (if (decide (65≤p0))=true then (decide (p0≤90)) else false) else some default)>>=fun y2=>(some (if y1=true then true else y2))>>=fun y3=>(some (if y3=true then true else (decide (p0=95))))>>=fun y4=>some y4
def vL (p0:Int):Option Bool :=
  (U9 p0)>>=fun y1=>(if (true&&(y1==false))=true then kJ p0 else some default)>>=fun y2=>(some (if y1=true then true else y2))>>=fun y3=>some y3
def qJ (p0:List UInt8) (x19:Int):Option Bool :=
  if (decide (x19<(p0.length:Int)))=true then ((dV p0 x19)>>=fun y7=>(vL y7)>>=fun y8=>if (!y8)=true then (some false) else (qJ p0 (IntKind.wrap .i64 (x19+1)))) else (some true)
  partial_fixpoint
def vJ (p0:List UInt8):Option Bool :=
  (qB p0)>>=fun y1=>(if (true&&((!y1)==false))=true then dV p0 0 else some default)>>=fun y2=>(if (true&&((!y1)==false))=true then kJ y2 else some default)>>=fun y3=>(some (if (!y1)=true then true else y3))>>=fun y4=>(if (true&&(y4==false))=true then nJ p0 else some default)>>=fun y5=>(some (if y4=true then true else (!decide (y5=0))))>>=fun y6=>if y6=true then (some false) else (qJ p0 0)
def aC8 (p0:List UInt8) (p1:List UInt8) (p2:List UInt8):Option (List UInt8) :=
  aDg p0 p1 p2
def O1 (p0:List UInt8) (p1:List UInt8):Option (List UInt8) :=
  (jU p1 p1)>>=fun y1=>(aC8 p0 p1 y1)>>=fun y2=>(jU p1 y2)>>=fun y3=>(jU y3 p1)>>=fun y4=>some y4
def yI (p0:List UInt8):Option (List UInt8) :=
  (qB p0)>>=fun y1=>if (!y1)=true then (some []) else ((vJ p0)>>=fun y2=>if y2=true then (some p0) else ((O1 p0 [34])>>=fun y3=>some y3))
def aBb (p0:List UInt8):Option (List UInt8) :=
  (O1 p0 [39])>>=fun y1=>some y1
def zF (p0:List UInt8):Option (Int×Bool) :=
  V4 p0
def aEo (p0:List (List UInt8)) (p1:List UInt8):Option Bool :=
  (qX p0 p1)>>=fun y1=>some (decide (0≤y1))
def zY:Option (List (List UInt8)) :=
  some ([[40],[41],[44],[46],[42],[43],[45],[47],[37],[61],[60,62],[60],[60,61],[62],[62,61],[124,124]]:List (List UInt8))
def aAu (p0:List UInt8):Option Bool :=
  (zY)>>=fun y1=>(aEo y1 p0)>>=fun y2=>some y2
def mU (p0:aA):Option Bool :=
  if (decide (p0.kind=1))=true then ((nJ p0.text)>>=fun y1=>(if (true&&((!decide (y1=0))==true))=true then xP p0.text else some default)>>=fun y2=>(some (if (!decide (y1=0))=true then (decide (y2=p0.text)) else false))>>=fun y3=>some y3) else (if (decide (p0.kind=2))=true then ((qB p0.text)>>=fun y4=>some y4) else (if (decide (p0.kind=3))=true then ((zF p0.text)>>=fun y5=>some y5.2) else (if (decide (p0.kind=4))=true then (some (decide ((p0.text.length:Int)≤40))) else (if (decide (p0.kind=5))=true then ((aAu p0.text)>>=fun y6=>some y6) else (some false)))))
def yN (p0:aA):Option (List UInt8) :=
  (mU p0)>>=fun y1=>if (!y1)=true then (some []) else (if (decide (p0.kind=2))=true then ((yI p0.text)>>=fun y2=>some y2) else (if (decide (p0.kind=4))=true then ((aBb p0.text)>>=fun y3=>some y3) else (some p0.text)))
def iV (p0:aA):Option Bool :=
  (if (true&&((decide (p0.kind=2))==true))=true then vJ p0.text else some default)>>=fun y1=>(some (if (decide (p0.kind=2))=true then (!y1) else false))>>=fun y2=>some y2
def iU (p0:aA):Option Bool :=
  (some (if (decide (p0.kind=1))=true then true else (decide (p0.kind=3))))>>=fun y1=>(if ((true&&(y1==false))&&((decide (p0.kind=2))==true))=true then vJ p0.text else some default)>>=fun y2=>(if (true&&(y1==false))=true then some (if (decide (p0.kind=2))=true then y2 else false) else some default)>>=fun y3=>(some (if y1=true then true else y3))>>=fun y4=>some y4
def rZ (p0:aA) (p1:aA):Option Bool :=
  (mU p0)>>=fun y1=>(if (true&&((!y1)==false))=true then mU p1 else some default)>>=fun y2=>(some (if (!y1)=true then true else (!y2)))>>=fun y3=>if y3=true then (some false) else ((iU p0)>>=fun y4=>(if (true&&(y4==true))=true then iU p1 else some default)>>=fun y5=>(some (if y4=true then y5 else false))>>=fun y6=>(if (true&&(y6==false))=true then iV p0 else some default)>>=fun y7=>(if ((true&&(y6==false))&&(y7==true))=true then iV p1 else some default)>>=fun y8=>(if (true&&(y6==false))=true then some (if y7=true then y8 else false) else some default)>>=fun y9=>(some (if y6=true then true else y9))>>=fun y10=>(if (true&&(y10==false))=true then some (if (decide (p0.kind=4))=true then (decide (p1.kind=4)) else false) else some default)>>=fun y11=>(some (if y10=true then true else y11))>>=fun y12=>if y12=true then (some true) else ((some (if (!decide (p0.kind=5))=true then true else (!decide (p1.kind=5))))>>=fun y13=>if y13=true then (some false) else (if (decide (p0.text=[45]))=true then (some (decide (p1.text=[45]))) else (if (decide (p0.text=[47]))=true then (some (decide (p1.text=[42]))) else (if (decide (p0.text=[60]))=true then ((dV p1.text 0)>>=fun y14=>(if (true&&((decide (y14=61))==false))=true then dV p1.text 0 else some default)>>=fun y15=>(some (if (decide (y14=61))=true then true else (decide (y15=62))))>>=fun y16=>some y16) else (if (decide (p0.text=[62]))=true then ((dV p1.text 0)>>=fun y17=>some (decide (y17=61))) else (some false)))))))
mutual
def C8 (p0:List aA) (x11:Int) (y1:aA) (mQ:List Int):Option (List UInt8) :=
  (yN y1)>>=fun y10=>(Q3 mQ y10)>>=fun y11=>vV p0 (IntKind.wrap .i64 (x11+1)) y11.2
  partial_fixpoint
def vV (p0:List aA) (x11:Int) (jD:List Int):Option (List UInt8) :=
  if (decide (x11<(p0.length:Int)))=true then ((idx p0 x11)>>=fun y1=>(mU y1)>>=fun y2=>if (!y2)=true then (some []) else ((if (true&&((decide (0<x11))==true))=true then idx p0 (IntKind.wrap .i64 (x11 - 1)) else some default)>>=fun y3=>(if (true&&((decide (0<x11))==true))=true then rZ y3 y1 else some default)>>=fun y4=>(some (if (decide (0<x11))=true then y4 else false))>>=fun y5=>if y5=true then ((Q3 jD [32])>>=fun y6=>C8 p0 x11 y1 y6.2) else (C8 p0 x11 y1 jD))) else ((aC9 jD)>>=fun y8=>if (decide (2000<y8))=true then (some []) else ((aEg jD)>>=fun y9=>some y9.1))
  partial_fixpoint
end
def aCz (p0:List aA):Option (List UInt8) :=
  vV p0 0 ([]:List Int)
def Z8 (p0:List aA):Option (List UInt8) :=
  (aCz p0)>>=fun y1=>some y1
def yX (p0:aR):Option (List UInt8) :=
  (M9 p0)>>=fun y1=>if (!y1)=true then (some []) else ((aAb p0)>>=fun y2=>(Z8 y2)>>=fun y3=>some y3)
mutual
def uQ (p0:List UInt8) (y1:Int) (x8:List Int) (lH:Int):Option ((List UInt8)×Int×Bool) :=
  (dV p0 lH)>>=fun y7=>(appG 1 x8 ([y7]:List Int))>>=fun y8=>nN p0 y1 y8 (IntKind.wrap .i64 (lH+1))
  partial_fixpoint
def nN (p0:List UInt8) (y1:Int) (x8:List Int) (x9:Int):Option ((List UInt8)×Int×Bool) :=
  if (decide (x9<(p0.length:Int)))=true then ((dV p0 x9)>>=fun y2=>if (decide (y2=y1))=true then ((if (true&&((decide ((IntKind.wrap .i64 (x9+1))=(p0.length:Int)))==false))=true then dV p0 (IntKind.wrap .i64 (x9+1)) else some default)>>=fun y3=>(some (if (decide ((IntKind.wrap .i64 (x9+1))=(p0.length:Int)))=true then true else (!decide (y3=y1))))>>=fun y4=>if y4=true then ((ofBytes x8)>>=fun y5=>some (y5,(IntKind.wrap .i64 (x9+1)),true)) else (uQ p0 y1 x8 (IntKind.wrap .i64 (x9+1)))) else (uQ p0 y1 x8 x9)) else (some ([],0,false))
  partial_fixpoint
end
def D9 (p0:List UInt8) (p1:Int):Option ((List UInt8)×Int×Bool) :=
  (dV p0 p1)>>=fun y1=>nN p0 y1 ([]:List Int) (IntKind.wrap .i64 (p1+1))
def iW (p1:Int) (xJ:Int) (dZ:Int) (uT:List UInt8):Option (aA×Int×Bool) :=
  (mU (aA.mk dZ uT p1))>>=fun y15=>some ((aA.mk dZ uT p1),xJ,y15)
def pU (p0:List UInt8) (p1:Int) (y1:Int) (x8:Int):Option (aA×Int×Bool) :=
  (if (true&&((decide (x8<(p0.length:Int)))==true))=true then dV p0 x8 else some default)>>=fun y8=>(if (true&&((decide (x8<(p0.length:Int)))==true))=true then vL y8 else some default)>>=fun y9=>(some (if (decide (x8<(p0.length:Int)))=true then y9 else false))>>=fun y10=>if y10=true then (pU p0 p1 y1 (IntKind.wrap .i64 (x8+1))) else ((eF p0 p1 x8)>>=fun y11=>(kJ y1)>>=fun y12=>if y12=true then (iW p1 x8 3 y11) else ((nJ y11)>>=fun y13=>if (!decide (y13=0))=true then ((xP y11)>>=fun y14=>iW p1 x8 1 y14) else (iW p1 x8 2 y11)))
  partial_fixpoint
def aGc (p0:List UInt8) (p1:List UInt8):Option Bool :=
  (if (true&&((decide ((p1.length:Int)≤(p0.length:Int)))==true))=true then eF p0 0 (p1.length:Int) else some default)>>=fun y1=>(some (if (decide ((p1.length:Int)≤(p0.length:Int)))=true then (decide (y1=p1)) else false))>>=fun y2=>some y2
def qL (p0:List UInt8) (p1:List UInt8):Option Bool :=
  (aGc p0 p1)>>=fun y1=>some y1
mutual
def F7 (p0:List UInt8) (p1:Int) (y6:List (List UInt8)) (x24:Int) (lY:List UInt8):Option (aA×Int×Bool) :=
  sQ p0 p1 y6 (IntKind.wrap .i64 (x24+1)) lY
  partial_fixpoint
def sQ (p0:List UInt8) (p1:Int) (y6:List (List UInt8)) (x24:Int) (jL:List UInt8):Option (aA×Int×Bool) :=
  if (decide (x24<(y6.length:Int)))=true then ((idx y6 x24)>>=fun y16=>(eF p0 p1 (p0.length:Int))>>=fun y17=>(qL y17 y16)>>=fun y18=>(some (if y18=true then (decide ((jL.length:Int)<(y16.length:Int))) else false))>>=fun y19=>if y19=true then (F7 p0 p1 y6 x24 y16) else (F7 p0 p1 y6 x24 jL)) else (iW p1 (IntKind.wrap .i64 (p1+(jL.length:Int))) 5 jL)
  partial_fixpoint
end
def oO (p0:List UInt8) (p1:Int):Option (aA×Int×Bool) :=
  (dV p0 p1)>>=fun y1=>(vL y1)>>=fun y2=>if y2=true then (pU p0 p1 y1 p1) else ((some (if (decide (y1=34))=true then true else (decide (y1=39))))>>=fun y3=>if y3=true then ((D9 p0 p1)>>=fun y4=>if (!y4.2.2)=true then (some ((aA.mk 0 [] 0),0,false)) else (if (decide (y1=39))=true then (iW p1 y4.2.1 4 y4.1) else (iW p1 y4.2.1 2 y4.1))) else ((zY)>>=fun y6=>sQ p0 p1 y6 0 []))
def U5 (p0:List UInt8) (p1:List UInt8):Option Int :=
  aDr p0 p1
def uV (p0:List UInt8) (p1:Int):Option Int :=
  some (Lib.indexByte p0 (p1).toNat.toUInt8)
def gQ (p0:List UInt8) (x1:Int):Option (Int×Bool) :=
  if (decide (x1<(p0.length:Int)))=true then ((eF p0 x1 (p0.length:Int))>>=fun y1=>(dV p0 x1)>>=fun y2=>(uV [32,9,10,13] y2)>>=fun y3=>if (decide (0≤y3))=true then (gQ p0 (IntKind.wrap .i64 (x1+1))) else ((qL y1 [45,45])>>=fun y4=>if y4=true then ((uV y1 10)>>=fun y5=>if (decide (y5<0))=true then (some ((p0.length:Int),true)) else (gQ p0 (IntKind.wrap .i64 (x1+(IntKind.wrap .i64 (y5+1)))))) else ((qL y1 [47,42])>>=fun y6=>if y6=true then ((eF y1 2 (y1.length:Int))>>=fun y7=>(U5 y7 [42,47])>>=fun y8=>if (decide (y8<0))=true then (some (x1,false)) else (gQ p0 (IntKind.wrap .i64 (x1+(IntKind.wrap .i64 (y8+4)))))) else (some (x1,true))))) else (some (x1,true))
  partial_fixpoint
def tY (p0:List UInt8) (p1:Int):Option (Int×Bool) :=
  gQ p0 p1
def oC (p0:List UInt8) (x4:List aA) (x5:Int):Option ((List aA)×Int) :=
  (tY p0 x5)>>=fun y1=>if (!y1.2)=true then (some (([]:List aA),y1.1)) else (if (decide (y1.1=(p0.length:Int)))=true then (some (x4,(-1))) else ((oO p0 y1.1)>>=fun y2=>if (!y2.2.2)=true then (some (([]:List aA),y1.1)) else ((appG 32 x4 ([y2.1]:List aA))>>=fun y3=>oC p0 y3 y2.2.1)))
  partial_fixpoint
def vK (p0:List UInt8):Option ((List aA)×Int) :=
  if (decide (2000<(p0.length:Int)))=true then (some (([]:List aA),2000)) else (oC p0 ([]:List aA) 0)
def U4 (p0:bZ) (p1:Int) (p2:Int) (p3:List UInt8):Option Bool :=
  (some (if (!p0.failed)=true then (decide ((IntKind.wrap .i64 (p0.at_+p1))<(p0.list.length:Int))) else false))>>=fun y1=>(if (true&&(y1==true))=true then idx p0.list (IntKind.wrap .i64 (p0.at_+p1)) else some default)>>=fun y2=>(some (if y1=true then (decide (y2.kind=p2)) else false))>>=fun y3=>(if (true&&(y3==true))=true then idx p0.list (IntKind.wrap .i64 (p0.at_+p1)) else some default)>>=fun y4=>(some (if y3=true then (decide (y4.text=p3)) else false))>>=fun y5=>some y5
def V5 (p0:bZ) (p1:List UInt8):Option Bool :=
  (U4 p0 0 5 p1)>>=fun y1=>some y1
def aAf (y1:Bool) (p0:bZ) (bD:Int):Option (Bool×bZ) :=
  some (y1,(bZ.mk p0.list bD p0.failed))
def Q6 (p0:bZ) (p1:List UInt8):Option (Bool×bZ) :=
  (V5 p0 p1)>>=fun y1=>if y1=true then (aAf y1 p0 (IntKind.wrap .i64 (p0.at_+1))) else (aAf y1 p0 p0.at_)
def vC (p0:bZ) (p1:List UInt8):Option bZ :=
  (Q6 p0 p1)>>=fun y1=>if (!y1.1)=true then (some (bZ.mk y1.2.list y1.2.at_ true)) else (some y1.2)
def U3 (p0:bZ) (p1:Int):Option Bool :=
  (some (if (!p0.failed)=true then (decide (p0.at_<(p0.list.length:Int))) else false))>>=fun y1=>(if (true&&(y1==true))=true then idx p0.list p0.at_ else some default)>>=fun y2=>(some (if y1=true then (decide (y2.kind=p1)) else false))>>=fun y3=>(if (true&&(y3==true))=true then idx p0.list p0.at_ else some default)>>=fun y4=>(if (true&&(y3==true))=true then mU y4 else some default)>>=fun y5=>(some (if y3=true then y5 else false))>>=fun y6=>some y6
def qA (p0:bZ) (p1:Int):Option ((List UInt8)×bZ) :=
  (U3 p0 p1)>>=fun y1=>if (!y1)=true then (some ([],(bZ.mk p0.list p0.at_ true))) else ((idx p0.list (IntKind.wrap .i64 ((IntKind.wrap .i64 (p0.at_+1)) - 1)))>>=fun y2=>some (y2.text,(bZ.mk p0.list (IntKind.wrap .i64 (p0.at_+1)) p0.failed)))
def aA1 (p0:aA) (p1:aA):Option Bool :=
  (some (if (decide (p0.kind=p1.kind))=true then (decide (p0.text=p1.text)) else false))>>=fun y1=>some y1
def uI (p1:List aA) (p0:List aA) (x17:Int):Option Bool :=
  if (decide (x17<(p0.length:Int)))=true then ((idx p0 x17)>>=fun y1=>(idx p1 x17)>>=fun y2=>(aA1 y1 y2)>>=fun y3=>if (!y3)=true then (some false) else (uI p1 p0 (IntKind.wrap .i64 (x17+1)))) else (some true)
  partial_fixpoint
def aBl (p0:List aA) (p1:List aA):Option Bool :=
  if (!decide ((p0.length:Int)=(p1.length:Int)))=true then (some false) else (uI p1 p0 0)
def X7 (p0:List aA) (p1:List aA):Option Bool :=
  (aBl p0 p1)>>=fun y1=>some y1
mutual
def oH (fK:List aA) (x8:Int) (bL:List aQ) (y13:(List UInt8)×bZ) (fP:List aZ) (lM:List aA) (lZ:Int) (lQ:Bool):Option (aR×Bool) :=
  (qA (bZ.mk lM lZ lQ) 2)>>=fun y18=>(qA y18.2 2)>>=fun y19=>(qX ([[],[73,78,84],[84,69,88,84],[66,79,79,76]]:List (List UInt8)) y19.1)>>=fun y20=>(appG 24 fP ([(aZ.mk y18.1 y20)]:List aZ))>>=fun y21=>(Q6 y19.2 [44])>>=fun y22=>if (!y22.1)=true then ((vC y22.2 [41])>>=fun y23=>(appG 40 bL ([(aQ.mk y13.1 y21)]:List aQ))>>=fun y24=>iX fK (IntKind.wrap .i64 (x8+1)) y24 y23.list y23.at_ y23.failed) else (oH fK x8 bL y13 y21 y22.2.list y22.2.at_ y22.2.failed)
  partial_fixpoint
def vP (x8:Int) (bL:List aQ) (fK:List aA) (mF:List aA) (mO:Int) (mP:Bool):Option (aR×Bool) :=
  (qA (bZ.mk mF mO mP) 2)>>=fun y13=>(vC y13.2 [40])>>=fun y14=>oH fK x8 bL y13 ([]:List aZ) y14.list y14.at_ y14.failed
  partial_fixpoint
def iX (x4:List aA) (x8:Int) (bL:List aQ) (kH:List aA) (jM:Int) (jA:Bool):Option (aR×Bool) :=
  (some (if (!jA)=true then (decide (jM<(x4.length:Int))) else false))>>=fun y2=>if y2=true then (if (decide (0<x8))=true then ((vC (bZ.mk kH jM jA) [44])>>=fun y3=>vP x8 bL x4 y3.list y3.at_ y3.failed) else (vP x8 bL x4 kH jM jA)) else ((if (true&&(jA==false))=true then M9 (aR.mk bL) else some default)>>=fun y8=>(some (if jA=true then true else (!y8)))>>=fun y9=>(if (true&&(y9==false))=true then aAb (aR.mk bL) else some default)>>=fun y10=>(if (true&&(y9==false))=true then X7 y10 x4 else some default)>>=fun y11=>(some (if y9=true then true else (!y11)))>>=fun y12=>if y12=true then (some ((aR.mk ([]:List aQ)),false)) else (some ((aR.mk bL),true)))
  partial_fixpoint
end
def sG (p0:List UInt8):Option (aR×Bool) :=
  (vK p0)>>=fun y1=>if (decide (0≤y1.2))=true then (some ((aR.mk ([]:List aQ)),false)) else (iX y1.1 0 ([]:List aQ) y1.1 0 false)
def vQ (p0:List aZ) (p1:List aZ) (x13:Int):Option Bool :=
  if (decide (x13<(p0.length:Int)))=true then ((idx p0 x13)>>=fun y1=>(idx p1 x13)>>=fun y2=>if (!((decide (y1.name=y2.name))&&((decide (y1.type=y2.type))&&true)))=true then (some false) else (vQ p0 p1 (IntKind.wrap .i64 (x13+1)))) else (some true)
  partial_fixpoint
def aAe (p0:List aZ) (p1:List aZ):Option Bool :=
  if (!decide ((p0.length:Int)=(p1.length:Int)))=true then (some false) else (vQ p0 p1 0)
def V6 (p0:aQ) (p1:aQ):Option Bool :=
  (if (true&&((decide (p0.name=p1.name))==true))=true then aAe p0.cols p1.cols else some default)>>=fun y1=>(some (if (decide (p0.name=p1.name))=true then y1 else false))>>=fun y2=>some y2
def uE (p1:List aQ) (p0:List aQ) (x17:Int):Option Bool :=
  if (decide (x17<(p0.length:Int)))=true then ((idx p0 x17)>>=fun y1=>(idx p1 x17)>>=fun y2=>(V6 y1 y2)>>=fun y3=>if (!y3)=true then (some false) else (uE p1 p0 (IntKind.wrap .i64 (x17+1)))) else (some true)
  partial_fixpoint
def aEx (p0:List aQ) (p1:List aQ):Option Bool :=
  if (!decide ((p0.length:Int)=(p1.length:Int)))=true then (some false) else (uE p1 p0 0)
def aB2 (p0:aR) (p1:aR):Option Bool :=
  (aEx p0.tables p1.tables)>>=fun y1=>some y1
def xC (p1:List UInt8) (p0:aQ) (x5:Int):Option Int :=
  if (decide (x5<(p0.cols.length:Int)))=true then ((idx p0.cols x5)>>=fun y1=>if (decide (y1.name=p1))=true then (some x5) else (xC p1 p0 (IntKind.wrap .i64 (x5+1)))) else (some (-1))
  partial_fixpoint
def wI (p0:aQ) (p1:List UInt8):Option Int :=
  xC p1 p0 0
def qF (p0:Int) (p1:Int) (p2:Int):Option Bool :=
  (some (if (decide (p1≤p0))=true then (decide (p0≤p2)) else false))>>=fun y1=>some y1
def oJ (p0:List UInt8):Option Bool :=
  (qF (p0.length:Int) 1 20)>>=fun y1=>some y1
def xD (p1:List UInt8) (p0:aR) (x5:Int):Option Int :=
  if (decide (x5<(p0.tables.length:Int)))=true then ((idx p0.tables x5)>>=fun y1=>if (decide (y1.name=p1))=true then (some x5) else (xD p1 p0 (IntKind.wrap .i64 (x5+1)))) else (some (-1))
  partial_fixpoint
def qD (p0:aR) (p1:List UInt8):Option Int :=
  xD p1 p0 0
mutual
def vG (x3:Int) (p0:aR) (y1:aQ) (x5:Int):Option Bool :=
  if (decide (x5<(y1.cols.length:Int)))=true then ((idx y1.cols x5)>>=fun y7=>(oJ y7.name)>>=fun y8=>(if (true&&((!y8)==false))=true then idx y1.cols x5 else some default)>>=fun y9=>(if (true&&((!y8)==false))=true then wI y1 y9.name else some default)>>=fun y10=>(some (if (!y8)=true then true else (!decide (y10=x5))))>>=fun y11=>(if (true&&(y11==false))=true then idx y1.cols x5 else some default)>>=fun y12=>(if (true&&(y11==false))=true then qF y12.type 1 3 else some default)>>=fun y13=>(some (if y11=true then true else (!y13)))>>=fun y14=>if y14=true then (some false) else (vG x3 p0 y1 (IntKind.wrap .i64 (x5+1)))) else (xB p0 (IntKind.wrap .i64 (x3+1)))
  partial_fixpoint
def xB (p0:aR) (x3:Int):Option Bool :=
  if (decide (x3<(p0.tables.length:Int)))=true then ((idx p0.tables x3)>>=fun y1=>(oJ y1.name)>>=fun y2=>(if (true&&((!y2)==false))=true then qD p0 y1.name else some default)>>=fun y3=>(some (if (!y2)=true then true else (!decide (y3=x3))))>>=fun y4=>(if (true&&(y4==false))=true then qF (y1.cols.length:Int) 1 4 else some default)>>=fun y5=>(some (if y4=true then true else (!y5)))>>=fun y6=>if y6=true then (some false) else (vG x3 p0 y1 0)) else (some true)
  partial_fixpoint
end
def tC (p0:aR):Option Bool :=
  if (decide (4<(p0.tables.length:Int)))=true then (some false) else (xB p0 0)
def rY (kG:List aQ) (bN:List Int) (bD:Int) (bM:Int):Option (aR×aB) :=
  some ((aR.mk kG),(aB.mk bN bD bM))
mutual
def yO (x0:Int) (p0:Int) (x4:List UInt8) (x5:Int):Option (List UInt8) :=
  (ofBytes ([(IntKind.wrap .u8 (IntKind.wrap .i64 (48+x5)))]:List Int))>>=fun y2=>(jU y2 x4)>>=fun y3=>A9 p0 (IntKind.wrap .i64 (Int.tdiv x0 10)) y3
  partial_fixpoint
def A9 (p0:Int) (x0:Int) (x4:List UInt8):Option (List UInt8) :=
  if (!decide (x0=0))=true then (if (decide ((Int.tmod x0 10)<0))=true then (yO x0 p0 x4 (IntKind.wrap .i64 (0 - (Int.tmod x0 10)))) else (yO x0 p0 x4 (Int.tmod x0 10))) else (if (decide (p0<0))=true then ((jU [45] x4)>>=fun y1=>some y1) else (some x4))
  partial_fixpoint
end
def E8 (p0:Int):Option (List UInt8) :=
  if (decide (p0=0))=true then (some [48]) else (A9 p0 p0 [])
def Y7 (p0:aB) (x3:Int) (bD:Int):Option (Int×aB) :=
  some (x3,(aB.mk p0.b bD (IntKind.wrap .i64 ((IntKind.wrap .i64 (p0.h * 6364136223846793005))+1442695040888963407))))
def rG (p0:aB):Option (Int×aB) :=
  if (decide (p0.i<(p0.b.length:Int)))=true then ((idx p0.b p0.i)>>=fun y1=>Y7 p0 (IntKind.wrap .i64 ((BitVec.ofInt (IntKind.bits .i64) (IntKind.wrap .i64 ((IntKind.wrap .i64 ((BitVec.ofInt (IntKind.bits .i64) (IntKind.wrap .i64 ((BitVec.ofInt (IntKind.bits .i64) (Int.fdiv (IntKind.wrap .i64 ((IntKind.wrap .i64 (p0.h * 6364136223846793005))+1442695040888963407)) (2 ^ 33)) ^^^ BitVec.ofInt (IntKind.bits .i64) (Int.fdiv (IntKind.wrap .i64 ((IntKind.wrap .i64 (p0.h * 6364136223846793005))+1442695040888963407)) (2 ^ 45))).toNat:Int)) &&& BitVec.ofInt (IntKind.bits .i64) 255).toNat:Int))+(IntKind.wrap .i64 y1))) &&& BitVec.ofInt (IntKind.bits .i64) 255).toNat:Int)) (IntKind.wrap .i64 (p0.i+1))) else (Y7 p0 (IntKind.wrap .i64 ((BitVec.ofInt (IntKind.bits .i64) (IntKind.wrap .i64 ((BitVec.ofInt (IntKind.bits .i64) (Int.fdiv (IntKind.wrap .i64 ((IntKind.wrap .i64 (p0.h * 6364136223846793005))+1442695040888963407)) (2 ^ 33)) ^^^ BitVec.ofInt (IntKind.bits .i64) (Int.fdiv (IntKind.wrap .i64 ((IntKind.wrap .i64 (p0.h * 6364136223846793005))+1442695040888963407)) (2 ^ 45))).toNat:Int)) &&& BitVec.ofInt (IntKind.bits .i64) 255).toNat:Int)) p0.i)
def gJ (p0:aB) (p1:Int):Option (Int×aB) :=
  if (decide (p1≤0))=true then (some (0,p0)) else (if (decide (p1≤256))=true then ((rG p0)>>=fun y1=>(K8 y1.1 p1)>>=fun y2=>some (y2,y1.2)) else ((rG p0)>>=fun y3=>(rG y3.2)>>=fun y4=>(rG y4.2)>>=fun y5=>(rG y5.2)>>=fun y6=>(K8 (IntKind.wrap .i64 ((IntKind.wrap .i64 ((IntKind.wrap .i64 ((IntKind.wrap .i64 (y3.1 * 16777216))+(IntKind.wrap .i64 (y4.1 * 65536))))+(IntKind.wrap .i64 (y5.1 * 256))))+y6.1)) p1)>>=fun y7=>some (y7,y6.2)))
def vW (nT:List Int) (nU:Int) (nR:Int) (iE:List aQ):Option (aR×aB) :=
  (gJ (aB.mk nT nU nR) 2)>>=fun y15=>if (decide ((iE.length:Int)<(IntKind.wrap .i64 (4+y15.1))))=true then ((E8 (iE.length:Int))>>=fun y16=>(jU [120] y16)>>=fun y17=>(appG 40 iE ([(aQ.mk y17 ([(aZ.mk [97] 1),(aZ.mk [98] 1),(aZ.mk [99] 2),(aZ.mk [100] 3)]:List aZ))]:List aQ))>>=fun y18=>vW y15.2.b y15.2.i y15.2.h y18) else (rY iE y15.2.b y15.2.i y15.2.h)
  partial_fixpoint
def uX (p0:aB) (p1:Int):Option (Bool×aB) :=
  (gJ p0 p1)>>=fun y1=>some ((decide (y1.1=0)),y1.2)
def nI (p0:aB) (p1:List (List UInt8)):Option ((List UInt8)×aB) :=
  (gJ p0 (p1.length:Int))>>=fun y1=>(idx p1 y1.1)>>=fun y2=>some (y2,y1.2)
def E5 (p0:aB) (p1:List Int):Option (Int×aB) :=
  (gJ p0 (p1.length:Int))>>=fun y1=>(idx p1 y1.1)>>=fun y2=>some (y2,y1.2)
def C9 (p0:aB):Option ((List UInt8)×aB) :=
  (uX p0 6)>>=fun y1=>if y1.1=true then ((nI y1.2 ([[97,32,98],[102,114,111,109],[83,101,108,101,99,116],[49,120],[113,34,113],[0],[34],[105,116,39,115],[120,46,121],[45]]:List (List UInt8)))>>=fun y2=>some (y2.1,y2.2)) else ((nI y1.2 ([[97],[98],[99],[116],[117],[118],[105,100],[110,97,109,101],[65],[95,120,49]]:List (List UInt8)))>>=fun y3=>some (y3.1,y3.2))
mutual
def yD (y1:Int×aB) (x6:Int) (y3:Int×aB) (x9:Int) (y2:List UInt8) (nM:List Int) (jE:Int×Int×(List aQ)×(List aZ)):Option (aR×aB) :=
  zW y1 x6 y3 y2 jE.2.2.1 (IntKind.wrap .i64 (x9+1)) (nM,jE.1,jE.2.1,jE.2.2.2)
  partial_fixpoint
def K5 (y1:Int×aB) (x6:Int) (y3:Int×aB) (x9:Int) (y2:List UInt8) (y8:Int×aB) (lF:List aZ) (gI:(List aQ)×(List UInt8)×(List Int)×Int×Int):Option (aR×aB) :=
  (wI (aQ.mk y2 lF) gI.2.1)>>=fun y15=>if (decide (y15<0))=true then ((appG 24 lF ([(aZ.mk gI.2.1 y8.1)]:List aZ))>>=fun y16=>yD y1 x6 y3 x9 y2 gI.2.2.1 (gI.2.2.2.1,gI.2.2.2.2,gI.1,y16)) else (yD y1 x6 y3 x9 y2 gI.2.2.1 (gI.2.2.2.1,gI.2.2.2.2,gI.1,lF))
  partial_fixpoint
def zW (y1:Int×aB) (x6:Int) (y3:Int×aB) (y2:List UInt8) (fJ:List aQ) (x9:Int) (gK:(List Int)×Int×Int×(List aZ)):Option (aR×aB) :=
  if (decide (x9<(IntKind.wrap .i64 (1+y3.1))))=true then ((nI (aB.mk gK.1 gK.2.1 gK.2.2.1) ([[97],[98],[99],[105,100],[110,97,109,101]]:List (List UInt8)))>>=fun y7=>(E5 y7.2 ([1,1,2,3]:List Int))>>=fun y8=>(uX y8.2 20)>>=fun y9=>if y9.1=true then ((C9 y9.2)>>=fun y10=>K5 y1 x6 y3 x9 y2 y8 gK.2.2.2 (fJ,y10.1,y10.2.b,y10.2.i,y10.2.h)) else (K5 y1 x6 y3 x9 y2 y8 gK.2.2.2 (fJ,y7.1,y9.2.b,y9.2.i,y9.2.h))) else ((appG 40 fJ ([(aQ.mk y2 gK.2.2.2)]:List aQ))>>=fun y14=>wK y1 (IntKind.wrap .i64 (x6+1)) gK.1 gK.2.1 gK.2.2.1 y14)
  partial_fixpoint
def wK (y1:Int×aB) (x6:Int) (bN:List Int) (bD:Int) (bM:Int) (fJ:List aQ):Option (aR×aB) :=
  if (decide (x6<(IntKind.wrap .i64 (1+y1.1))))=true then ((idx ([[116],[117],[118]]:List (List UInt8)) x6)>>=fun y2=>(gJ (aB.mk bN bD bM) 3)>>=fun y3=>zW y1 x6 y3 y2 fJ 0 (y3.2.b,y3.2.i,y3.2.h,([]:List aZ))) else (some ((aR.mk fJ),(aB.mk bN bD bM)))
  partial_fixpoint
end
def aAv (p0:aB):Option (aR×aB) :=
  (gJ p0 3)>>=fun y1=>wK y1 0 y1.2.b y1.2.i y1.2.h ([]:List aQ)
def qI (p1:Int) (x5:List Int) (x6:Int) (bN:List Int) (bD:Int) (bM:Int):Option ((List Int)×aB) :=
  if (decide (x6<p1))=true then ((rG (aB.mk bN bD bM))>>=fun y1=>(appG 1 x5 ([(IntKind.wrap .u8 y1.1)]:List Int))>>=fun y2=>qI p1 y2 (IntKind.wrap .i64 (x6+1)) y1.2.b y1.2.i y1.2.h) else (some (x5,(aB.mk bN bD bM)))
  partial_fixpoint
def aN8 (p0:aB) (p1:Int):Option ((List Int)×aB) :=
  qI p1 ([]:List Int) 0 p0.b p0.i p0.h
def M4:Option (List (List UInt8)) :=
  some ([[],[83,69,76,69,67,84],[68,73,83,84,73,78,67,84],[70,82,79,77],[74,79,73,78],[79,78],[87,72,69,82,69],[79,82,68,69,82],[66,89],[65,83,67],[68,69,83,67],[76,73,77,73,84],[65,83],[65,78,68],[79,82],[78,79,84],[73,83],[73,78],[66,69,84,87,69,69,78],[69,88,73,83,84,83],[78,85,76,76],[84,82,85,69],[70,65,76,83,69],[73,78,83,69,82,84],[73,78,84,79],[86,65,76,85,69,83],[85,80,68,65,84,69],[83,69,84],[68,69,76,69,84,69]]:List (List UInt8))
def I1 (p0:aB):Option ((List UInt8)×aB) :=
  (gJ p0 6)>>=fun y1=>if (decide (y1.1=0))=true then ((nI y1.2 ([[],[97,98,99,100,101,102,103,104,105,106,107,108,109,110,111,112,113,114,115,116],[97,98,99,100,101,102,103,104,105,106,107,108,109,110,111,112,113,114,115,116,117],[108,105,109,105,116],[76,73,77,73,84,83],[65,83,99],[57],[97,57],[195,169]]:List (List UInt8)))>>=fun y2=>some (y2.1,y2.2)) else (if (decide (y1.1=1))=true then ((M4)>>=fun y3=>(gJ y1.2 29)>>=fun y4=>(idx y3 y4.1)>>=fun y5=>some (y5,y4.2)) else (if (decide (y1.1=2))=true then ((gJ y1.2 5)>>=fun y6=>(aN8 y6.2 y6.1)>>=fun y7=>(ofBytes y7.1)>>=fun y8=>some (y8,y7.2)) else ((C9 y1.2)>>=fun y9=>some (y9.1,y9.2))))
def K9 (p0:aB):Option (aR×aB) :=
  (aAv p0)>>=fun y1=>(gJ y1.2 16)>>=fun y2=>if (decide (y2.1=0))=true then ((idx y1.1.tables 0)>>=fun y3=>(appG 40 y1.1.tables ([y3]:List aQ))>>=fun y4=>rY y4 y2.2.b y2.2.i y2.2.h) else (if (decide (y2.1=1))=true then ((idx y1.1.tables 0)>>=fun y5=>(I1 y2.2)>>=fun y6=>(gJ y6.2 5)>>=fun y7=>(appG 24 y5.cols ([(aZ.mk y6.1 y7.1)]:List aZ))>>=fun y8=>rY (y1.1.tables.set (0:Int).toNat (aQ.mk y5.name y8)) y7.2.b y7.2.i y7.2.h) else (if (decide (y2.1=2))=true then ((I1 y2.2)>>=fun y9=>(idx y1.1.tables 0)>>=fun y10=>rY (y1.1.tables.set (0:Int).toNat (aQ.mk y9.1 y10.cols)) y9.2.b y9.2.i y9.2.h) else (if (decide (y2.1=3))=true then ((idx y1.1.tables 0)>>=fun y11=>rY (y1.1.tables.set (0:Int).toNat (aQ.mk y11.name ([]:List aZ))) y2.2.b y2.2.i y2.2.h) else (if (decide (y2.1=4))=true then (rY ([]:List aQ) y2.2.b y2.2.i y2.2.h) else (if (decide (y2.1=5))=true then (vW y2.2.b y2.2.i y2.2.h y1.1.tables) else (rY y1.1.tables y2.2.b y2.2.i y2.2.h))))))
def vR (p0:List Int) (x3:Int) (x4:Int):Option aB :=
  (some (if (decide (x4<(p0.length:Int)))=true then (decide (x4<4000)) else false))>>=fun y1=>if y1=true then ((idx p0 x4)>>=fun y2=>vR p0 (IntKind.wrap .i64 ((BitVec.ofInt (IntKind.bits .i64) (IntKind.wrap .i64 ((IntKind.wrap .i64 ((IntKind.wrap .i64 (x3 * 131))+(IntKind.wrap .i64 y2)))+7)) &&& BitVec.ofInt (IntKind.bits .i64) 1073741823).toNat:Int)) (IntKind.wrap .i64 (x4+1))) else (some (aB.mk p0 0 x3))
  partial_fixpoint
def R4 (p0:List Int):Option aB :=
  vR p0 (IntKind.wrap .i64 (28322+(p0.length:Int))) 0
def X5 (p0:List Int):Option aR :=
  (R4 p0)>>=fun y1=>(K9 y1)>>=fun y2=>some y2.1
def aBx (x3:List Int):Option (List UInt8) :=
  (ofBytes x3)>>=fun y3=>some y3
mutual
def xW (x4:Int) (nY:List Int):Option (List UInt8) :=
  zX (IntKind.wrap .i64 (x4+1)) nY
  partial_fixpoint
def zX (x4:Int) (fI:List Int):Option (List UInt8) :=
  if (decide (x4<(fI.length:Int)))=true then ((idx fI x4)>>=fun y1=>(some (if (decide (97≤y1))=true then (decide (y1≤122)) else false))>>=fun y2=>if y2=true then (xW x4 (fI.set (x4).toNat (IntKind.wrap .u8 (y1 - 32)))) else (xW x4 (fI.set (x4).toNat y1))) else (aBx fI)
  partial_fixpoint
end
def wR (p0:List UInt8):Option (List UInt8) :=
  zX 0 (dW p0)
def R7 (y2:Bool×aB) (x5:List UInt8):Option ((List UInt8)×aB) :=
  (gJ y2.2 (IntKind.wrap .i64 ((x5.length:Int)+1)))>>=fun y4=>(gJ y4.2 12)>>=fun y5=>if (decide (y5.1=0))=true then ((eF x5 0 y4.1)>>=fun y6=>(nI y5.2 ([[40],[41],[32],[39],[110,111,116,32],[45,45,10],[47,42,120,42,47],[49],[33],[44],[61]]:List (List UInt8)))>>=fun y7=>(jU y6 y7.1)>>=fun y8=>(eF x5 y4.1 (x5.length:Int))>>=fun y9=>(jU y8 y9)>>=fun y10=>some (y10,y7.2)) else (if (decide (y5.1=1))=true then ((eF x5 0 y4.1)>>=fun y11=>some (y11,y5.2)) else (if (decide (y5.1=2))=true then ((wR x5)>>=fun y12=>some (y12,y5.2)) else (some (x5,y5.2))))
mutual
def yB (p0:List UInt8) (p1:Int) (x6:Int) (nS:List Int):Option (List UInt8) :=
  (dV p0 x6)>>=fun y6=>(appG 1 nS ([y6]:List Int))>>=fun y7=>zN p0 p1 y7 (IntKind.wrap .i64 (x6+1))
  partial_fixpoint
def zN (p0:List UInt8) (p1:Int) (x5:List Int) (x6:Int):Option (List UInt8) :=
  if (decide (x6<(p0.length:Int)))=true then ((dV p0 x6)>>=fun y1=>if (decide (y1=p1))=true then ((appG 1 x5 ([p1]:List Int))>>=fun y2=>yB p0 p1 x6 y2) else (yB p0 p1 x6 x5)) else ((appG 1 x5 ([p1]:List Int))>>=fun y4=>(ofBytes y4)>>=fun y5=>some y5)
  partial_fixpoint
end
def Q5 (p0:List UInt8) (p1:Int):Option (List UInt8) :=
  zN p0 p1 ([p1]:List Int) 0
def vO (y1:List UInt8) (y2:List (List UInt8)) (x5:Int):Option Int :=
  if (decide (x5<(y2.length:Int)))=true then ((idx y2 x5)>>=fun y3=>if (decide (y3=y1))=true then (some x5) else (vO y1 y2 (IntKind.wrap .i64 (x5+1)))) else (some 0)
  partial_fixpoint
def D8 (p0:List UInt8):Option Int :=
  if (decide (8<(p0.length:Int)))=true then (some 0) else ((wR p0)>>=fun y1=>(M4)>>=fun y2=>vO y1 y2 1)
def sF (p0:Int):Option Bool :=
  (some (if (decide (48≤p0))=true then (decide (p0≤57)) else false))>>=fun y1=>some y1
def rA (p0:Int):Option Bool :=
  (some (if (decide (97≤p0))=true then (decide (p0≤122)) else false))>>=fun y1=>(if (true&&(y1==false))=true then some (if (decide (65≤p0))=true then (decide (p0≤90)) else false) else some default)>>=fun y2=>(some (if y1=true then true else y2))>>=fun y3=>(some (if y3=true then true else (decide (p0=95))))>>=fun y4=>some y4
def uW (p0:List UInt8) (x3:Int):Option Bool :=
  if (decide (x3<(p0.length:Int)))=true then ((dV p0 x3)>>=fun y7=>(rA y7)>>=fun y8=>(if (true&&((!y8)==true))=true then dV p0 x3 else some default)>>=fun y9=>(if (true&&((!y8)==true))=true then sF y9 else some default)>>=fun y10=>(some (if (!y8)=true then (!y10) else false))>>=fun y11=>if y11=true then (some false) else (uW p0 (IntKind.wrap .i64 (x3+1)))) else (some true)
  partial_fixpoint
def yS (p0:List UInt8):Option Bool :=
  (oJ p0)>>=fun y1=>(if (true&&((!y1)==false))=true then dV p0 0 else some default)>>=fun y2=>(if (true&&((!y1)==false))=true then sF y2 else some default)>>=fun y3=>(some (if (!y1)=true then true else y3))>>=fun y4=>(if (true&&(y4==false))=true then D8 p0 else some default)>>=fun y5=>(some (if y4=true then true else (decide (0<y5))))>>=fun y6=>if y6=true then (some false) else (uW p0 0)
def aB4 (p0:List UInt8):Option (List UInt8) :=
  (oJ p0)>>=fun y1=>if (!y1)=true then (some []) else ((yS p0)>>=fun y2=>if y2=true then (some p0) else ((Q5 p0 34)>>=fun y3=>some y3))
def V3 (p0:List UInt8):Option (List UInt8) :=
  (Q5 p0 39)>>=fun y1=>some y1
def wT (p0:List UInt8) (x4:Int) (x5:Int):Option (Int×Bool) :=
  if (decide (x5<(p0.length:Int)))=true then ((dV p0 x5)>>=fun y2=>(if (true&&((decide (y2<48))==false))=true then dV p0 x5 else some default)>>=fun y3=>(some (if (decide (y2<48))=true then true else (decide (57<y3))))>>=fun y4=>if y4=true then (some (0,false)) else ((dV p0 x5)>>=fun y5=>if (decide ((IntKind.wrap .i64 (Int.tdiv (IntKind.wrap .i64 (9223372036854775807 - (IntKind.wrap .i64 ((IntKind.wrap .i64 y5) - 48)))) 10))<x4))=true then (some (0,false)) else (wT p0 (IntKind.wrap .i64 ((IntKind.wrap .i64 (10 * x4))+(IntKind.wrap .i64 ((IntKind.wrap .i64 y5) - 48)))) (IntKind.wrap .i64 (x5+1))))) else ((E8 x4)>>=fun y6=>if (!decide (y6=p0))=true then (some (0,false)) else (some (x4,true)))
  partial_fixpoint
def M6 (p0:List UInt8):Option (Int×Bool) :=
  (some (if (decide ((p0.length:Int)<1))=true then true else (decide (19<(p0.length:Int)))))>>=fun y1=>if y1=true then (some (0,false)) else (wT p0 0 0)
def jC (x4:Bool):Option Bool :=
  if x4=true then (some true) else (some false)
def G8 (p0:List UInt8):Option Bool :=
  if (decide (p0=[40]))=true then (jC (decide (p0=[40]))) else (if (decide (p0=[41]))=true then (jC (decide (p0=[41]))) else (if (decide (p0=[44]))=true then (jC (decide (p0=[44]))) else (if (decide (p0=[46]))=true then (jC (decide (p0=[46]))) else (if (decide (p0=[42]))=true then (jC (decide (p0=[42]))) else (if (decide (p0=[43]))=true then (jC (decide (p0=[43]))) else (if (decide (p0=[45]))=true then (jC (decide (p0=[45]))) else (if (decide (p0=[47]))=true then (jC (decide (p0=[47]))) else (if (decide (p0=[37]))=true then (jC (decide (p0=[37]))) else (if (decide (p0=[61]))=true then (jC (decide (p0=[61]))) else (if (decide (p0=[60,62]))=true then (jC (decide (p0=[60,62]))) else (if (decide (p0=[60]))=true then (jC (decide (p0=[60]))) else (if (decide (p0=[60,61]))=true then (jC (decide (p0=[60,61]))) else (if (decide (p0=[62]))=true then (jC (decide (p0=[62]))) else (if (decide (p0=[62,61]))=true then (jC (decide (p0=[62,61]))) else (jC (decide (p0=[124,124])))))))))))))))))
def iP (p0:aA):Option Bool :=
  if (decide (p0.kind=1))=true then ((D8 p0.text)>>=fun y1=>(if (true&&((decide (0<y1))==true))=true then wR p0.text else some default)>>=fun y2=>(some (if (decide (0<y1))=true then (decide (y2=p0.text)) else false))>>=fun y3=>some y3) else (if (decide (p0.kind=2))=true then ((oJ p0.text)>>=fun y4=>some y4) else (if (decide (p0.kind=3))=true then ((M6 p0.text)>>=fun y5=>some y5.2) else (if (decide (p0.kind=4))=true then (some (decide ((p0.text.length:Int)≤40))) else (if (decide (p0.kind=5))=true then ((G8 p0.text)>>=fun y6=>some y6) else (some false)))))
def F8 (p0:aA):Option (List UInt8) :=
  (iP p0)>>=fun y1=>if (!y1)=true then (some []) else (if (decide (p0.kind=2))=true then ((aB4 p0.text)>>=fun y2=>some y2) else (if (decide (p0.kind=4))=true then ((V3 p0.text)>>=fun y3=>some y3) else (some p0.text)))
def K7 (p0:aA):Option Bool :=
  (if (true&&((decide (p0.kind=2))==true))=true then yS p0.text else some default)>>=fun y1=>(some (if (decide (p0.kind=2))=true then (!y1) else false))>>=fun y2=>some y2
def J9 (p0:aA):Option Bool :=
  (some (if (decide (p0.kind=1))=true then true else (decide (p0.kind=3))))>>=fun y1=>(if ((true&&(y1==false))&&((decide (p0.kind=2))==true))=true then yS p0.text else some default)>>=fun y2=>(if (true&&(y1==false))=true then some (if (decide (p0.kind=2))=true then y2 else false) else some default)>>=fun y3=>(some (if y1=true then true else y3))>>=fun y4=>some y4
def wW (p0:aA) (p1:aA):Option Bool :=
  (iP p0)>>=fun y1=>(if (true&&((!y1)==false))=true then iP p1 else some default)>>=fun y2=>(some (if (!y1)=true then true else (!y2)))>>=fun y3=>if y3=true then (some false) else ((J9 p0)>>=fun y4=>(if (true&&(y4==true))=true then J9 p1 else some default)>>=fun y5=>(some (if y4=true then y5 else false))>>=fun y6=>(if (true&&(y6==false))=true then some (if (decide (p0.kind=4))=true then (decide (p1.kind=4)) else false) else some default)>>=fun y7=>(some (if y6=true then true else y7))>>=fun y8=>(if (true&&(y8==false))=true then K7 p0 else some default)>>=fun y9=>(if ((true&&(y8==false))&&(y9==true))=true then K7 p1 else some default)>>=fun y10=>(if (true&&(y8==false))=true then some (if y9=true then y10 else false) else some default)>>=fun y11=>(some (if y8=true then true else y11))>>=fun y12=>if y12=true then (some true) else ((some (if (!decide (p0.kind=5))=true then true else (!decide (p1.kind=5))))>>=fun y13=>if y13=true then (some false) else (if (decide (p0.text=[45]))=true then (some (decide (p1.text=[45]))) else (if (decide (p0.text=[47]))=true then (some (decide (p1.text=[42]))) else (if (decide (p0.text=[60]))=true then ((dV p1.text 0)>>=fun y14=>(if (true&&((decide (y14=61))==false))=true then dV p1.text 0 else some default)>>=fun y15=>(some (if (decide (y14=61))=true then true else (decide (y15=62))))>>=fun y16=>some y16) else (if (decide (p0.text=[62]))=true then ((dV p1.text 0)>>=fun y17=>some (decide (y17=61))) else (some false)))))))
mutual
def tV (p0:List aA) (p1:Bool) (x6:Int) (oD:List Int):Option (List UInt8) :=
  (idx p0 x6)>>=fun y11=>(F8 y11)>>=fun y12=>(appG 1 oD (dW y12))>>=fun y13=>oP p0 p1 y13 (IntKind.wrap .i64 (x6+1))
  partial_fixpoint
def oP (p0:List aA) (p1:Bool) (x5:List Int) (x6:Int):Option (List UInt8) :=
  if (decide (x6<(p0.length:Int)))=true then ((idx p0 x6)>>=fun y1=>(iP y1)>>=fun y2=>if (!y2)=true then (some []) else ((if ((true&&((decide (0<x6))==true))&&(p1==false))=true then idx p0 (IntKind.wrap .i64 (x6 - 1)) else some default)>>=fun y3=>(if ((true&&((decide (0<x6))==true))&&(p1==false))=true then idx p0 x6 else some default)>>=fun y4=>(if ((true&&((decide (0<x6))==true))&&(p1==false))=true then wW y3 y4 else some default)>>=fun y5=>(if (true&&((decide (0<x6))==true))=true then some (if p1=true then true else y5) else some default)>>=fun y6=>(some (if (decide (0<x6))=true then y6 else false))>>=fun y7=>if y7=true then ((appG 1 x5 ([32]:List Int))>>=fun y8=>tV p0 p1 x6 y8) else (tV p0 p1 x6 x5))) else (if (decide (2000<(x5.length:Int)))=true then (some []) else ((ofBytes x5)>>=fun y10=>some y10))
  partial_fixpoint
end
def G7 (p0:List aA) (p1:Bool):Option (List UInt8) :=
  oP p0 p1 ([]:List Int) 0
def Y4 (p0:List aA):Option (List UInt8) :=
  (G7 p0 true)>>=fun y1=>some y1
def aB5 (p0:List aA):Option (List UInt8) :=
  (G7 p0 false)>>=fun y1=>some y1
def aAi (p0:aB) (p1:List aA):Option ((List UInt8)×aB) :=
  (aB5 p1)>>=fun y1=>(uX p0 3)>>=fun y2=>if y2.1=true then ((Y4 p1)>>=fun y3=>R7 y2 y3) else (R7 y2 y1)
def L9 (x4:List aA) (bL:List Int) (jI:Int) (xA:Int):Option (List UInt8) :=
  (aAi (aB.mk bL jI xA) x4)>>=fun y6=>some y6.1
def uN (bN:List Int) (bD:Int) (bM:Int) (vH:List aA):Option ((List aA)×aB) :=
  some (vH,(aB.mk bN bD bM))
def J6 (p0:aB):Option (Int×aB) :=
  (gJ p0 3)>>=fun y1=>if (decide (y1.1=0))=true then ((E5 y1.2 ([0,1,(-1),63,64,(-64),(-65),127,128,16383,16384,9223372036854775807,(-9223372036854775808),4611686018427387904]:List Int))>>=fun y2=>some (y2.1,y2.2)) else (if (decide (y1.1=1))=true then ((gJ y1.2 1000000)>>=fun y3=>some ((IntKind.wrap .i64 (y3.1 - 500000)),y3.2)) else ((gJ y1.2 20)>>=fun y4=>some (y4.1,y4.2)))
def qR (kG:Int) (iB:List UInt8) (xL:Int) (bN:List Int) (bD:Int) (bM:Int):Option (aA×aB) :=
  some ((aA.mk kG iB xL),(aB.mk bN bD bM))
def V8 (p0:Int) (p1:Int):Option Int :=
  if (decide (p1<p0))=true then (some p0) else (some p1)
def aCk (p0:aB):Option ((List UInt8)×aB) :=
  (nI p0 ([[40],[41],[44],[46],[42],[43],[45],[47],[37],[61],[60,62],[60],[60,61],[62],[62,61],[124,124]]:List (List UInt8)))>>=fun y1=>some (y1.1,y1.2)
def aA8 (p0:aB):Option (aA×aB) :=
  (gJ p0 6)>>=fun y1=>if (decide (y1.1=0))=true then ((M4)>>=fun y2=>(gJ y1.2 28)>>=fun y3=>(idx y2 (IntKind.wrap .i64 (1+y3.1)))>>=fun y4=>some ((aA.mk 1 y4 0),y3.2)) else (if (decide (y1.1=1))=true then ((C9 y1.2)>>=fun y5=>some ((aA.mk 2 y5.1 0),y5.2)) else (if (decide (y1.1=2))=true then ((J6 y1.2)>>=fun y6=>(V8 0 y6.1)>>=fun y7=>(E8 y7)>>=fun y8=>some ((aA.mk 3 y8 0),y6.2)) else (if (decide (y1.1=3))=true then ((nI y1.2 ([[],[120],[105,116,39,115],[39,39],[116,119,111,32,119,111,114,100,115],[34],[45,45],[0,255]]:List (List UInt8)))>>=fun y9=>some ((aA.mk 4 y9.1 0),y9.2)) else ((aCk y1.2)>>=fun y10=>some ((aA.mk 5 y10.1 0),y10.2)))))
def O5 (p0:aB):Option (aA×aB) :=
  (aA8 p0)>>=fun y1=>(gJ y1.2 10)>>=fun y2=>if (decide (y2.1=0))=true then ((gJ y2.2 7)>>=fun y3=>qR y3.1 y1.1.text y1.1.at_ y3.2.b y3.2.i y3.2.h) else (if (decide (y2.1=1))=true then ((nI y2.2 ([[],[115,101,108,101,99,116],[83,69,76,69,67,84,83],[48,49],[57,50,50,51,51,55,50,48,51,54,56,53,52,55,55,53,56,48,56],[61,62],[124],[97,98,99,100,101,102,103,104,105,106,107,108,109,110,111,112,113,114,115,116,117],[49,50,51,52,53,54,55,56,57,48,49,50,51,52,53,54,55,56,57,48,49,50,51,52,53,54,55,56,57,48,49,50,51,52,53,54,55,56,57,48,49]]:List (List UInt8)))>>=fun y4=>qR y1.1.kind y4.1 y1.1.at_ y4.2.b y4.2.i y4.2.h) else (if (decide (y2.1=2))=true then ((J6 y2.2)>>=fun y5=>qR y1.1.kind y1.1.text y5.1 y5.2.b y5.2.i y5.2.h) else (qR y1.1.kind y1.1.text y1.1.at_ y2.2.b y2.2.i y2.2.h)))
def aA3 (p0:aB) (p1:List aA):Option ((List aA)×aB) :=
  (appG 32 ([]:List aA) p1)>>=fun y1=>(gJ p0 (IntKind.wrap .i64 ((y1.length:Int)+1)))>>=fun y2=>(gJ y2.2 7)>>=fun y3=>if (decide (y3.1=0))=true then ((eF y1 0 y2.1)>>=fun y4=>some (y4,y3.2)) else (if (decide (y3.1=1))=true then ((eF p1 0 y2.1)>>=fun y5=>(appG 32 ([]:List aA) y5)>>=fun y6=>(O5 y3.2)>>=fun y7=>(appG 32 y6 ([y7.1]:List aA))>>=fun y8=>(eF p1 y2.1 (p1.length:Int))>>=fun y9=>(appG 32 y8 y9)>>=fun y10=>uN y7.2.b y7.2.i y7.2.h y10) else (if (decide (y3.1=2))=true then (if (decide (y2.1<(y1.length:Int)))=true then ((eF p1 0 y2.1)>>=fun y11=>(appG 32 ([]:List aA) y11)>>=fun y12=>(eF p1 (IntKind.wrap .i64 (y2.1+1)) (p1.length:Int))>>=fun y13=>(appG 32 y12 y13)>>=fun y14=>uN y3.2.b y3.2.i y3.2.h y14) else (uN y3.2.b y3.2.i y3.2.h y1)) else (if (decide (y3.1=3))=true then (if (decide (y2.1<(y1.length:Int)))=true then ((O5 y3.2)>>=fun y15=>(idx y1 y2.1)>>=fun y16=>uN y15.2.b y15.2.i y15.2.h (y1.set (y2.1).toNat y15.1)) else (uN y3.2.b y3.2.i y3.2.h y1)) else (uN y3.2.b y3.2.i y3.2.h y1))))
def rJ (p0:List UInt8):Option aA :=
  some (aA.mk 5 p0 0)
def zT (p0:List UInt8):Option aA :=
  some (aA.mk 2 p0 0)
def nZ (p0:Int):Option (List UInt8) :=
  (qF p0 0 3)>>=fun y1=>if (!y1)=true then (some []) else ((idx ([[65,78,89],[73,78,84],[84,69,88,84],[66,79,79,76]]:List (List UInt8)) p0)>>=fun y2=>some y2)
mutual
def F4 (x4:Int) (x5:Int) (p0:aR) (mM:List aA):Option (List aA) :=
  (idx p0.tables x4)>>=fun y15=>(idx y15.cols x5)>>=fun y16=>(zT y16.name)>>=fun y17=>(idx p0.tables x4)>>=fun y18=>(idx y18.cols x5)>>=fun y19=>(nZ y19.type)>>=fun y20=>(zT y20)>>=fun y21=>(appG 32 mM ([y17,y21]:List aA))>>=fun y22=>zB x4 p0 y22 (IntKind.wrap .i64 (x5+1))
  partial_fixpoint
def zB (x4:Int) (p0:aR) (jW:List aA) (x5:Int):Option (List aA) :=
  (idx p0.tables x4)>>=fun y9=>if (decide (x5<(y9.cols.length:Int)))=true then (if (decide (0<x5))=true then ((rJ [44])>>=fun y10=>(appG 32 jW ([y10]:List aA))>>=fun y11=>F4 x4 x5 p0 y11) else (F4 x4 x5 p0 jW)) else ((rJ [41])>>=fun y13=>(appG 32 jW ([y13]:List aA))>>=fun y14=>tZ p0 y14 (IntKind.wrap .i64 (x4+1)))
  partial_fixpoint
def M7 (x4:Int) (p0:aR) (jZ:List aA):Option (List aA) :=
  (idx p0.tables x4)>>=fun y4=>(zT y4.name)>>=fun y5=>(rJ [40])>>=fun y6=>(appG 32 jZ ([y5,y6]:List aA))>>=fun y7=>zB x4 p0 y7 0
  partial_fixpoint
def tZ (p0:aR) (x3:List aA) (x4:Int):Option (List aA) :=
  if (decide (x4<(p0.tables.length:Int)))=true then (if (decide (0<x4))=true then ((rJ [44])>>=fun y1=>(appG 32 x3 ([y1]:List aA))>>=fun y2=>M7 x4 p0 y2) else (M7 x4 p0 x3)) else (some x3)
  partial_fixpoint
end
def I8 (p0:aR):Option (List aA) :=
  tZ p0 ([]:List aA) 0
def aAr (p0:List Int):Option (List UInt8) :=
  (R4 p0)>>=fun y1=>(K9 y1)>>=fun y2=>(I8 y2.1)>>=fun y3=>(uX y2.2 4)>>=fun y4=>if y4.1=true then ((aA3 y4.2 y3)>>=fun y5=>L9 y5.1 y5.2.b y5.2.i y5.2.h) else (L9 y3 y4.2.b y4.2.i y4.2.h)
def kS (p1:Int) (x7:Int) (bL:Int) (jI:List UInt8):Option (aA×Int) :=
  (if (true&&((decide (x7<0))==false))=true then iP (aA.mk bL jI p1) else some default)>>=fun y19=>(some (if (decide (x7<0))=true then true else (!y19)))>>=fun y20=>if y20=true then (some ((aA.mk bL jI p1),(-1))) else (some ((aA.mk bL jI p1),x7))
def uR (p0:List UInt8) (p1:Int) (rU:Int):Option (aA×Int) :=
  (eF p0 p1 rU)>>=fun y21=>kS p1 rU 5 y21
mutual
def xZ (p0:List UInt8) (y1:Int) (oG:List Int) (nK:Int):Option ((List UInt8)×Int) :=
  tQ p0 y1 oG (IntKind.wrap .i64 (nK+1))
  partial_fixpoint
def tQ (p0:List UInt8) (y1:Int) (x7:List Int) (x8:Int):Option ((List UInt8)×Int) :=
  if (decide (x8<(p0.length:Int)))=true then ((dV p0 x8)>>=fun y2=>if (!decide (y2=y1))=true then ((dV p0 x8)>>=fun y3=>(appG 1 x7 ([y3]:List Int))>>=fun y4=>xZ p0 y1 y4 x8) else ((if (true&&((decide ((p0.length:Int)≤(IntKind.wrap .i64 (x8+1))))==false))=true then dV p0 (IntKind.wrap .i64 (x8+1)) else some default)>>=fun y7=>(some (if (decide ((p0.length:Int)≤(IntKind.wrap .i64 (x8+1))))=true then true else (!decide (y7=y1))))>>=fun y8=>if y8=true then ((ofBytes x7)>>=fun y9=>some (y9,(IntKind.wrap .i64 (x8+1)))) else ((appG 1 x7 ([y1]:List Int))>>=fun y10=>xZ p0 y1 y10 (IntKind.wrap .i64 (x8+1))))) else (some ([],(-1)))
  partial_fixpoint
end
def K4 (p0:List UInt8) (p1:Int):Option ((List UInt8)×Int) :=
  (dV p0 p1)>>=fun y1=>tQ p0 y1 ([]:List Int) (IntKind.wrap .i64 (p1+1))
def xI (p0:List UInt8) (x1:Int):Option Int :=
  (if (true&&((decide (x1<(p0.length:Int)))==true))=true then dV p0 x1 else some default)>>=fun y1=>(if (true&&((decide (x1<(p0.length:Int)))==true))=true then rA y1 else some default)>>=fun y2=>(if ((true&&((decide (x1<(p0.length:Int)))==true))&&(y2==false))=true then dV p0 x1 else some default)>>=fun y3=>(if ((true&&((decide (x1<(p0.length:Int)))==true))&&(y2==false))=true then sF y3 else some default)>>=fun y4=>(if (true&&((decide (x1<(p0.length:Int)))==true))=true then some (if y2=true then true else y4) else some default)>>=fun y5=>(some (if (decide (x1<(p0.length:Int)))=true then y5 else false))>>=fun y6=>if y6=true then (xI p0 (IntKind.wrap .i64 (x1+1))) else (some x1)
  partial_fixpoint
def aAo (p0:List UInt8) (p1:Int):Option Int :=
  xI p0 p1
def X8 (p0:List UInt8) (p1:Int):Option (aA×Int) :=
  (dV p0 p1)>>=fun y1=>(rA y1)>>=fun y2=>if y2=true then ((aAo p0 p1)>>=fun y3=>(eF p0 p1 y3)>>=fun y4=>(D8 y4)>>=fun y5=>if (decide (0<y5))=true then ((wR y4)>>=fun y6=>kS p1 y3 1 y6) else (kS p1 y3 2 y4)) else ((dV p0 p1)>>=fun y7=>(sF y7)>>=fun y8=>if y8=true then ((aAo p0 p1)>>=fun y9=>(eF p0 p1 y9)>>=fun y10=>kS p1 y9 3 y10) else ((dV p0 p1)>>=fun y11=>if (decide (y11=34))=true then ((K4 p0 p1)>>=fun y12=>kS p1 y12.2 2 y12.1) else ((dV p0 p1)>>=fun y13=>if (decide (y13=39))=true then ((K4 p0 p1)>>=fun y14=>kS p1 y14.2 4 y14.1) else ((if (true&&((decide ((IntKind.wrap .i64 (p1+2))≤(p0.length:Int)))==true))=true then eF p0 p1 (IntKind.wrap .i64 (p1+2)) else some default)>>=fun y15=>(if (true&&((decide ((IntKind.wrap .i64 (p1+2))≤(p0.length:Int)))==true))=true then G8 y15 else some default)>>=fun y16=>(some (if (decide ((IntKind.wrap .i64 (p1+2))≤(p0.length:Int)))=true then y16 else false))>>=fun y17=>if y17=true then (uR p0 p1 (IntKind.wrap .i64 (p1+2))) else (uR p0 p1 (IntKind.wrap .i64 (p1+1)))))))
def qN (p0:Int) (p1:Int):Option Int :=
  if (decide (p0<p1))=true then (some p0) else (some p1)
mutual
def uG (p0:List UInt8) (x1:Int) (x6:Int):Option Int :=
  (if (true&&((decide (x6<(p0.length:Int)))==true))=true then qN (p0.length:Int) (IntKind.wrap .i64 (x6+2)) else some default)>>=fun y13=>(if (true&&((decide (x6<(p0.length:Int)))==true))=true then eF p0 x6 y13 else some default)>>=fun y14=>(some (if (decide (x6<(p0.length:Int)))=true then (!decide (y14=[42,47])) else false))>>=fun y15=>if y15=true then (uG p0 x1 (IntKind.wrap .i64 (x6+1))) else (if (decide ((p0.length:Int)≤x6))=true then (some (IntKind.wrap .i64 ((IntKind.wrap .i64 (0 - x1)) - 1))) else (kE p0 (IntKind.wrap .i64 (x6+2))))
  partial_fixpoint
def wG (p0:List UInt8) (iZ:Int):Option Int :=
  (if (true&&((decide (iZ<(p0.length:Int)))==true))=true then dV p0 iZ else some default)>>=fun y11=>(some (if (decide (iZ<(p0.length:Int)))=true then (!decide (y11=10)) else false))>>=fun y12=>if y12=true then (wG p0 (IntKind.wrap .i64 (iZ+1))) else (kE p0 iZ)
  partial_fixpoint
def kE (p0:List UInt8) (x1:Int):Option Int :=
  if (decide (x1<(p0.length:Int)))=true then ((qN (p0.length:Int) (IntKind.wrap .i64 (x1+2)))>>=fun y1=>(eF p0 x1 y1)>>=fun y2=>(dV p0 x1)>>=fun y3=>(if (true&&((decide (y3=32))==false))=true then dV p0 x1 else some default)>>=fun y4=>(some (if (decide (y3=32))=true then true else (decide (y4=9))))>>=fun y5=>(if (true&&(y5==false))=true then dV p0 x1 else some default)>>=fun y6=>(some (if y5=true then true else (decide (y6=10))))>>=fun y7=>(if (true&&(y7==false))=true then dV p0 x1 else some default)>>=fun y8=>(some (if y7=true then true else (decide (y8=13))))>>=fun y9=>if y9=true then (kE p0 (IntKind.wrap .i64 (x1+1))) else (if (decide (y2=[45,45]))=true then (wG p0 x1) else (if (decide (y2=[47,42]))=true then (uG p0 x1 (IntKind.wrap .i64 (x1+2))) else (some x1)))) else (some x1)
  partial_fixpoint
end
def I7 (p0:List UInt8) (p1:Int):Option Int :=
  kE p0 p1
def vY (p0:List UInt8) (x4:List aA) (x5:Int):Option ((List aA)×Int) :=
  (I7 p0 x5)>>=fun y1=>if (decide (y1<0))=true then (some (([]:List aA),(IntKind.wrap .i64 ((IntKind.wrap .i64 (0 - y1)) - 1)))) else (if (decide ((p0.length:Int)≤y1))=true then (some (x4,(-1))) else ((X8 p0 y1)>>=fun y2=>if (decide (y2.2<0))=true then (some (([]:List aA),y1)) else ((appG 32 x4 ([y2.1]:List aA))>>=fun y3=>vY p0 y3 y2.2)))
  partial_fixpoint
def aBc (p0:List UInt8):Option ((List aA)×Int) :=
  if (decide (2000<(p0.length:Int)))=true then (some (([]:List aA),2000)) else (vY p0 ([]:List aA) 0)
def wM (p0:cK) (p1:Int):Option aA :=
  (some (if p0.bad=true then true else (decide ((p0.t.length:Int)≤(IntKind.wrap .i64 (p0.at_+p1))))))>>=fun y1=>if y1=true then (some (aA.mk 0 [] 0)) else ((idx p0.t (IntKind.wrap .i64 (p0.at_+p1)))>>=fun y2=>some y2)
def tH (p0:cK) (p1:List UInt8):Option Bool :=
  (wM p0 0)>>=fun y1=>(some (if (decide (y1.kind=5))=true then (decide (y1.text=p1)) else false))>>=fun y2=>some y2
def pG (p0:cK) (p1:Bool):Option cK :=
  (some (if (!p1)=true then true else p0.bad))>>=fun y1=>if y1=true then (some (cK.mk p0.t p0.at_ true)) else (some (cK.mk p0.t (IntKind.wrap .i64 (p0.at_+1)) p0.bad))
def Y0 (p0:cK) (p1:Int):Option Bool :=
  (wM p0 0)>>=fun y1=>(if (true&&((decide (y1.kind=p1))==true))=true then iP y1 else some default)>>=fun y2=>(some (if (decide (y1.kind=p1))=true then y2 else false))>>=fun y3=>some y3
def uL (p0:cK) (p1:Int):Option ((List UInt8)×cK) :=
  (wM p0 0)>>=fun y1=>(Y0 p0 p1)>>=fun y2=>(pG p0 y2)>>=fun y3=>if y3.bad=true then (some ([],y3)) else (some (y1.text,y3))
def yC (y1:(List UInt8)×cK) (sV:List aZ) (tJ:List aA) (uD:Int) (tL:Bool):Option (aQ×cK) :=
  (tH (cK.mk tJ uD tL) [41])>>=fun y14=>(pG (cK.mk tJ uD tL) y14)>>=fun y15=>some ((aQ.mk y1.1 sV),y15)
def vD (p0:List UInt8) (x3:Int):Option Int :=
  if (decide (x3≤3))=true then ((nZ x3)>>=fun y1=>if (decide (y1=p0))=true then (some x3) else (vD p0 (IntKind.wrap .i64 (x3+1)))) else (some 0)
  partial_fixpoint
def aA7 (p0:List UInt8):Option Int :=
  vD p0 1
def tF (y1:(List UInt8)×cK) (iB:List aZ) (bN:List aA) (bD:Int) (bM:Bool):Option (aQ×cK) :=
  if (!bM)=true then ((uL (cK.mk bN bD bM) 2)>>=fun y4=>(uL y4.2 2)>>=fun y5=>(aA7 y5.1)>>=fun y6=>(appG 24 iB ([(aZ.mk y4.1 y6)]:List aZ))>>=fun y7=>(tH y5.2 [44])>>=fun y8=>if (!y8)=true then (yC y1 y7 y5.2.t y5.2.at_ y5.2.bad) else ((pG y5.2 true)>>=fun y13=>tF y1 y7 y13.t y13.at_ y13.bad)) else (yC y1 iB bN bD bM)
  partial_fixpoint
def aCe (p0:cK):Option (aQ×cK) :=
  (uL p0 2)>>=fun y1=>(tH y1.2 [40])>>=fun y2=>(pG y1.2 y2)>>=fun y3=>tF y1 ([]:List aZ) y3.t y3.at_ y3.bad
def xR (p0:List aA) (p1:List aA) (x5:Int):Option Bool :=
  if (decide (x5<(p0.length:Int)))=true then ((idx p0 x5)>>=fun y1=>(idx p1 x5)>>=fun y2=>(if (true&&((!decide (y1.kind=y2.kind))==false))=true then idx p0 x5 else some default)>>=fun y3=>(if (true&&((!decide (y1.kind=y2.kind))==false))=true then idx p1 x5 else some default)>>=fun y4=>(some (if (!decide (y1.kind=y2.kind))=true then true else (!decide (y3.text=y4.text))))>>=fun y5=>if y5=true then (some false) else (xR p0 p1 (IntKind.wrap .i64 (x5+1)))) else (some true)
  partial_fixpoint
def Z0 (p0:List aA) (p1:List aA):Option Bool :=
  if (!decide ((p0.length:Int)=(p1.length:Int)))=true then (some false) else (xR p0 p1 0)
mutual
def yZ (dZ:List aQ) (jK:List aA) (mH:List aA) (mG:Int) (lK:Bool):Option (aR×Bool) :=
  (aCe (cK.mk mH mG lK))>>=fun y14=>(appG 40 dZ ([y14.1]:List aQ))>>=fun y15=>lJ jK y15 y14.2.t y14.2.at_ y14.2.bad
  partial_fixpoint
def lJ (x4:List aA) (dZ:List aQ) (kR:List aA) (jY:Int) (jF:Bool):Option (aR×Bool) :=
  (some (if (!jF)=true then (decide (jY<(x4.length:Int))) else false))>>=fun y2=>if y2=true then (if (decide (0<(dZ.length:Int)))=true then ((tH (cK.mk kR jY jF) [44])>>=fun y3=>(pG (cK.mk kR jY jF) y3)>>=fun y4=>yZ dZ x4 y4.t y4.at_ y4.bad) else (yZ dZ x4 kR jY jF)) else ((if (true&&(jF==false))=true then tC (aR.mk dZ) else some default)>>=fun y9=>(some (if jF=true then true else (!y9)))>>=fun y10=>(if (true&&(y10==false))=true then I8 (aR.mk dZ) else some default)>>=fun y11=>(if (true&&(y10==false))=true then Z0 y11 x4 else some default)>>=fun y12=>(some (if y10=true then true else (!y12)))>>=fun y13=>if y13=true then (some ((aR.mk ([]:List aQ)),false)) else (some ((aR.mk dZ),true)))
  partial_fixpoint
end
def aB1 (p0:List UInt8):Option (aR×Bool) :=
  (aBc p0)>>=fun y1=>if (decide (0≤y1.2))=true then (some ((aR.mk ([]:List aQ)),false)) else (lJ y1.1 ([]:List aQ) y1.1 0 false)
mutual
def xG (x5:Int) (p0:aR) (p1:aR) (y1:aQ) (y2:aQ) (x8:Int):Option Bool :=
  if (decide (x8<(y1.cols.length:Int)))=true then ((idx y1.cols x8)>>=fun y4=>(idx y2.cols x8)>>=fun y5=>if (!((decide (y4.name=y5.name))&&((decide (y4.type=y5.type))&&true)))=true then (some false) else (xG x5 p0 p1 y1 y2 (IntKind.wrap .i64 (x8+1)))) else (A7 p0 p1 (IntKind.wrap .i64 (x5+1)))
  partial_fixpoint
def A7 (p0:aR) (p1:aR) (x5:Int):Option Bool :=
  if (decide (x5<(p0.tables.length:Int)))=true then ((idx p0.tables x5)>>=fun y1=>(idx p1.tables x5)>>=fun y2=>(some (if (!decide (y1.name=y2.name))=true then true else (!decide ((y1.cols.length:Int)=(y2.cols.length:Int)))))>>=fun y3=>if y3=true then (some false) else (xG x5 p0 p1 y1 y2 0)) else (some true)
  partial_fixpoint
end
def Z4 (p0:aR) (p1:aR):Option Bool :=
  if (!decide ((p0.tables.length:Int)=(p1.tables.length:Int)))=true then (some false) else (A7 p0 p1 0)
def aG4 (p0:List Int):Option Bool :=
  some (decide (1048576<(p0.length:Int)))
def Y2 (p0:List Int):Option Bool :=
  (aG4 p0)>>=fun y1=>if y1=true then (some true) else ((X5 p0)>>=fun y2=>(yX y2)>>=fun y3=>(sG y3)>>=fun y4=>(tC y2)>>=fun y5=>if (!y5)=true then ((some (if (decide (y3=[]))=true then y4.2 else false))>>=fun y6=>(some (if y6=true then (decide ((y4.1.tables.length:Int)=0)) else false))>>=fun y7=>some y7) else ((aAr p0)>>=fun y8=>(sG y8)>>=fun y9=>(aB1 y8)>>=fun y10=>(if (true&&(y4.2==true))=true then Z4 y2 y4.1 else some default)>>=fun y11=>(some (if y4.2=true then y11 else false))>>=fun y12=>(if (true&&(y12==true))=true then aB2 y2 y4.1 else some default)>>=fun y13=>(some (if y12=true then y13 else false))>>=fun y14=>(some (if y14=true then (y9.2==y10.2) else false))>>=fun y15=>(if ((true&&(y15==true))&&((!y9.2)==false))=true then tC y9.1 else some default)>>=fun y16=>(if (true&&(y15==true))=true then some (if (!y9.2)=true then true else y16) else some default)>>=fun y17=>(some (if y15=true then y17 else false))>>=fun y18=>some y18))
end Go.Ab
