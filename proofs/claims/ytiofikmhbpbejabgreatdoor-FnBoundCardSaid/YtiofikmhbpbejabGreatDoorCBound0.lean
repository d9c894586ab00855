/- That the code computes these functions (printed by a program). -/
import Derived.Test.YtiofikmhbpbejabGreatDoorAbP
import Derived.Test.YtiofikmhbpbejabGreatDoorAbQ
import Derived.KernelRfl
import Derived.Test.YtiofikmhbpbejabGreatDoorAbG2
import Derived.Test.YtiofikmhbpbejabGreatDoorAbC3
import Derived.Test.YtiofikmhbpbejabGreatDoorAbX6
import Derived.Test.YtiofikmhbpbejabGreatDoorAbX5
import Derived.Test.YtiofikmhbpbejabGreatDoorAbX3
import Derived.Test.YtiofikmhbpbejabGreatDoorAbX2
import Derived.Test.YtiofikmhbpbejabGreatDoorFBound
import Derived.Test.YtiofikmhbpbejabGreatDoorProg
namespace Go.Proofs.YtiofikmhbpbejabGreatDoor
open Go Go.RowKit Go.Ab
open Go.IntKind renaming wrap→QA
open _root_.List renaming map_nil→QB,map_cons→QC,mem_cons_of_mem→QE,cons_append→QF,nil_append→QG
attribute [local irreducible] avc dY aop dgo lX zZ xL wkK P6 stz aY6 bJ eff cK.st Cf.ok Cf.way Cf.put Cf.putS Cf.putD Cf.A Cf.W Cf.to Cf.reg Cf.withS GQ V5 yY K9 vQ Lok Jok Cf.kr Cf.ll Cf.dw Cf.stt Cf.z Cf.zW
def cI (n:Int):List D:=[.i .i64 n]
def cU8 (n:Int):List D:=[.i .u8 n]
def cOd (n:Int):List D:=[.i .u64 n]
def cNr (n:Int):List D:=[.i .i32 n]
def cM2 (n:Int):List D:=[.i .u32 n]
def cB (b:Bool):List D:=[.b b]
def cStr (s:List UInt8):List D:=[.s (bs s)]
def cSl {α:Type} (sz:Nat) (f:α→List D) (l:List α):List D:=[.sl sz (l.map f)]
def kJ (x:dZ):List D:=[.s (bs x.name),.i .i64 x.type]
def cHo (x:dZ):V:=.agg (kJ x)
def bPc (x:dZ):List V:=(kJ x).map V.d
def eZ (x:bM):List D:=[.s (bs x.name),.sl 2 (x.cols.map kJ)]
def aLl (x:bM):V:=.agg (eZ x)
def aMq (x:bM):List V:=(eZ x).map V.d
def aUt (x:aP):List D:=[.sl 2 (x.tables.map eZ)]
def fC (x:aP):V:=.agg (aUt x)
def gY (x:aP):List V:=(aUt x).map V.d
def aDm (x:bP):List D:=[.i .i64 x.kind,.i .i64 x.num,.s (bs x.text)]
def yG (x:bP):V:=.agg (aDm x)
def bHg (x:bP):List V:=(aDm x).map V.d
mutual
def bF:aB→List D
  | ⟨a0,a1,a2,a3,a4,a5,a6,a7⟩=>[.i .i64 a0]++[.i .i64 a1]++[.b a2]++aDm a3++[.s (bs a4)]++[.s (bs a5)]++[.sl 10 (aDl a6)]++[.sl 6 (aNp a7)]
def dJ:bG→List D
  | ⟨a0,a1,a2,a3⟩=>[.b a0]++[.s (bs a1)]++bF a2++[.s (bs a3)]
def iA:aL→List D
  | ⟨a0,a1,a2,a3,a4,a5⟩=>[.b a0]++[.sl 13 (aKt a1)]++[.sl 3 (aMt a2)]++[.sl 10 (aDl a3)]++[.sl 11 (aMc a4)]++[.i .i64 a5]
def fJ:eX→List D
  | ⟨a0,a1⟩=>bF a0++[.b a1]
def eD:bI→List D
  | ⟨a0,a1,a2⟩=>[.s (bs a0)]++[.s (bs a1)]++[.sl 10 (aDl a2)]
def aDl:List aB→List (List D)
  | []=>[]
  | x::l=>bF x::aDl l
def aKt:List bG→List (List D)
  | []=>[]
  | x::l=>dJ x::aKt l
def aNp:List aL→List (List D)
  | []=>[]
  | x::l=>iA x::aNp l
def aMc:List eX→List (List D)
  | []=>[]
  | x::l=>fJ x::aMc l
def aMt:List bI→List (List D)
  | []=>[]
  | x::l=>eD x::aMt l
end
theorem aJj:∀ l:List aB,aDl l=l.map bF
  | []=>by simp only [aDl,QB]
  | x::l=>by simp only [aDl,QC,aJj l]
theorem aGz:∀ l:List bG,aKt l=l.map dJ
  | []=>by simp only [aKt,QB]
  | x::l=>by simp only [aKt,QC,aGz l]
theorem aJ3:∀ l:List aL,aNp l=l.map iA
  | []=>by simp only [aNp,QB]
  | x::l=>by simp only [aNp,QC,aJ3 l]
theorem aGq:∀ l:List eX,aMc l=l.map fJ
  | []=>by simp only [aMc,QB]
  | x::l=>by simp only [aMc,QC,aGq l]
theorem aGy:∀ l:List bI,aMt l=l.map eD
  | []=>by simp only [aMt,QB]
  | x::l=>by simp only [aMt,QC,aGy l]
def lD (x:aB):List D:=[.i .i64 x.kind,.i .i64 x.op,.b x.not_,.i .i64 x.value.kind,.i .i64 x.value.num,.s (bs x.value.text),.s (bs x.qual),.s (bs x.name),.sl 10 (x.kids.map bF),.sl 6 (x.sub.map iA)]
def uL (x:bG):List D:=[.b x.star,.s (bs x.qual),.i .i64 x.expr.kind,.i .i64 x.expr.op,.b x.expr.not_,.i .i64 x.expr.value.kind,.i .i64 x.expr.value.num,.s (bs x.expr.value.text),.s (bs x.expr.qual),.s (bs x.expr.name),.sl 10 (x.expr.kids.map bF),.sl 6 (x.expr.sub.map iA),.s (bs x.as_)]
def J9 (x:aL):List D:=[.b x.distinct,.sl 13 (x.items.map dJ),.sl 3 (x.from_.map eD),.sl 10 (x.where_.map bF),.sl 11 (x.order.map fJ),.i .i64 x.limit]
def zP (x:eX):List D:=[.i .i64 x.expr.kind,.i .i64 x.expr.op,.b x.expr.not_,.i .i64 x.expr.value.kind,.i .i64 x.expr.value.num,.s (bs x.expr.value.text),.s (bs x.expr.qual),.s (bs x.expr.name),.sl 10 (x.expr.kids.map bF),.sl 6 (x.expr.sub.map iA),.b x.desc]
def D7 (x:bI):List D:=[.s (bs x.table),.s (bs x.as_),.sl 10 (x.on_.map bF)]
theorem lG (x:aB):bF x=lD x:=by
  obtain ⟨a0,a1,a2,a3,a4,a5,a6,a7⟩:=x
  simp only [bF,lD,aJj,aGz,aJ3,aGq,aGy,QF,QG,aDm]
theorem wN (x:bG):dJ x=uL x:=by
  obtain ⟨a0,a1,a2,a3⟩:=x
  simp only [dJ,uL,aJj,aGz,aJ3,aGq,aGy,lG,lD,QF,QG]
theorem aJ8 (x:aL):iA x=J9 x:=by
  obtain ⟨a0,a1,a2,a3,a4,a5⟩:=x
  simp only [iA,J9,aJj,aGz,aJ3,aGq,aGy,QF,QG]
theorem aJ0 (x:eX):fJ x=zP x:=by
  obtain ⟨a0,a1⟩:=x
  simp only [fJ,zP,aJj,aGz,aJ3,aGq,aGy,lG,lD,QF,QG]
theorem aAb (x:bI):eD x=D7 x:=by
  obtain ⟨a0,a1,a2⟩:=x
  simp only [eD,D7,aJj,aGz,aJ3,aGq,aGy,QF,QG]
def iE (x:aB):V:=.agg (lD x)
def qF (x:aB):List V:=(lD x).map V.d
def Z6 (x:bG):V:=.agg (uL x)
def cLr (x:bG):List V:=(uL x).map V.d
def gH (x:aL):V:=.agg (J9 x)
def kX (x:aL):List V:=(J9 x).map V.d
def aCo (x:eX):V:=.agg (zP x)
def cNn (x:eX):List V:=(zP x).map V.d
def M9 (x:bI):V:=.agg (D7 x)
def cJa (x:bI):List V:=(D7 x).map V.d
mutual
def aQ:aJ→List D
  | ⟨a0,a1,a2,a3,a4,a5,a6,a7⟩=>[.i .i64 a0]++[.i .i64 a1]++[.b a2]++aDm a3++[.i .i64 a4]++[.i .i64 a5]++[.sl 10 (aAe a6)]++[.sl 8 (aMb a7)]
def eG:dL→List D
  | ⟨a0,a1⟩=>aQ a0++[.b a1]
def gN:bA→List D
  | ⟨a0,a1,a2,a3,a4,a5,a6,a7⟩=>[.sl 1 (a0.map cI)]++[.sl 1 (aKh a1)]++[.sl 10 (aAe a2)]++[.sl 11 (aN6 a3)]++[.sl 10 (aAe a4)]++[.sl 1 (a5.map cStr)]++[.b a6]++[.i .i64 a7]
def aAe:List aJ→List (List D)
  | []=>[]
  | x::l=>aQ x::aAe l
def aN6:List dL→List (List D)
  | []=>[]
  | x::l=>eG x::aN6 l
def aMb:List bA→List (List D)
  | []=>[]
  | x::l=>gN x::aMb l
def aKh:List (List aJ)→List (List D)
  | []=>[]
  | x::l=>[.sl 10 (aAe x)]::aKh l
end
theorem aK6:∀ l:List aJ,aAe l=l.map aQ
  | []=>by simp only [aAe,QB]
  | x::l=>by simp only [aAe,QC,aK6 l]
theorem aRr:∀ l:List dL,aN6 l=l.map eG
  | []=>by simp only [aN6,QB]
  | x::l=>by simp only [aN6,QC,aRr l]
theorem aPe:∀ l:List bA,aMb l=l.map gN
  | []=>by simp only [aMb,QB]
  | x::l=>by simp only [aMb,QC,aPe l]
theorem aSj:∀ l:List (List aJ),aKh l=l.map (cSl 10 aQ)
  | []=>by simp only [aKh,QB]
  | x::l=>by simp only [aKh,QC,aSj l,cSl,aK6]
def nL (x:aJ):List D:=[.i .i64 x.kind,.i .i64 x.op,.b x.not_,.i .i64 x.value.kind,.i .i64 x.value.num,.s (bs x.value.text),.i .i64 x.up,.i .i64 x.at_,.sl 10 (x.kids.map aQ),.sl 8 (x.sub.map gN)]
def aCe (x:dL):List D:=[.i .i64 x.expr.kind,.i .i64 x.expr.op,.b x.expr.not_,.i .i64 x.expr.value.kind,.i .i64 x.expr.value.num,.s (bs x.expr.value.text),.i .i64 x.expr.up,.i .i64 x.expr.at_,.sl 10 (x.expr.kids.map aQ),.sl 8 (x.expr.sub.map gN),.b x.desc]
def X6 (x:bA):List D:=[.sl 1 (x.tables.map cI),.sl 1 (x.on_.map (cSl 10 aQ)),.sl 10 (x.where_.map aQ),.sl 11 (x.order.map eG),.sl 10 (x.items.map aQ),.sl 1 (x.names.map cStr),.b x.distinct,.i .i64 x.limit]
theorem nG (x:aJ):aQ x=nL x:=by
  obtain ⟨a0,a1,a2,a3,a4,a5,a6,a7⟩:=x
  simp only [aQ,nL,aK6,aRr,aPe,aSj,QF,QG,aDm]
theorem aSc (x:dL):eG x=aCe x:=by
  obtain ⟨a0,a1⟩:=x
  simp only [eG,aCe,aK6,aRr,aPe,aSj,nG,nL,QF,QG]
theorem aN8 (x:bA):gN x=X6 x:=by
  obtain ⟨a0,a1,a2,a3,a4,a5,a6,a7⟩:=x
  simp only [gN,X6,aK6,aRr,aPe,aSj,QF,QG]
def qC (x:aJ):V:=.agg (nL x)
def aA1 (x:aJ):List V:=(nL x).map V.d
def cM6 (x:dL):V:=.agg (aCe x)
def cOa (x:dL):List V:=(aCe x).map V.d
def nC (x:bA):V:=.agg (X6 x)
def xV (x:bA):List V:=(X6 x).map V.d
def aW8 (x:fB):List D:=[.i .i64 x.code,.s (bs x.name)]
def bL8 (x:fB):V:=.agg (aW8 x)
def bL2 (x:fB):List V:=(aW8 x).map V.d
def bL (x:aU):List D:=[.s (bs x.qual),.s (bs x.name),.i .i64 x.count,.i .i64 x.up,.i .i64 x.at_]
def aBr (x:aU):V:=.agg (bL x)
def aDu (x:aU):List V:=(bL x).map V.d
def aV1 (x:bV):List D:=[.sl 2 (x.c.tables.map eZ),.sl 5 (x.list.map bL),.b x.failed]
def cOk (x:bV):V:=.agg (aV1 x)
def cNo (x:bV):List V:=(aV1 x).map V.d
def bCa (x:oP):List D:=[.b x.op,.b x.not_,.b x.value,.b x.name,.i .i64 x.least,.i .i64 x.most,.i .i64 x.subs]
def cDn (x:oP):V:=.agg (bCa x)
def cOc (x:oP):List V:=(bCa x).map V.d
def jK (x:dX):List D:=[.s (bs x.qual),.s (bs x.name),.i .i64 x.type]
def cLs (x:dX):V:=.agg (jK x)
def cL8 (x:dX):List V:=(jK x).map V.d
def mG (x:aR):List D:=[.sl 3 (x.names.map jK)]
def rO (x:aR):V:=.agg (mG x)
def oJ (x:aR):List V:=(mG x).map V.d
def bB1 (x:bH):List D:=[.sl 2 (x.c.tables.map eZ),.i .i64 x.fault.code,.s (bs x.fault.name)]
def cL3 (x:bH):V:=.agg (bB1 x)
def dV (x:bH):List V:=(bB1 x).map V.d
def bBf (x:wJ):List D:=[.i .i64 x.up,.i .i64 x.at_,.i .i64 x.type]
def bNs (x:wJ):V:=.agg (bBf x)
def cLb (x:wJ):List V:=(bBf x).map V.d
def bB4 (x:aA):List D:=[.sl 1 (x.b.map cU8),.i .i64 x.i,.i .i64 x.h]
def cMt (x:aA):V:=.agg (bB4 x)
def aX (x:aA):List V:=(bB4 x).map V.d
instance:Enc bG:=⟨dJ,uL,wN⟩
instance:Enc bI:=⟨eD,D7,aAb⟩
instance:Enc eX:=⟨fJ,zP,aJ0⟩
instance:Enc aB:=⟨bF,lD,lG⟩
instance:Enc aL:=⟨iA,J9,aJ8⟩
instance:Enc bM:=⟨eZ,eZ,(fun _=>rfl)⟩
instance:Enc dZ:=⟨kJ,kJ,(fun _=>rfl)⟩
instance:Enc aR:=⟨mG,mG,(fun _=>rfl)⟩
instance:Enc dX:=⟨jK,jK,(fun _=>rfl)⟩
instance:Enc aU:=⟨bL,bL,(fun _=>rfl)⟩
instance:Enc (List aJ):=⟨cSl 10 aQ,cSl 10 aQ,(fun _=>rfl)⟩
instance:Enc dL:=⟨eG,aCe,aSc⟩
instance:Enc aJ:=⟨aQ,nL,nG⟩
instance:Enc bA:=⟨gN,X6,aN8⟩
instance:Enc (List UInt8):=⟨cStr,cStr,(fun _=>rfl)⟩







theorem kr {p:Prop} (h:p:=by kernel_rfl):p:=h
def oQ (l:List bG):V:=.d (.sl 13 (l.map dJ))
def jV (l:List bI):V:=.d (.sl 3 (l.map eD))
def H6 (l:List eX):V:=.d (.sl 11 (l.map fJ))
def gM (l:List aB):V:=.d (.sl 10 (l.map bF))
def qI (l:List aL):V:=.d (.sl 6 (l.map iA))
def gG (l:List bM):V:=.d (.sl 2 (l.map eZ))
def aKf (l:List dZ):V:=.d (.sl 2 (l.map kJ))
def eF (l:List aR):V:=.d (.sl 1 (l.map mG))
def aQf (l:List dX):V:=.d (.sl 3 (l.map jK))
def aVf (l:List aU):V:=.d (.sl 5 (l.map bL))
def nS (l:List Int):V:=.d (.sl 1 (l.map cI))
def bZf (l:List dL):V:=.d (.sl 11 (l.map eG))
def uF (l:List aJ):V:=.d (.sl 10 (l.map aQ))
def bIt (l:List bA):V:=.d (.sl 8 (l.map gN))
def aDf (l:List Int):V:=.d (.sl 1 (l.map cU8))
def bCt (l:List (List UInt8)):V:=.d (.sl 1 (l.map cStr))
def cO:V:=(.d (.s (bs [])))
def bC:V:=(.d (.i .i64 0))
def fO:V:=(.d (.b false))

def cGg (p0:aL) (x3:List aB) (x14:Int):St:=⟨[(1,.ptr 1 0),(3,.osl 3 78 10 (x3.map bF)),(12,oQ p0.items),(13,vI (p0.items.length:Int)),(14,vI x14)],[(1,kX p0)]⟩
abbrev Z1 (y:List aB):V:=(.osl 188 78 10 (y.map bF))
abbrev Z2 (y:List aB):List (Nat×List V):=[]
abbrev bDi:=fun p0 x3 x14 (r:List aB)=>Lok Tryz.prog 82 0 (BQ Z1 Z2 r) (cGg p0 x3 x14)
def bX8 (p0:aL) (x14:Int) (eH:List aB):St:=⟨[(1,.ptr 1 0),(3,.osl 3 78 10 (eH.map bF)),(12,oQ p0.items),(13,vI (p0.items.length:Int)),(14,vI x14)],[(1,kX p0)]⟩
abbrev bC3:=fun p0 x14 eH (r:List aB)=>Jok Tryz.prog 82 6 (BQ Z1 Z2 r) (bX8 p0 x14 eH)
def cCi (p0:aL) (dI:List aB) (x30:Int):St:=⟨[(1,.ptr 1 0),(3,.osl 3 78 10 (dI.map bF)),(28,jV p0.from_),(29,vI (p0.from_.length:Int)),(30,vI x30)],[(1,kX p0)]⟩
abbrev bGb:=fun p0 dI x30 (r:List aB)=>Lok Tryz.prog 82 1 (BQ Z1 Z2 r) (cCi p0 dI x30)
def cCm (p0:aL) (tK:List aB) (x46:Int):St:=⟨[(3,.osl 3 78 10 (tK.map bF)),(44,H6 p0.order),(45,vI (p0.order.length:Int)),(46,vI x46)],[]⟩
abbrev bCl:=fun p0 tK x46 (r:List aB)=>Lok Tryz.prog 82 2 (BQ Z1 Z2 r) (cCm p0 tK x46)
def bSt (p0:List aB) (x3:Int) (x8:Int):St:=⟨[(3,vI x3),(6,gM p0),(7,vI (p0.length:Int)),(8,vI x8)],[]⟩
abbrev aUs:=fun p0 x3 x8 r=>Lok Tryz.prog 81 0 (PQ (fun y=>(vI y)) r) (bSt p0 x3 x8)
def bZl (p0:aB) (x3:Int) (x11:Int):St:=⟨[(1,.ptr 1 0),(3,vI x3),(9,gM p0.kids),(10,vI (p0.kids.length:Int)),(11,vI x11)],[(1,qF p0)]⟩
abbrev aYq:=fun p0 x3 x11 r=>Lok Tryz.prog 116 0 (PQ (fun y=>(vI y)) r) (bZl p0 x3 x11)
def cI8 (p0:aB) (eH:Int) (x23:Int):St:=⟨[(3,vI eH),(21,qI p0.sub),(22,vI (p0.sub.length:Int)),(23,vI x23)],[]⟩
abbrev bEm:=fun p0 eH x23 r=>Lok Tryz.prog 116 1 (PQ (fun y=>(vI y)) r) (cI8 p0 eH x23)
def cJg (p0:aL) (x49:Int):St:=⟨[(1,.ptr 1 0),(47,oQ p0.items),(48,vI (p0.items.length:Int)),(49,vI x49)],[(1,kX p0)]⟩
abbrev bDy:=fun p0 x49 r=>Lok Tryz.prog 41 0 (PQ (fun y=>(vB y)) r) (cJg p0 x49)
def cEx (p0:aL) (x92:Int):St:=⟨[(1,.ptr 1 0),(90,jV p0.from_),(91,vI (p0.from_.length:Int)),(92,vI x92)],[(1,kX p0)]⟩
abbrev bAb:=fun p0 x92 r=>Lok Tryz.prog 41 1 (PQ (fun y=>(vB y)) r) (cEx p0 x92)



def cBd (p0:List aB) (x8:Int):St:=⟨[(0,gM p0),(1,.fn 120 []),(7,vI (p0.length:Int)),(8,vI x8)],[]⟩
abbrev aZ6:=fun p0 x8 r=>Lok Tryz.prog 149 0 (PQ (fun y=>(vI y)) r) (cBd p0 x8)



def cEf (p0:List aL) (x8:Int):St:=⟨[(0,qI p0),(1,.fn 152 []),(7,vI (p0.length:Int)),(8,vI x8)],[]⟩
abbrev bCg:=fun p0 x8 r=>Lok Tryz.prog 176 0 (PQ (fun y=>(vI y)) r) (cEf p0 x8)






def bUa (p1:List aL) (p0:List aL) (x17:Int):St:=⟨[(1,qI p1),(2,.fn 148 []),(15,qI p0),(16,vI (p0.length:Int)),(17,vI x17)],[]⟩
abbrev aVk:=fun p1 p0 x17 r=>Lok Tryz.prog 147 0 (PQ (fun y=>(vB y)) r) (bUa p1 p0 x17)

def bYz (p1:List eX) (p0:List eX) (x17:Int):St:=⟨[(1,H6 p1),(2,.fn 171 []),(15,H6 p0),(16,vI (p0.length:Int)),(17,vI x17)],[]⟩
abbrev aWo:=fun p1 p0 x17 r=>Lok Tryz.prog 174 0 (PQ (fun y=>(vB y)) r) (bYz p1 p0 x17)

def bQe (p1:List bI) (p0:List bI) (x17:Int):St:=⟨[(1,jV p1),(2,.fn 170 []),(15,jV p0),(16,vI (p0.length:Int)),(17,vI x17)],[]⟩
abbrev aYn:=fun p1 p0 x17 r=>Lok Tryz.prog 173 0 (PQ (fun y=>(vB y)) r) (bQe p1 p0 x17)


def bYj (p1:List aB) (p0:List aB) (x17:Int):St:=⟨[(1,gM p1),(2,.fn 118 []),(15,gM p0),(16,vI (p0.length:Int)),(17,vI x17)],[]⟩
abbrev aXg:=fun p1 p0 x17 r=>Lok Tryz.prog 168 0 (PQ (fun y=>(vB y)) r) (bYj p1 p0 x17)
def bWg (p1:List bG) (p0:List bG) (x17:Int):St:=⟨[(1,oQ p1),(2,.fn 169 []),(15,oQ p0),(16,vI (p0.length:Int)),(17,vI x17)],[]⟩
abbrev aVl:=fun p1 p0 x17 r=>Lok Tryz.prog 172 0 (PQ (fun y=>(vB y)) r) (bWg p1 p0 x17)



def bV7 (p0:List aB) (x3:Int) (x8:Int):St:=⟨[(3,vI x3),(6,gM p0),(7,vI (p0.length:Int)),(8,vI x8)],[]⟩
abbrev bA5:=fun p0 x3 x8 r=>Lok Tryz.prog 83 0 (PQ (fun y=>(vI y)) r) (bV7 p0 x3 x8)
def cBt (p0:aB) (x3:Int) (x13:Int):St:=⟨[(3,vI x3),(11,qI p0.sub),(12,vI (p0.sub.length:Int)),(13,vI x13)],[]⟩
abbrev bAk:=fun p0 x3 x13 r=>Lok Tryz.prog 117 0 (PQ (fun y=>(vI y)) r) (cBt p0 x3 x13)
def cH0 (p0:aP) (x8:Int):St:=⟨[(1,.ptr 1 0),(6,gG p0.tables),(7,vI (p0.tables.length:Int)),(8,vI x8)],[(1,gY p0)]⟩
abbrev bBu:=fun p0 x8 r=>Lok Tryz.prog 14 0 (PQ (fun y=>(vB y)) r) (cH0 p0 x8)
def cC0 (p0:bM) (x8:Int):St:=⟨[(1,.ptr 1 0),(6,aKf p0.cols),(7,vI (p0.cols.length:Int)),(8,vI x8)],[(1,aMq p0)]⟩
abbrev bD2:=fun p0 x8 r=>Lok Tryz.prog 37 0 (PQ (fun y=>(vB y)) r) (cC0 p0 x8)

def cFj (p0:List dZ) (c0_0:List UInt8) (x8:Int):St:=⟨[(0,aKf p0),(1,.fn 115 [.ptr 186 0]),(7,vI (p0.length:Int)),(8,vI x8)],[(186,[vS c0_0])]⟩
abbrev Z3 (y:Int):V:=(vI y)
abbrev aY1:=fun p0 c0_0 x8 r=>Lok Tryz.prog 114 0 (BQ Z3 (fun (y:Int)=>[(186,[vS c0_0])]) r) (cFj p0 c0_0 x8)


def cBg (p0:List bM) (c0_0:List UInt8) (x8:Int):St:=⟨[(0,gG p0),(1,.fn 80 [.ptr 186 0]),(7,vI (p0.length:Int)),(8,vI x8)],[(186,[vS c0_0])]⟩
abbrev aWm:=fun p0 c0_0 x8 r=>Lok Tryz.prog 79 0 (BQ Z3 (fun (y:Int)=>[(186,[vS c0_0])]) r) (cBg p0 c0_0 x8)

def cJw (p1:List aR) (p2:aL) (x19:Int) (aV:List bM) (aZ:List aU) (bD:Bool):St:=⟨[(0,.ptr 186 0),(1,eF p1),(5,.ptr 5 0),(17,jV p2.from_),(18,vI (p2.from_.length:Int)),(19,vI x19)],[(5,kX p2),(186,[gG aV,.osl 222 55 5 (aZ.map bL),vB bD])]⟩
abbrev Zc (y:bV):List (Nat×List V):=[(186,[.d (.sl 2 (y.c.tables.map eZ)),.osl 222 55 5 (y.list.map bL),vB y.failed])]
abbrev Za (y:bV):V:=(.tup [])
abbrev aZq:=fun p1 p2 x19 aV aZ bD (r:bV)=>Lok Tryz.prog 32 0 (BQ Za Zc r) (cJw p1 p2 x19 aV aZ bD)
def cIf (y7:List aR) (p2:aL) (x52:Int) (tC:List bM) (sF:List aU) (tV:Bool):St:=⟨[(0,.ptr 186 0),(5,.ptr 5 0),(8,.osl 8 103 1 (y7.map mG)),(50,H6 p2.order),(51,vI (p2.order.length:Int)),(52,vI x52)],[(5,kX p2),(186,[gG tC,.osl 222 55 5 (sF.map bL),vB tV])]⟩
abbrev bFk:=fun y7 p2 x52 tC sF tV (r:bV)=>Lok Tryz.prog 32 1 (BQ Za Zc r) (cIf y7 p2 x52 tC sF tV)
def bTi (y7:List aR) (p2:aL) (x66:Int) (jB:List bM) (qG:List aU) (jD:Bool):St:=⟨[(0,.ptr 186 0),(8,.osl 8 103 1 (y7.map mG)),(64,oQ p2.items),(65,vI (p2.items.length:Int)),(66,vI x66)],[(186,[gG jB,.osl 222 55 5 (qG.map bL),vB jD])]⟩
abbrev bA4:=fun y7 p2 x66 jB qG jD (r:bV)=>Lok Tryz.prog 32 2 (BQ Za Zc r) (bTi y7 p2 x66 jB qG jD)
def cF6 (y7:List aR) (p2:aL) (x66:Int) (uH:List bM) (uM:List aU) (uW:Bool):St:=⟨[(0,.ptr 186 0),(8,.osl 8 103 1 (y7.map mG)),(64,oQ p2.items),(65,vI (p2.items.length:Int)),(66,vI x66)],[(186,[gG uH,.osl 222 55 5 (uM.map bL),vB uW])]⟩
abbrev aZi:=fun y7 p2 x66 uH uM uW (r:bV)=>Jok Tryz.prog 32 18 (BQ Za Zc r) (cF6 y7 p2 x66 uH uM uW)
def cGc (y7:List aR) (p2:aL) (x66:Int) (y23:List Int) (jB:List bM) (jD:Bool) (kx86:Int×(List aU)):St:=⟨[(0,.ptr 186 0),(8,.osl 8 103 1 (y7.map mG)),(64,oQ p2.items),(65,vI (p2.items.length:Int)),(66,vI x66),(84,.osl 84 3 1 (y23.map cI)),(85,vI (y23.length:Int)),(86,vI kx86.1)],[(186,[gG jB,.osl 222 55 5 (kx86.2.map bL),vB jD])]⟩
abbrev aYs:=fun y7 p2 x66 y23 jB jD kx86 (r:bV)=>Lok Tryz.prog 32 3 (BQ Za Zc r) (cGc y7 p2 x66 y23 jB jD kx86)

def cCd (p1:List aR) (p2:List aB) (x12:Int) (aV:List bM) (aZ:List aU) (bD:Bool):St:=⟨[(0,.ptr 186 0),(1,eF p1),(10,gM p2),(11,vI (p2.length:Int)),(12,vI x12)],[(186,[gG aV,.osl 222 55 5 (aZ.map bL),vB bD])]⟩
abbrev aZy:=fun p1 p2 x12 aV aZ bD (r:bV)=>Lok Tryz.prog 62 0 (BQ Za Zc r) (cCd p1 p2 x12 aV aZ bD)
def bS9 (p1:List aR) (p2:List aB) (x12:Int) (y1:aB) (vR:List bM) (vE:List aU) (wG:Bool):St:=⟨[(0,.ptr 186 0),(1,eF p1),(7,.ptr 7 0),(10,gM p2),(11,vI (p2.length:Int)),(12,vI x12)],[(7,qF y1),(186,[gG vR,.osl 222 55 5 (vE.map bL),vB wG])]⟩
abbrev bC5:=fun p1 p2 x12 y1 vR vE wG (r:bV)=>Jok Tryz.prog 62 5 (BQ Za Zc r) (bS9 p1 p2 x12 y1 vR vE wG)
def cJe (p1:List aR) (p2:List aB) (x12:Int) (y1:aB) (x31:Int) (lC:List bM) (jG:(List aU)×Bool):St:=⟨[(0,.ptr 186 0),(1,eF p1),(10,gM p2),(11,vI (p2.length:Int)),(12,vI x12),(29,qI y1.sub),(30,vI (y1.sub.length:Int)),(31,vI x31)],[(186,[gG lC,.osl 222 55 5 (jG.1.map bL),vB jG.2])]⟩
abbrev bBl:=fun p1 p2 x12 y1 x31 lC jG (r:bV)=>Lok Tryz.prog 62 1 (BQ Za Zc r) (cJe p1 p2 x12 y1 x31 lC jG)
def bSo (p1:List aR) (p2:aB) (p0:bV) (x17:Int):St:=⟨[(0,.ptr 186 0),(5,.ptr 5 0),(6,.ptr 6 0),(15,eF p1),(16,vI (p1.length:Int)),(17,vI x17)],[(5,qF p2),(6,aDu (aU.mk p2.qual p2.name 0 0 0)),(186,[gG p0.c.tables,.osl 222 55 5 (p0.list.map bL),vB p0.failed])]⟩
abbrev bE4:=fun p1 p2 p0 x17 (r:bV)=>Lok Tryz.prog 103 0 (BQ Za Zc r) (bSo p1 p2 p0 x17)
def bUc (p2:aB) (p0:bV) (X4:Int) (Y8:Int) (Z4:Int):St:=⟨[(0,.ptr 186 0),(6,.ptr 6 0)],[(6,aDu (aU.mk p2.qual p2.name X4 Y8 Z4)),(186,[gG p0.c.tables,.osl 222 55 5 (p0.list.map bL),vB p0.failed])]⟩
abbrev bW6:=fun p2 p0 X4 Y8 Z4 (r:bV)=>Jok Tryz.prog 103 2 (BQ Za Zc r) (bUc p2 p0 X4 Y8 Z4)
def bWd (p1:List UInt8) (p2:List UInt8) (p0:aR) (x7:List Int) (x14:Int):St:=⟨[(1,vS p1),(2,vS p2),(7,.osl 7 3 1 (x7.map cI)),(12,aQf p0.names),(13,vI (p0.names.length:Int)),(14,vI x14)],[]⟩
abbrev Zd (y:List Int):V:=(.osl 188 3 1 (y.map cI))
abbrev Ze (y:List Int):List (Nat×List V):=[]
abbrev bFs:=fun p1 p2 p0 x7 x14 (r:List Int)=>Lok Tryz.prog 123 0 (BQ Zd Ze r) (bWd p1 p2 p0 x7 x14)
def bW7 (p1:List UInt8) (p2:List UInt8) (p0:aR) (x14:Int) (vP:List Int):St:=⟨[(1,vS p1),(2,vS p2),(7,.osl 7 3 1 (vP.map cI)),(12,aQf p0.names),(13,vI (p0.names.length:Int)),(14,vI x14)],[]⟩
abbrev aYp:=fun p1 p2 p0 x14 vP (r:List Int)=>Jok Tryz.prog 123 6 (BQ Zd Ze r) (bW7 p1 p2 p0 x14 vP)
def cIw (p1:List UInt8) (p0:aR) (x5:List Int) (x12:Int):St:=⟨[(1,vS p1),(5,.osl 5 3 1 (x5.map cI)),(10,aQf p0.names),(11,vI (p0.names.length:Int)),(12,vI x12)],[]⟩
abbrev aWw:=fun p1 p0 x5 x12 (r:List Int)=>Lok Tryz.prog 64 0 (BQ Zd Ze r) (cIw p1 p0 x5 x12)
def bSp (p1:List UInt8) (p0:aR) (x12:Int) (lV:List Int):St:=⟨[(1,vS p1),(5,.osl 5 3 1 (lV.map cI)),(10,aQf p0.names),(11,vI (p0.names.length:Int)),(12,vI x12)],[]⟩
abbrev bBm:=fun p1 p0 x12 lV (r:List Int)=>Jok Tryz.prog 64 6 (BQ Zd Ze r) (bSp p1 p0 x12 lV)

def bYd (p1:List bI) (p0:aP) (x19:Int) (fU:List dX):St:=⟨[(1,jV p1),(2,.ptr 2 0),(4,.ptr 4 0),(7,.ptr 7 0),(17,jV p1),(18,vI (p1.length:Int)),(19,vI x19)],[(2,gY p0),(4,[.nil 3]),(7,[.osl 70 139 3 (fU.map jK)])]⟩
abbrev aWt:=fun p1 p0 x19 fU (r:aR×Int×(List UInt8))=>Lok Tryz.prog 87 0 (PQ (fun y=>(.tup [rO y.1,vI y.2.1,vS y.2.2])) r) (bYd p1 p0 x19 fU)
def bVi (p1:List bI) (y2:Int) (y3:List UInt8) (x19:Int) (y4:List bI) (p0:aP) (fU:List dX) (x39:Int):St:=⟨[(1,jV p1),(2,.ptr 2 0),(4,.ptr 4 0),(7,.ptr 7 0),(10,vI y2),(11,vS y3),(17,jV p1),(18,vI (p1.length:Int)),(19,vI x19),(37,jV y4),(38,vI (y4.length:Int)),(39,vI x39)],[(2,gY p0),(4,[.nil 3]),(7,[.osl 70 139 3 (fU.map jK)])]⟩
abbrev aYe:=fun p1 y2 y3 x19 y4 p0 fU x39 (r:aR×Int×(List UInt8))=>Lok Tryz.prog 87 1 (PQ (fun y=>(.tup [rO y.1,vI y.2.1,vS y.2.2])) r) (bVi p1 y2 y3 x19 y4 p0 fU x39)
def bUb (p1:List bI) (y3:List UInt8) (x19:Int) (y7:bM) (p0:aP) (x57:Int) (sV:List dX):St:=⟨[(1,jV p1),(2,.ptr 2 0),(4,.ptr 4 0),(7,.ptr 7 0),(11,vS y3),(17,jV p1),(18,vI (p1.length:Int)),(19,vI x19),(55,aKf y7.cols),(56,vI (y7.cols.length:Int)),(57,vI x57)],[(2,gY p0),(4,[.nil 3]),(7,[.osl 70 139 3 (sV.map jK)])]⟩
abbrev bD4:=fun p1 y3 x19 y7 p0 x57 sV (r:aR×Int×(List UInt8))=>Lok Tryz.prog 87 2 (PQ (fun y=>(.tup [rO y.1,vI y.2.1,vS y.2.2])) r) (bUb p1 y3 x19 y7 p0 x57 sV)


def cHs (p0:List aU) (x8:Int):St:=⟨[(0,aVf p0),(1,.fn 12 []),(7,vI (p0.length:Int)),(8,vI x8)],[]⟩
abbrev bFe:=fun p0 x8 r=>Lok Tryz.prog 33 0 (PQ (fun y=>(vI y)) r) (cHs p0 x8)

def cHx (y4:bA×(List Int)×bH) (aCv:List bM) (M5:Int) (L8:List UInt8):St:=⟨[(4,.ptr 4 0),(5,.ptr 5 0),(6,.ptr 21 0),(7,.ptr 7 0)],[(4,[.nil 1,.nil 1,.nil 10,.nil 11,.nil 10,.nil 1,vB false,vI 0]),(5,[vI 0,vS []]),(7,[.osl 294 1000000000 1 (y4.1.tables.map cI),.osl 295 1000000000 1 (y4.1.on_.map (cSl 10 aQ)),.osl 296 1000000000 10 (y4.1.where_.map aQ),.osl 297 1000000000 11 (y4.1.order.map eG),.osl 298 1000000000 10 (y4.1.items.map aQ),.osl 299 1000000000 1 (y4.1.names.map cStr),vB y4.1.distinct,vI y4.1.limit]),(21,dV (bH.mk (aP.mk aCv) (fB.mk M5 L8)))]⟩
abbrev bY2:=fun y4 aCv M5 L8 (r:bA×fB)=>Jok Tryz.prog 8 6 (PQ (fun y=>(.tup [nC y.1,bL8 y.2])) r) (cHx y4 aCv M5 L8)
def bT8 (y2:List aR) (p2:aL) (y1:aR×bH×Bool×Int×(List Int)×(List (List aJ))) (y4:(List aJ)×bH) (x39:Int) (aV:List bM) (jQ:Int×(List UInt8)×(List dL)):St:=⟨[(0,.ptr 186 0),(5,.ptr 5 0),(6,.ptr 6 0),(8,.ptr 8 0),(9,.osl 9 103 1 (y2.map mG)),(37,H6 p2.order),(38,vI (p2.order.length:Int)),(39,vI x39)],[(5,kX p2),(6,[.nil 1,.nil 1,.nil 10,.nil 11,.nil 10,.nil 1,vB false,vI 0]),(8,[.tre 419,.tre 420,.tre 421,.tre 422,.tre 423,.tre 424,vB y1.2.2.1,vI y1.2.2.2.1]),(186,dV (bH.mk (aP.mk aV) (fB.mk jQ.1 jQ.2.1))),(421,[.trc 10 (y4.1.map aQ)]),(419,[.trc 1 (y1.2.2.2.2.1.map cI)]),(420,[.trc 1 (y1.2.2.2.2.2.map (cSl 10 aQ))]),(424,[.trc 1 (([]:List (List UInt8)).map cStr)]),(423,[.trc 10 (([]:List aJ).map aQ)]),(422,[.trc 11 (jQ.2.2.map eG)])]⟩
abbrev Zg (y:bA×(List Int)×bH):List (Nat×List V):=[(223,[.trc 1 (y.1.tables.map cI)]),(224,[.trc 1 (y.1.on_.map (cSl 10 aQ))]),(225,[.trc 10 (y.1.where_.map aQ)]),(226,[.trc 11 (y.1.order.map eG)]),(227,[.trc 10 (y.1.items.map aQ)]),(228,[.trc 1 (y.1.names.map cStr)]),(231,[.trc 1 (y.2.1.map cI)]),(186,dV y.2.2)]
abbrev Zf (y:bA×(List Int)×bH):V:=(.tup [.agv [.tre 223,.tre 224,.tre 225,.tre 226,.tre 227,.tre 228,vB y.1.distinct,vI y.1.limit],.tre 231])
abbrev bFv:=fun y2 p2 y1 y4 x39 aV jQ (r:bA×(List Int)×bH)=>Lok Tryz.prog 16 0 (BQ Zf Zg r) (bT8 y2 p2 y1 y4 x39 aV jQ)
def bQ0 (p1:List aR) (p2:List bI) (c1_6:Bool) (c1_7:Int) (c1_2:List aJ) (c1_3:List dL) (kb:(List aJ)×(((List (List UInt8))×Int×(List dX)×(List bM)×Int×(List UInt8)×(List Int)×(List (List aJ))))):St:=⟨[(0,.ptr 186 0),(1,eF p1),(2,jV p2),(3,.ptr 187 0),(8,.ptr 8 0),(9,.ptr 9 0),(16,jV p2),(17,vI (p2.length:Int)),(18,vI kb.2.2.1)],[(8,[.nil 3]),(9,oJ (aR.mk kb.2.2.2.1)),(186,dV (bH.mk (aP.mk kb.2.2.2.2.1) (fB.mk kb.2.2.2.2.2.1 kb.2.2.2.2.2.2.1))),(187,[.tre 407,.tre 408,.tre 199,.tre 200,.tre 201,.tre 202,vB c1_6,vI c1_7]),(407,[.trc 1 (kb.2.2.2.2.2.2.2.1.map cI)]),(408,[.trc 1 (kb.2.2.2.2.2.2.2.2.map (cSl 10 aQ))]),(199,[.trc 10 (c1_2.map aQ)]),(200,[.trc 11 (c1_3.map eG)]),(201,[.trc 10 (kb.1.map aQ)]),(202,[.trc 1 (kb.2.1.map cStr)])]⟩
abbrev Zh (y:aR×bH×Bool×Int×(List Int)×(List (List aJ))):V:=(rO y.1)
abbrev aZb:=fun p1 p2 c1_6 c1_7 c1_2 c1_3 kb (r:aR×bH×Bool×Int×(List Int)×(List (List aJ)))=>Lok Tryz.prog 43 0 (BQ Zh (fun (y:aR×bH×Bool×Int×(List Int)×(List (List aJ)))=>[(186,dV y.2.1),(187,[.tre 237,.tre 238,.tre 199,.tre 200,.tre 201,.tre 202,vB y.2.2.1,vI y.2.2.2.1]),(197,[.trd]),(198,[.trd]),(199,[.trc 10 (c1_2.map aQ)]),(200,[.trc 11 (c1_3.map eG)]),(201,[.trc 10 (kb.1.map aQ)]),(202,[.trc 1 (kb.2.1.map cStr)]),(237,[.trc 1 (y.2.2.2.2.1.map cI)]),(238,[.trc 1 (y.2.2.2.2.2.map (cSl 10 aQ))])]) r) (bQ0 p1 p2 c1_6 c1_7 c1_2 c1_3 kb)
def bW4 (p1:List aR) (p2:List bI) (x18:Int) (nM:List dX) (y1:bI) (y3:aR×Int×(List UInt8)) (kc:Bool×Int×(List Int)×(((List (List aJ))×(List aJ)×(List dL)×(List aJ)×(((List (List UInt8))×(List bM)×Int×(List UInt8)))))):St:=⟨[(0,.ptr 186 0),(1,eF p1),(2,jV p2),(3,.ptr 187 0),(8,.ptr 8 0),(9,.ptr 9 0),(11,.ptr 11 0),(12,.ptr 12 0),(16,jV p2),(17,vI (p2.length:Int)),(18,vI x18)],[(8,[.nil 3]),(9,oJ (aR.mk nM)),(11,cJa y1),(12,oJ y3.1),(186,dV (bH.mk (aP.mk kc.2.2.2.2.2.2.2.2.1) (fB.mk kc.2.2.2.2.2.2.2.2.2.1 kc.2.2.2.2.2.2.2.2.2.2))),(187,[.tre 434,.tre 435,.tre 199,.tre 200,.tre 201,.tre 202,vB kc.1,vI kc.2.1]),(434,[.trc 1 (kc.2.2.1.map cI)]),(435,[.trc 1 (kc.2.2.2.1.map (cSl 10 aQ))]),(199,[.trc 10 (kc.2.2.2.2.1.map aQ)]),(200,[.trc 11 (kc.2.2.2.2.2.1.map eG)]),(201,[.trc 10 (kc.2.2.2.2.2.2.1.map aQ)]),(202,[.trc 1 (kc.2.2.2.2.2.2.2.1.map cStr)])]⟩
abbrev aVr:=fun p1 p2 x18 nM y1 y3 kc (r:aR×bH×Bool×Int×(List Int)×(List (List aJ)))=>Jok Tryz.prog 43 9 (BQ Zh (fun (y:aR×bH×Bool×Int×(List Int)×(List (List aJ)))=>[(186,dV y.2.1),(187,[.tre 237,.tre 238,.tre 199,.tre 200,.tre 201,.tre 202,vB y.2.2.1,vI y.2.2.2.1]),(197,[.trd]),(198,[.trd]),(199,[.trc 10 (kc.2.2.2.2.1.map aQ)]),(200,[.trc 11 (kc.2.2.2.2.2.1.map eG)]),(201,[.trc 10 (kc.2.2.2.2.2.2.1.map aQ)]),(202,[.trc 1 (kc.2.2.2.2.2.2.2.1.map cStr)]),(237,[.trc 1 (y.2.2.2.2.1.map cI)]),(238,[.trc 1 (y.2.2.2.2.2.map (cSl 10 aQ))])]) r) (bW4 p1 p2 x18 nM y1 y3 kc)
def cI6 (p1:List aR) (p2:List aB) (x15:Int) (aV:List bM) (aZ:Int) (bD:List UInt8) (kE:List aJ):St:=⟨[(0,.ptr 186 0),(1,eF p1),(7,.tre 404),(13,gM p2),(14,vI (p2.length:Int)),(15,vI x15)],[(186,dV (bH.mk (aP.mk aV) (fB.mk aZ bD))),(404,[.trc 10 (kE.map aQ)])]⟩
abbrev Zj (y:(List aJ)×bH):List (Nat×List V):=[(223,[.trc 10 (y.1.map aQ)]),(186,dV y.2)]
abbrev Zi (y:(List aJ)×bH):V:=(.tre 223)
abbrev bEr:=fun p1 p2 x15 aV aZ bD kE (r:(List aJ)×bH)=>Lok Tryz.prog 44 0 (BQ Zi Zj r) (cI6 p1 p2 x15 aV aZ bD kE)
def cJ5 (p1:List aR) (p2:List aB) (x15:Int) (y2:aJ×Int×bH) (kE:List aJ) (lC:List bM) (jG:Int×(List UInt8)):St:=⟨[(0,.ptr 186 0),(1,eF p1),(7,.tre 429),(10,.ptr 10 0),(13,gM p2),(14,vI (p2.length:Int)),(15,vI x15)],[(10,[vI y2.1.kind,vI y2.1.op,vB y2.1.not_,vI y2.1.value.kind,vI y2.1.value.num,vS y2.1.value.text,vI y2.1.up,vI y2.1.at_,.tre 430,.tre 431]),(186,dV (bH.mk (aP.mk lC) (fB.mk jG.1 jG.2))),(430,[.trc 10 (y2.1.kids.map aQ)]),(431,[.trc 8 (y2.1.sub.map gN)]),(429,[.trc 10 (kE.map aQ)])]⟩
abbrev bG4:=fun p1 p2 x15 y2 kE lC jG (r:(List aJ)×bH)=>Jok Tryz.prog 44 9 (BQ Zi Zj r) (cJ5 p1 p2 x15 y2 kE lC jG)


def bY7 (p1:List aR) (p2:aB) (x37:Int) (aV:List bM) (aZ:Int) (bD:List UInt8) (pU:(List aJ)×(List Int)):St:=⟨[(0,.ptr 186 0),(1,eF p1),(5,.ptr 5 0),(6,.ptr 6 0),(8,.ptr 8 0),(9,.tre 414),(10,.tre 415),(35,gM p2.kids),(36,vI (p2.kids.length:Int)),(37,vI x37)],[(5,qF p2),(6,[vI 0,vI 0,vB false,vI 0,vI 0,vS [],vI 0,vI 0,.nil 10,.nil 8]),(8,[vI p2.kind,vI p2.op,vB p2.not_,vI p2.value.kind,vI p2.value.num,vS p2.value.text,vI 0,vI 0,.tre 416,.nil 8]),(186,dV (bH.mk (aP.mk aV) (fB.mk aZ bD))),(416,[.trc 10 (pU.1.map aQ)]),(415,[.trc 1 (([]:List Int).map cI)]),(414,[.trc 1 (pU.2.map cI)])]⟩
abbrev Zk (y:aJ×Int×bH):V:=(.tup [.agv [vI y.1.kind,vI y.1.op,vB y.1.not_,vI y.1.value.kind,vI y.1.value.num,vS y.1.value.text,vI y.1.up,vI y.1.at_,.tre 229,.tre 230],vI y.2.1])
abbrev Zl (y:aJ×Int×bH):List (Nat×List V):=[(229,[.trc 10 (y.1.kids.map aQ)]),(230,[.trc 8 (y.1.sub.map gN)]),(186,dV y.2.2)]
abbrev bAt:=fun p1 p2 x37 aV aZ bD pU (r:aJ×Int×bH)=>Lok Tryz.prog 45 0 (BQ Zk Zl r) (bY7 p1 p2 x37 aV aZ bD pU)
def cEc (p1:List aR) (p2:aB) (jR:List aJ) (tJ:List Int) (x65:Int) (lM:List bM) (jC:Int×(List UInt8)×(List bA)×(List Int)):St:=⟨[(0,.ptr 186 0),(1,eF p1),(5,.ptr 5 0),(6,.ptr 6 0),(8,.ptr 8 0),(9,.tre 453),(10,.tre 454),(63,qI p2.sub),(64,vI (p2.sub.length:Int)),(65,vI x65)],[(5,qF p2),(6,[vI 0,vI 0,vB false,vI 0,vI 0,vS [],vI 0,vI 0,.nil 10,.nil 8]),(8,[vI p2.kind,vI p2.op,vB p2.not_,vI p2.value.kind,vI p2.value.num,vS p2.value.text,vI 0,vI 0,.tre 455,.tre 456]),(186,dV (bH.mk (aP.mk lM) (fB.mk jC.1 jC.2.1))),(456,[.trc 8 (jC.2.2.1.map gN)]),(455,[.trc 10 (jR.map aQ)]),(454,[.trc 1 (jC.2.2.2.map cI)]),(453,[.trc 1 (tJ.map cI)])]⟩
abbrev aYg:=fun p1 p2 jR tJ x65 lM jC (r:aJ×Int×bH)=>Lok Tryz.prog 45 1 (BQ Zk Zl r) (cEc p1 p2 jR tJ x65 lM jC)
def cJl (p1:List aR) (p2:aB) (x65:Int) (y10:bA×(List Int)×bH) (uT:List bA) (jR:List aJ) (lY:(List Int)×(List bM)×Int×(List UInt8)):St:=⟨[(0,.ptr 186 0),(1,eF p1),(5,.ptr 5 0),(6,.ptr 6 0),(8,.ptr 8 0),(9,.tre 481),(17,.ptr 17 0),(18,.tre 482),(63,qI p2.sub),(64,vI (p2.sub.length:Int)),(65,vI x65)],[(5,qF p2),(6,[vI 0,vI 0,vB false,vI 0,vI 0,vS [],vI 0,vI 0,.nil 10,.nil 8]),(8,[vI p2.kind,vI p2.op,vB p2.not_,vI p2.value.kind,vI p2.value.num,vS p2.value.text,vI 0,vI 0,.tre 483,.tre 484]),(17,[.tre 485,.tre 486,.tre 487,.tre 488,.tre 489,.tre 490,vB y10.1.distinct,vI y10.1.limit]),(186,dV (bH.mk (aP.mk lY.2.1) (fB.mk lY.2.2.1 lY.2.2.2))),(485,[.trc 1 (y10.1.tables.map cI)]),(486,[.trc 1 (y10.1.on_.map (cSl 10 aQ))]),(487,[.trc 10 (y10.1.where_.map aQ)]),(488,[.trc 11 (y10.1.order.map eG)]),(489,[.trc 10 (y10.1.items.map aQ)]),(490,[.trc 1 (y10.1.names.map cStr)]),(482,[.trc 1 (y10.2.1.map cI)]),(484,[.trc 8 (uT.map gN)]),(483,[.trc 10 (jR.map aQ)]),(481,[.trc 1 (lY.1.map cI)])]⟩
abbrev bB3:=fun p1 p2 x65 y10 uT jR lY (r:aJ×Int×bH)=>Jok Tryz.prog 45 21 (BQ Zk Zl r) (cJl p1 p2 x65 y10 uT jR lY)
def bWs (p1:List Int) (p2:List Int) (x40:Bool):St:=⟨[(1,nS p1),(2,nS p2),(40,vB x40)],[]⟩
abbrev cIj:=fun p1 p2 x40 (r:Int×Bool)=>Jok Tryz.prog 91 9 (PQ (fun y=>(.tup [vI y.1,vB y.2])) r) (bWs p1 p2 x40)


def cD7 (p0:List Int) (x4:Int) (x11:Int):St:=⟨[(4,vI x4),(9,nS p0),(10,vI (p0.length:Int)),(11,vI x11)],[]⟩
abbrev bDx:=fun p0 x4 x11 (r:Int×Bool)=>Lok Tryz.prog 126 0 (PQ (fun y=>(.tup [vI y.1,vB y.2])) r) (cD7 p0 x4 x11)


def bSu (x8:Int) (x9:Bool):St:=⟨[(8,vI x8),(9,vB x9)],[]⟩
abbrev cD2:=fun x8 x9 (r:Int×Bool)=>Jok Tryz.prog 125 2 (PQ (fun y=>(.tup [vI y.1,vB y.2])) r) (bSu x8 x9)


def cGn (p1:List UInt8) (p2:List UInt8) (p0:List aR) (x13:Int):St:=⟨[(1,vS p1),(2,vS p2),(6,.ptr 6 0),(11,eF p0),(12,vI (p0.length:Int)),(13,vI x13)],[(6,[vI 0,vI 0,vI 0])]⟩
abbrev aXv:=fun p1 p2 p0 x13 (r:wJ×Int)=>Lok Tryz.prog 89 0 (PQ (fun y=>(.tup [bNs y.1,vI y.2])) r) (cGn p1 p2 p0 x13)

def cFv (p1:List aR) (p2:List bG) (c1_0:List Int) (c1_1:List (List aJ)) (c1_2:List aJ) (c1_3:List dL) (kx20:Int×(List bM)×Int×(List UInt8)×Bool×Int×(List Int)×(List aJ)×(List (List UInt8))):St:=⟨[(0,.ptr 186 0),(1,eF p1),(3,.ptr 187 0),(9,.tre 404),(18,oQ p2),(19,vI (p2.length:Int)),(20,vI kx20.1)],[(186,dV (bH.mk (aP.mk kx20.2.1) (fB.mk kx20.2.2.1 kx20.2.2.2.1))),(187,[.tre 197,.tre 198,.tre 199,.tre 200,.tre 405,.tre 406,vB kx20.2.2.2.2.1,vI kx20.2.2.2.2.2.1]),(404,[.trc 1 (kx20.2.2.2.2.2.2.1.map cI)]),(197,[.trc 1 (c1_0.map cI)]),(198,[.trc 1 (c1_1.map (cSl 10 aQ))]),(199,[.trc 10 (c1_2.map aQ)]),(200,[.trc 11 (c1_3.map eG)]),(405,[.trc 10 (kx20.2.2.2.2.2.2.2.1.map aQ)]),(406,[.trc 1 (kx20.2.2.2.2.2.2.2.2.map cStr)])]⟩
abbrev Zm (y:(List Int)×bH×Bool×Int×(List aJ)×(List (List UInt8))):V:=(.tre 223)
abbrev aWd:=fun p1 p2 c1_0 c1_1 c1_2 c1_3 kx20 (r:(List Int)×bH×Bool×Int×(List aJ)×(List (List UInt8)))=>Lok Tryz.prog 46 0 (BQ Zm (fun (y:(List Int)×bH×Bool×Int×(List aJ)×(List (List UInt8)))=>[(223,[.trc 1 (y.1.map cI)]),(186,dV y.2.1),(187,[.tre 197,.tre 198,.tre 199,.tre 200,.tre 239,.tre 240,vB y.2.2.1,vI y.2.2.2.1]),(197,[.trc 1 (c1_0.map cI)]),(198,[.trc 1 (c1_1.map (cSl 10 aQ))]),(199,[.trc 10 (c1_2.map aQ)]),(200,[.trc 11 (c1_3.map eG)]),(201,[.trd]),(202,[.trd]),(239,[.trc 10 (y.2.2.2.2.1.map aQ)]),(240,[.trc 1 (y.2.2.2.2.2.map cStr)])]) r) (cFv p1 p2 c1_0 c1_1 c1_2 c1_3 kx20)
def bSs (p1:List aR) (p2:List bG) (x20:Int) (c1_0:List Int) (c1_1:List (List aJ)) (c1_2:List aJ) (ke:(List dL)×(List bM)×Int×(List UInt8)×Bool×Int×(List aJ)×(((List (List UInt8))×(List Int)))):St:=⟨[(0,.ptr 186 0),(1,eF p1),(3,.ptr 187 0),(9,.tre 497),(18,oQ p2),(19,vI (p2.length:Int)),(20,vI x20)],[(186,dV (bH.mk (aP.mk ke.2.1) (fB.mk ke.2.2.1 ke.2.2.2.1))),(187,[.tre 197,.tre 198,.tre 199,.tre 200,.tre 498,.tre 499,vB ke.2.2.2.2.1,vI ke.2.2.2.2.2.1]),(498,[.trc 10 (ke.2.2.2.2.2.2.1.map aQ)]),(499,[.trc 1 (ke.2.2.2.2.2.2.2.1.map cStr)]),(497,[.trc 1 (ke.2.2.2.2.2.2.2.2.map cI)]),(197,[.trc 1 (c1_0.map cI)]),(198,[.trc 1 (c1_1.map (cSl 10 aQ))]),(199,[.trc 10 (c1_2.map aQ)]),(200,[.trc 11 (ke.1.map eG)])]⟩
abbrev bE3:=fun p1 p2 x20 c1_0 c1_1 c1_2 ke (r:(List Int)×bH×Bool×Int×(List aJ)×(List (List UInt8)))=>Jok Tryz.prog 46 6 (BQ Zm (fun (y:(List Int)×bH×Bool×Int×(List aJ)×(List (List UInt8)))=>[(223,[.trc 1 (y.1.map cI)]),(186,dV y.2.1),(187,[.tre 197,.tre 198,.tre 199,.tre 200,.tre 239,.tre 240,vB y.2.2.1,vI y.2.2.2.1]),(197,[.trc 1 (c1_0.map cI)]),(198,[.trc 1 (c1_1.map (cSl 10 aQ))]),(199,[.trc 10 (c1_2.map aQ)]),(200,[.trc 11 (ke.1.map eG)]),(201,[.trd]),(202,[.trd]),(239,[.trc 10 (y.2.2.2.2.1.map aQ)]),(240,[.trc 1 (y.2.2.2.2.2.map cStr)])]) r) (bSs p1 p2 x20 c1_0 c1_1 c1_2 ke)
def bYu (p1:List aR) (y14:List Int) (p2:List bG) (x20:Int) (vT:Bool) (wR:Int) (jN:(List Int)×(List Int)×(((List (List aJ))×(List aJ)×(List dL)×(List aJ)×(((List (List UInt8))×(List bM)×Int×(List UInt8)))))):St:=⟨[(0,.ptr 186 0),(1,eF p1),(3,.ptr 187 0),(9,.tre 462),(14,.osl 14 3 1 (y14.map cI)),(18,oQ p2),(19,vI (p2.length:Int)),(20,vI x20)],[(186,dV (bH.mk (aP.mk jN.2.2.2.2.2.2.2.1) (fB.mk jN.2.2.2.2.2.2.2.2.1 jN.2.2.2.2.2.2.2.2.2))),(187,[.tre 197,.tre 198,.tre 199,.tre 200,.tre 463,.tre 464,vB vT,vI wR]),(462,[.trc 1 (jN.1.map cI)]),(197,[.trc 1 (jN.2.1.map cI)]),(198,[.trc 1 (jN.2.2.1.map (cSl 10 aQ))]),(199,[.trc 10 (jN.2.2.2.1.map aQ)]),(200,[.trc 11 (jN.2.2.2.2.1.map eG)]),(463,[.trc 10 (jN.2.2.2.2.2.1.map aQ)]),(464,[.trc 1 (jN.2.2.2.2.2.2.1.map cStr)])]⟩
abbrev aUg:=fun p1 y14 p2 x20 vT wR jN (r:(List Int)×bH×Bool×Int×(List aJ)×(List (List UInt8)))=>Jok Tryz.prog 46 18 (BQ Zm (fun (y:(List Int)×bH×Bool×Int×(List aJ)×(List (List UInt8)))=>[(223,[.trc 1 (y.1.map cI)]),(186,dV y.2.1),(187,[.tre 197,.tre 198,.tre 199,.tre 200,.tre 239,.tre 240,vB y.2.2.1,vI y.2.2.2.1]),(197,[.trc 1 (jN.2.1.map cI)]),(198,[.trc 1 (jN.2.2.1.map (cSl 10 aQ))]),(199,[.trc 10 (jN.2.2.2.1.map aQ)]),(200,[.trc 11 (jN.2.2.2.2.1.map eG)]),(201,[.trd]),(202,[.trd]),(239,[.trc 10 (y.2.2.2.2.1.map aQ)]),(240,[.trc 1 (y.2.2.2.2.2.map cStr)])]) r) (bYu p1 y14 p2 x20 vT wR jN)
def cDh (p1:List aR) (p2:List bG) (x20:Int) (y14:List Int) (c1_0:List Int) (c1_1:List (List aJ)) (ka:(List aJ)×(List dL)×Int×(List bM)×Int×(List UInt8)×Bool×Int×(List Int)×(List aJ)×(List (List UInt8))):St:=⟨[(0,.ptr 186 0),(1,eF p1),(3,.ptr 187 0),(9,.tre 465),(18,oQ p2),(19,vI (p2.length:Int)),(20,vI x20),(68,.osl 14 3 1 (y14.map cI)),(69,vI (y14.length:Int)),(70,vI ka.2.2.1)],[(186,dV (bH.mk (aP.mk ka.2.2.2.1) (fB.mk ka.2.2.2.2.1 ka.2.2.2.2.2.1))),(187,[.tre 197,.tre 198,.tre 199,.tre 200,.tre 466,.tre 467,vB ka.2.2.2.2.2.2.1,vI ka.2.2.2.2.2.2.2.1]),(465,[.trc 1 (ka.2.2.2.2.2.2.2.2.1.map cI)]),(197,[.trc 1 (c1_0.map cI)]),(198,[.trc 1 (c1_1.map (cSl 10 aQ))]),(199,[.trc 10 (ka.1.map aQ)]),(200,[.trc 11 (ka.2.1.map eG)]),(466,[.trc 10 (ka.2.2.2.2.2.2.2.2.2.1.map aQ)]),(467,[.trc 1 (ka.2.2.2.2.2.2.2.2.2.2.map cStr)])]⟩
abbrev bAu:=fun p1 p2 x20 y14 c1_0 c1_1 ka (r:(List Int)×bH×Bool×Int×(List aJ)×(List (List UInt8)))=>Lok Tryz.prog 46 1 (BQ Zm (fun (y:(List Int)×bH×Bool×Int×(List aJ)×(List (List UInt8)))=>[(223,[.trc 1 (y.1.map cI)]),(186,dV y.2.1),(187,[.tre 197,.tre 198,.tre 199,.tre 200,.tre 239,.tre 240,vB y.2.2.1,vI y.2.2.2.1]),(197,[.trc 1 (c1_0.map cI)]),(198,[.trc 1 (c1_1.map (cSl 10 aQ))]),(199,[.trc 10 (ka.1.map aQ)]),(200,[.trc 11 (ka.2.1.map eG)]),(201,[.trd]),(202,[.trd]),(239,[.trc 10 (y.2.2.2.2.1.map aQ)]),(240,[.trc 1 (y.2.2.2.2.2.map cStr)])]) r) (cDh p1 p2 x20 y14 c1_0 c1_1 ka)
def bYc (p1:List aR) (p2:List bG) (x20:Int) (y14:List Int) (x70:Int) (c1_0:List Int) (kf:(List (List aJ))×(List aJ)×(List dL)×(List bM)×Int×(List UInt8)×Bool×Int×(List Int)×(List aJ)×(List (List UInt8))):St:=⟨[(0,.ptr 186 0),(1,eF p1),(3,.ptr 187 0),(9,.tre 494),(18,oQ p2),(19,vI (p2.length:Int)),(20,vI x20),(68,.osl 14 3 1 (y14.map cI)),(69,vI (y14.length:Int)),(70,vI x70)],[(186,dV (bH.mk (aP.mk kf.2.2.2.1) (fB.mk kf.2.2.2.2.1 kf.2.2.2.2.2.1))),(187,[.tre 197,.tre 198,.tre 199,.tre 200,.tre 495,.tre 496,vB kf.2.2.2.2.2.2.1,vI kf.2.2.2.2.2.2.2.1]),(494,[.trc 1 (kf.2.2.2.2.2.2.2.2.1.map cI)]),(495,[.trc 10 (kf.2.2.2.2.2.2.2.2.2.1.map aQ)]),(496,[.trc 1 (kf.2.2.2.2.2.2.2.2.2.2.map cStr)]),(197,[.trc 1 (c1_0.map cI)]),(198,[.trc 1 (kf.1.map (cSl 10 aQ))]),(199,[.trc 10 (kf.2.1.map aQ)]),(200,[.trc 11 (kf.2.2.1.map eG)])]⟩
abbrev bC1:=fun p1 p2 x20 y14 x70 c1_0 kf (r:(List Int)×bH×Bool×Int×(List aJ)×(List (List UInt8)))=>Jok Tryz.prog 46 23 (BQ Zm (fun (y:(List Int)×bH×Bool×Int×(List aJ)×(List (List UInt8)))=>[(223,[.trc 1 (y.1.map cI)]),(186,dV y.2.1),(187,[.tre 197,.tre 198,.tre 199,.tre 200,.tre 239,.tre 240,vB y.2.2.1,vI y.2.2.2.1]),(197,[.trc 1 (c1_0.map cI)]),(198,[.trc 1 (kf.1.map (cSl 10 aQ))]),(199,[.trc 10 (kf.2.1.map aQ)]),(200,[.trc 11 (kf.2.2.1.map eG)]),(201,[.trd]),(202,[.trd]),(239,[.trc 10 (y.2.2.2.2.1.map aQ)]),(240,[.trc 1 (y.2.2.2.2.2.map cStr)])]) r) (bYc p1 p2 x20 y14 x70 c1_0 kf)






def bS6 (p0:bA) (x3:List aJ) (x12:Int):St:=⟨[(1,.ptr 1 0),(3,.osl 3 111 10 (x3.map aQ)),(10,.d (.sl 1 (p0.on_.map (cSl 10 aQ)))),(11,vI (p0.on_.length:Int)),(12,vI x12)],[(1,xV p0)]⟩
abbrev Zn (y:List aJ):V:=(.osl 188 111 10 (y.map aQ))
abbrev Zo (y:List aJ):List (Nat×List V):=[]
abbrev bBk:=fun p0 x3 x12 (r:List aJ)=>Lok Tryz.prog 48 0 (BQ Zn Zo r) (bS6 p0 x3 x12)
def cFb (p0:bA) (dI:List aJ) (x27:Int):St:=⟨[(1,.ptr 1 0),(3,.osl 3 111 10 (dI.map aQ)),(25,bZf p0.order),(26,vI (p0.order.length:Int)),(27,vI x27)],[(1,xV p0)]⟩
abbrev bCp:=fun p0 dI x27 (r:List aJ)=>Lok Tryz.prog 48 1 (BQ Zn Zo r) (cFb p0 dI x27)
def cGd (p0:List aJ) (x3:Int) (x8:Int):St:=⟨[(3,vI x3),(6,uF p0),(7,vI (p0.length:Int)),(8,vI x8)],[]⟩
abbrev aV9:=fun p0 x3 x8 r=>Lok Tryz.prog 49 0 (PQ (fun y=>(vI y)) r) (cGd p0 x3 x8)
def bZq (p0:aJ) (x3:Int) (x13:Int):St:=⟨[(3,vI x3),(11,bIt p0.sub),(12,vI (p0.sub.length:Int)),(13,vI x13)],[]⟩
abbrev aUh:=fun p0 x3 x13 r=>Lok Tryz.prog 95 0 (PQ (fun y=>(vI y)) r) (bZq p0 x3 x13)

def bXc (p0:List aJ) (x3:Int) (x8:Int):St:=⟨[(3,vI x3),(6,uF p0),(7,vI (p0.length:Int)),(8,vI x8)],[]⟩
abbrev bA2:=fun p0 x3 x8 r=>Lok Tryz.prog 47 0 (PQ (fun y=>(vI y)) r) (bXc p0 x3 x8)
def bXd (p0:aJ) (x3:Int) (x12:Int):St:=⟨[(3,vI x3),(10,bIt p0.sub),(11,vI (p0.sub.length:Int)),(12,vI x12)],[]⟩
abbrev aW9:=fun p0 x3 x12 r=>Lok Tryz.prog 94 0 (PQ (fun y=>(vI y)) r) (bXd p0 x3 x12)
def cCl (p0:List Int) (x3:Int) (x4:Int):St:=⟨[(0,aDf p0),(3,vI x3),(4,vI x4)],[]⟩
abbrev bF1:=fun p0 x3 x4 r=>Lok Tryz.prog 22 0 (BQ (fun (y:aA)=>(.ptr 31 0)) (fun (y:aA)=>[(31,aX y)]) r) (cCl p0 x3 x4)
def cIc (y1:(List aU)×Bool) (x6:Bool) (x7:Int):St:=⟨[(5,.osl 5 55 5 (y1.1.map bL)),(6,vB x6),(7,vI x7)],[]⟩
abbrev bAh:=fun y1 x6 x7 r=>Lok Tryz.prog 7 0 (PQ (fun y=>(vB y)) r) (cIc y1 x6 x7)

def cJ4 (p0:aP) (x3:Int):St:=⟨[(1,.ptr 1 0),(3,vI x3)],[(1,gY p0)]⟩
abbrev bA6:=fun p0 x3 r=>Lok Tryz.prog 34 0 (PQ (fun y=>(vB y)) r) (cJ4 p0 x3)
def bRt (x3:Int) (p0:aP) (y1:bM) (x5:Int):St:=⟨[(1,.ptr 1 0),(3,vI x3),(4,.ptr 4 0),(5,vI x5)],[(1,gY p0),(4,aMq y1)]⟩
abbrev aXc:=fun x3 p0 y1 x5 r=>Lok Tryz.prog 34 1 (PQ (fun y=>(vB y)) r) (bRt x3 p0 y1 x5)
def cIg (p1:List UInt8) (p0:aP) (x5:Int):St:=⟨[(1,vS p1),(2,.ptr 2 0),(5,vI x5)],[(2,gY p0)]⟩
abbrev bDs:=fun p1 p0 x5 r=>Lok Tryz.prog 66 0 (PQ (fun y=>(vI y)) r) (cIg p1 p0 x5)
def bWn (p1:List UInt8) (p0:bM) (x5:Int):St:=⟨[(1,vS p1),(2,.ptr 2 0),(5,vI x5)],[(2,aMq p0)]⟩
abbrev aVh:=fun p1 p0 x5 r=>Lok Tryz.prog 68 0 (PQ (fun y=>(vI y)) r) (bWn p1 p0 x5)


def cKa (p0:List aR) (p1:aB) (x6:Int) (xB:Int) (xI:Int) (xY:Int):St:=⟨[(0,eF p0),(3,.ptr 3 0),(4,.ptr 4 0),(5,.ptr 5 0),(6,vI x6)],[(3,qF p1),(4,[vS [],vS [],vI 0,vI 0,vI 0]),(5,aDu (aU.mk p1.qual p1.name xB xI xY))]⟩
abbrev Zr:=fun y=>((aBr y):V)
abbrev aZ4:=fun p0 p1 x6 xB xI xY r=>Lok Tryz.prog 113 0 (PQ Zr r) (cKa p0 p1 x6 xB xI xY)
def bVx (p0:List aR) (x6:Int) (p1:aB) (x7:Int) (qX:Int) (sQ:Int) (tZ:Int):St:=⟨[(0,eF p0),(3,.ptr 3 0),(4,.ptr 4 0),(5,.ptr 5 0),(6,vI x6),(7,vI x7)],[(3,qF p1),(4,[vS [],vS [],vI 0,vI 0,vI 0]),(5,aDu (aU.mk p1.qual p1.name qX sQ tZ))]⟩
abbrev bB8:=fun p0 x6 p1 x7 qX sQ tZ r=>Lok Tryz.prog 113 1 (PQ Zr r) (bVx p0 x6 p1 x7 qX sQ tZ)
def bXl (p1:aB) (qM:Int) (aBl:Int) (aBf:Int):St:=⟨[(4,.ptr 4 0),(5,.ptr 5 0)],[(4,[vS [],vS [],vI 0,vI 0,vI 0]),(5,aDu (aU.mk p1.qual p1.name qM aBl aBf))]⟩
abbrev bUg:=fun p1 qM aBl aBf r=>Jok Tryz.prog 113 2 (PQ Zr r) (bXl p1 qM aBl aBf)
def bRi (p0:List aR) (x6:Int) (x7:Int) (p1:aB) (wF:Int) (wH:Int) (uY:Int):St:=⟨[(0,eF p0),(3,.ptr 3 0),(4,.ptr 4 0),(5,.ptr 5 0),(6,vI x6),(7,vI x7)],[(3,qF p1),(4,[vS [],vS [],vI 0,vI 0,vI 0]),(5,aDu (aU.mk p1.qual p1.name wF wH uY))]⟩
abbrev bCd:=fun p0 x6 x7 p1 wF wH uY r=>Jok Tryz.prog 113 11 (PQ Zr r) (bRi p0 x6 x7 p1 wF wH uY)
def cGj (p1:aB) (qM:Int) (aAz:Int) (aAo:Int):St:=⟨[(4,.ptr 4 0),(5,.ptr 5 0)],[(4,[vS [],vS [],vI 0,vI 0,vI 0]),(5,aDu (aU.mk p1.qual p1.name qM aAz aAo))]⟩
abbrev bZz:=fun p1 qM aAz aAo r=>Jok Tryz.prog 113 17 (PQ Zr r) (cGj p1 qM aAz aAo)
def cCw (p1:List bI) (p0:aP) (x8:List (List UInt8)) (x9:Int) (fU:List dX):St:=⟨[(1,jV p1),(2,.ptr 2 0),(4,.ptr 4 0),(7,.ptr 7 0),(8,.osl 8 9 1 (x8.map cStr)),(9,vI x9)],[(2,gY p0),(4,[.nil 3]),(7,[.osl 78 139 3 (fU.map jK)])]⟩
abbrev aYf:=fun p1 p0 x8 x9 fU (r:aR×Int×(List UInt8))=>Lok Tryz.prog 72 0 (PQ (fun y=>(.tup [rO y.1,vI y.2.1,vS y.2.2])) r) (cCw p1 p0 x8 x9 fU)
def bQk (p1:List bI) (y7:List (List UInt8)) (x9:Int) (y4:List UInt8) (y8:bM) (p0:aP) (x13:Int) (uA:List dX):St:=⟨[(1,jV p1),(2,.ptr 2 0),(4,.ptr 4 0),(7,.ptr 7 0),(8,.osl 8 9 1 (y7.map cStr)),(9,vI x9),(11,vS y4),(12,aKf y8.cols),(13,vI x13)],[(2,gY p0),(4,[.nil 3]),(7,[.osl 78 139 3 (uA.map jK)])]⟩
abbrev aV4:=fun p1 y7 x9 y4 y8 p0 x13 uA (r:aR×Int×(List UInt8))=>Lok Tryz.prog 72 1 (PQ (fun y=>(.tup [rO y.1,vI y.2.1,vS y.2.2])) r) (bQk p1 y7 x9 y4 y8 p0 x13 uA)
def bZ2 (p0:List (List UInt8)) (p1:List UInt8) (x5:Int):St:=⟨[(0,bCt p0),(1,vS p1),(5,vI x5)],[]⟩
abbrev aUd:=fun p0 p1 x5 r=>Lok Tryz.prog 112 0 (PQ (fun y=>(vB y)) r) (bZ2 p0 p1 x5)

def bY0 (p1:List UInt8) (p0:aR) (x5:List Int) (x6:Int):St:=⟨[(1,vS p1),(2,.ptr 2 0),(5,.osl 5 3 1 (x5.map cI)),(6,vI x6)],[(2,oJ p0)]⟩
abbrev aWq:=fun p1 p0 x5 x6 (r:List Int)=>Lok Tryz.prog 76 0 (BQ Zd Ze r) (bY0 p1 p0 x5 x6)
def cEp (p1:List UInt8) (x6:Int) (p0:aR) (lV:List Int):St:=⟨[(1,vS p1),(2,.ptr 2 0),(5,.osl 5 3 1 (lV.map cI)),(6,vI x6)],[(2,oJ p0)]⟩
abbrev aV3:=fun p1 x6 p0 lV (r:List Int)=>Jok Tryz.prog 76 6 (BQ Zd Ze r) (cEp p1 x6 p0 lV)


def bUe (p0:aL) (x3:Int):St:=⟨[(1,.ptr 1 0),(3,vI x3)],[(1,kX p0)]⟩
abbrev aX3:=fun p0 x3 r=>Lok Tryz.prog 69 0 (PQ (fun y=>(vB y)) r) (bUe p0 x3)
def cFq (p0:aL) (x5:Int):St:=⟨[(1,.ptr 1 0),(5,vI x5)],[(1,kX p0)]⟩
abbrev bAi:=fun p0 x5 r=>Lok Tryz.prog 69 1 (PQ (fun y=>(vB y)) r) (cFq p0 x5)
def bUu (y24:List aB) (x8:Int):St:=⟨[(7,.osl 7 78 10 (y24.map bF)),(8,vI x8)],[]⟩
abbrev aVc:=fun y24 x8 r=>Lok Tryz.prog 69 2 (PQ (fun y=>(vB y)) r) (bUu y24 x8)

def cCz (p0:aB) (x3:Int):St:=⟨[(1,.ptr 1 0),(3,vI x3)],[(1,qF p0)]⟩
abbrev bEe:=fun p0 x3 r=>Lok Tryz.prog 107 0 (PQ (fun y=>(vB y)) r) (cCz p0 x3)



def bZ0 (p0:aL) (x3:List aB) (x4:Int):St:=⟨[(1,.ptr 1 0),(3,.osl 3 78 10 (x3.map bF)),(4,vI x4)],[(1,kX p0)]⟩
abbrev aXd:=fun p0 x3 x4 (r:List aB)=>Lok Tryz.prog 106 0 (BQ Z1 Z2 r) (bZ0 p0 x3 x4)
def bTu (x4:Int) (p0:aL) (dI:List aB):St:=⟨[(1,.ptr 1 0),(3,.osl 3 78 10 (dI.map bF)),(4,vI x4)],[(1,kX p0)]⟩
abbrev bDz:=fun x4 p0 dI (r:List aB)=>Jok Tryz.prog 106 6 (BQ Z1 Z2 r) (bTu x4 p0 dI)
def bXp (p0:aL) (xQ:List aB) (x5:Int):St:=⟨[(1,.ptr 1 0),(3,.osl 3 78 10 (xQ.map bF)),(5,vI x5)],[(1,kX p0)]⟩
abbrev aU9:=fun p0 xQ x5 (r:List aB)=>Lok Tryz.prog 106 1 (BQ Z1 Z2 r) (bXp p0 xQ x5)
def bS3 (p0:aL) (vH:List aB) (x6:Int):St:=⟨[(1,.ptr 1 0),(3,.osl 3 78 10 (vH.map bF)),(6,vI x6)],[(1,kX p0)]⟩
abbrev aZj:=fun p0 vH x6 (r:List aB)=>Lok Tryz.prog 106 2 (BQ Z1 Z2 r) (bS3 p0 vH x6)
def bQu (p0:aB) (p1:aB) (x5:Int):St:=⟨[(2,.ptr 2 0),(3,.ptr 3 0),(5,vI x5)],[(2,qF p0),(3,qF p1)]⟩
abbrev aVx:=fun p0 p1 x5 r=>Lok Tryz.prog 105 0 (PQ (fun y=>(vB y)) r) (bQu p0 p1 x5)
def bXu (p0:List aB) (p1:List aB) (x5:Int):St:=⟨[(0,gM p0),(1,gM p1),(5,vI x5)],[]⟩
abbrev bDp:=fun p0 p1 x5 r=>Lok Tryz.prog 143 0 (PQ (fun y=>(vB y)) r) (bXu p0 p1 x5)
def cDf (p0:aL) (p1:aL) (x5:Int):St:=⟨[(2,.ptr 2 0),(3,.ptr 3 0),(5,vI x5)],[(2,kX p0),(3,kX p1)]⟩
abbrev aWg:=fun p0 p1 x5 r=>Lok Tryz.prog 144 0 (PQ (fun y=>(vB y)) r) (cDf p0 p1 x5)
def bQc (p0:aL) (p1:aL) (x8:Int):St:=⟨[(2,.ptr 2 0),(3,.ptr 3 0),(8,vI x8)],[(2,kX p0),(3,kX p1)]⟩
abbrev bFq:=fun p0 p1 x8 r=>Lok Tryz.prog 144 1 (PQ (fun y=>(vB y)) r) (bQc p0 p1 x8)
def cAw (p0:aL) (p1:aL) (x11:Int):St:=⟨[(2,.ptr 2 0),(3,.ptr 3 0),(11,vI x11)],[(2,kX p0),(3,kX p1)]⟩
abbrev bEn:=fun p0 p1 x11 r=>Lok Tryz.prog 144 2 (PQ (fun y=>(vB y)) r) (cAw p0 p1 x11)
def bZo (y1:List aB) (x3:Int) (x5:Int):St:=⟨[(3,vI x3),(4,.osl 4 78 10 (y1.map bF)),(5,vI x5)],[]⟩
abbrev bD7:=fun y1 x3 x5 r=>Lok Tryz.prog 71 0 (PQ (fun y=>(vI y)) r) (bZo y1 x3 x5)
def bSn (p0:aB) (x3:Int) (x4:Int):St:=⟨[(1,.ptr 1 0),(3,vI x3),(4,vI x4)],[(1,qF p0)]⟩
abbrev bFo:=fun p0 x3 x4 r=>Lok Tryz.prog 110 0 (PQ (fun y=>(vI y)) r) (bSn p0 x3 x4)
def bY4 (p0:aB) (eH:Int) (x5:Int):St:=⟨[(1,.ptr 1 0),(3,vI eH),(5,vI x5)],[(1,qF p0)]⟩
abbrev bBp:=fun p0 eH x5 r=>Lok Tryz.prog 110 1 (PQ (fun y=>(vI y)) r) (bY4 p0 eH x5)
def bXs (y1:List aB) (x3:Int) (x5:Int):St:=⟨[(3,vI x3),(4,.osl 4 78 10 (y1.map bF)),(5,vI x5)],[]⟩
abbrev aYa:=fun y1 x3 x5 r=>Lok Tryz.prog 70 0 (PQ (fun y=>(vI y)) r) (bXs y1 x3 x5)
def cGv (p0:aB) (x3:Int) (x4:Int):St:=⟨[(1,.ptr 1 0),(3,vI x3),(4,vI x4)],[(1,qF p0)]⟩
abbrev aW4:=fun p0 x3 x4 r=>Lok Tryz.prog 109 0 (PQ (fun y=>(vI y)) r) (cGv p0 x3 x4)
def bVw (p0:aB) (dI:Int) (x5:Int):St:=⟨[(1,.ptr 1 0),(3,vI dI),(5,vI x5)],[(1,qF p0)]⟩
abbrev aXa:=fun p0 dI x5 r=>Lok Tryz.prog 109 1 (PQ (fun y=>(vI y)) r) (bVw p0 dI x5)

def cHp (V4:List bM) (fU:Bool) (X9:List aB) (Q5:Int) (nM:List Int) (U5:Int) (O5:Int) (O9:List bG) (Z8:List bI) (X5:List eX):St:=⟨[(3,.ptr 3 0),(4,.ptr 4 0),(5,.ptr 9 0),(6,.ptr 6 0),(7,.ptr 7 0)],[(3,[.nil 2]),(4,[vB false,.nil 13,.nil 3,.nil 10,.nil 11,vI 0]),(6,gY (aP.mk V4)),(7,[vB fU,.tre 472,.tre 473,gM X9,.tre 474,vI Q5]),(9,aX (aA.mk nM U5 O5)),(472,[.trc 13 (O9.map dJ)]),(473,[.trc 3 (Z8.map eD)]),(474,[.trc 11 (X5.map fJ)])]⟩
abbrev Zs (y:aA×aP×aL):V:=(.tup [.ptr 9 0,fC y.2.1,gH y.2.2])
abbrev Zt (y:aA×aP×aL):List (Nat×List V):=[(9,aX y.1)]
abbrev bR9:=fun V4 fU X9 Q5 nM U5 O5 O9 Z8 X5 (r:aA×aP×aL)=>Jok Tryz.prog 9 3 (BQ Zs Zt r) (cHp V4 fU X9 Q5 nM U5 O5 O9 Z8 X5)
def cAi (y4:aP×aL×aA) (y5:Int×aA) (qN:List bG):St:=⟨[(3,.ptr 3 0),(4,.ptr 4 0),(5,.ptr 9 0),(6,.ptr 6 0),(7,.ptr 7 0)],[(3,[.nil 2]),(4,[vB false,.nil 13,.nil 3,.nil 10,.nil 11,vI 0]),(6,gY y4.1),(7,[vB y4.2.1.distinct,.tre 436,.tre 437,.tre 438,.tre 439,vI y4.2.1.limit]),(9,aX y5.2),(436,[.trc 13 (qN.map dJ)]),(437,[.trc 3 (y4.2.1.from_.map eD)]),(438,[.trc 10 (y4.2.1.where_.map bF)]),(439,[.trc 11 (y4.2.1.order.map fJ)])]⟩
abbrev bAm:=fun y4 y5 qN (r:aA×aP×aL)=>Lok Tryz.prog 9 0 (BQ Zs Zt r) (cAi y4 y5 qN)

def cC8 (p1:Int) (y2:Int×aA) (y1:Bool×aA) (x7:Int) (aV:List Int) (aZ:Int) (oM:Int×(List bG)):St:=⟨[(0,.ptr 186 0),(1,vI p1),(4,.ptr 4 0),(5,.ptr 5 0),(6,vI (QA .i64 (1+y2.1))),(7,vI x7)],[(4,[vB false,.nil 13,.nil 3,.nil 10,.nil 11,vI 0]),(5,[vB y1.1,.tre 409,.nil 3,.nil 10,.nil 11,vI (-1)]),(186,aX (aA.mk aV aZ oM.1)),(409,[.trc 13 (oM.2.map dJ)])]⟩
abbrev Zv (y:aL×aA):List (Nat×List V):=[(224,[.trc 13 (y.1.items.map dJ)]),(225,[.trc 3 (y.1.from_.map eD)]),(226,[.trc 10 (y.1.where_.map bF)]),(227,[.trc 11 (y.1.order.map fJ)]),(186,aX y.2)]
abbrev Zu (y:aL×aA):V:=(.agv [vB y.1.distinct,.tre 224,.tre 225,.tre 226,.tre 227,vI y.1.limit])
abbrev bF7:=fun p1 y2 y1 x7 aV aZ oM (r:aL×aA)=>Lok Tryz.prog 27 0 (BQ Zu Zv r) (cC8 p1 y2 y1 x7 aV aZ oM)
def bSg (p1:Int) (y2:Int×aA) (x7:Int) (y1:Bool×aA) (yI:List Int) (yJ:Int) (wM:Int×(List bG)):St:=⟨[(0,.ptr 186 0),(1,vI p1),(4,.ptr 4 0),(5,.ptr 5 0),(6,vI (QA .i64 (1+y2.1))),(7,vI x7)],[(4,[vB false,.nil 13,.nil 3,.nil 10,.nil 11,vI 0]),(5,[vB y1.1,.tre 452,.nil 3,.nil 10,.nil 11,vI (-1)]),(186,aX (aA.mk yI yJ wM.1)),(452,[.trc 13 (wM.2.map dJ)])]⟩
abbrev aWn:=fun p1 y2 x7 y1 yI yJ wM (r:aL×aA)=>Jok Tryz.prog 27 7 (BQ Zu Zv r) (bSg p1 y2 x7 y1 yI yJ wM)
def bZx (p1:Int) (y2:Int×aA) (x7:Int) (y1:Bool×aA) (y10:aB×aA) (fE:List bG) (oU:(List UInt8)×(List Int)×Int×Int):St:=⟨[(0,.ptr 186 0),(1,vI p1),(4,.ptr 4 0),(5,.ptr 5 0),(6,vI (QA .i64 (1+y2.1))),(7,vI x7),(8,.ptr 8 0)],[(4,[vB false,.nil 13,.nil 3,.nil 10,.nil 11,vI 0]),(5,[vB y1.1,.tre 443,.nil 3,.nil 10,.nil 11,vI (-1)]),(8,[vB false,vS [],vI y10.1.kind,vI y10.1.op,vB y10.1.not_,vI y10.1.value.kind,vI y10.1.value.num,vS y10.1.value.text,vS y10.1.qual,vS y10.1.name,.tre 444,.tre 445,vS oU.1]),(186,aX (aA.mk oU.2.1 oU.2.2.1 oU.2.2.2)),(444,[.trc 10 (y10.1.kids.map bF)]),(445,[.trc 6 (y10.1.sub.map iA)]),(443,[.trc 13 (fE.map dJ)])]⟩
abbrev aVz:=fun p1 y2 x7 y1 y10 fE oU (r:aL×aA)=>Jok Tryz.prog 27 12 (BQ Zu Zv r) (bZx p1 y2 x7 y1 y10 fE oU)
def bTf (p1:Int) (y16:Int×aA) (y1:Bool×aA) (fE:List bG) (x9:Int) (wU:List Int) (oL:Int×Int×(List bI)):St:=⟨[(0,.ptr 186 0),(1,vI p1),(4,.ptr 4 0),(5,.ptr 5 0),(6,vI (QA .i64 (1+y16.1))),(9,vI x9)],[(4,[vB false,.nil 13,.nil 3,.nil 10,.nil 11,vI 0]),(5,[vB y1.1,.tre 460,.tre 461,.nil 10,.nil 11,vI (-1)]),(186,aX (aA.mk wU oL.1 oL.2.1)),(461,[.trc 3 (oL.2.2.map eD)]),(460,[.trc 13 (fE.map dJ)])]⟩
abbrev bB7:=fun p1 y16 y1 fE x9 wU oL (r:aL×aA)=>Lok Tryz.prog 27 1 (BQ Zu Zv r) (bTf p1 y16 y1 fE x9 wU oL)
def bRb (p1:Int) (y16:Int×aA) (x9:Int) (y1:Bool×aA) (y21:(List UInt8)×aA) (xN:List bI) (lJ:(List bG)×(List UInt8)×(List Int)×Int×Int):St:=⟨[(0,.ptr 186 0),(1,vI p1),(4,.ptr 4 0),(5,.ptr 5 0),(6,vI (QA .i64 (1+y16.1))),(9,vI x9),(10,.ptr 10 0)],[(4,[vB false,.nil 13,.nil 3,.nil 10,.nil 11,vI 0]),(5,[vB y1.1,.tre 479,.tre 480,.nil 10,.nil 11,vI (-1)]),(10,[vS y21.1,vS lJ.2.1,.nil 10]),(186,aX (aA.mk lJ.2.2.1 lJ.2.2.2.1 lJ.2.2.2.2)),(480,[.trc 3 (xN.map eD)]),(479,[.trc 13 (lJ.1.map dJ)])]⟩
abbrev bCn:=fun p1 y16 x9 y1 y21 xN lJ (r:aL×aA)=>Jok Tryz.prog 27 21 (BQ Zu Zv r) (bRb p1 y16 x9 y1 y21 xN lJ)
def cEa (p1:Int) (y1:Bool×aA) (fE:List bG) (yZ:List Int) (yU:Int) (yV:Int) (sG:(List aB)×(List bI)):St:=⟨[(0,.ptr 186 0),(1,vI p1),(4,.ptr 4 0),(5,.ptr 5 0)],[(4,[vB false,.nil 13,.nil 3,.nil 10,.nil 11,vI 0]),(5,[vB y1.1,.tre 505,.tre 506,.tre 507,.nil 11,vI (-1)]),(186,aX (aA.mk yZ yU yV)),(507,[.trc 10 (sG.1.map bF)]),(506,[.trc 3 (sG.2.map eD)]),(505,[.trc 13 (fE.map dJ)])]⟩
abbrev bEw:=fun p1 y1 fE yZ yU yV sG (r:aL×aA)=>Jok Tryz.prog 27 25 (BQ Zu Zv r) (cEa p1 y1 fE yZ yU yV sG)
def bYr (p1:Int) (y16:Int×aA) (x9:Int) (y1:Bool×aA) (y21:(List UInt8)×aA) (vL:List UInt8) (nA:(List bG)×(List Int)×Int×Int×(List aB)×(List bI)):St:=⟨[(0,.ptr 186 0),(1,vI p1),(4,.ptr 4 0),(5,.ptr 5 0),(6,vI (QA .i64 (1+y16.1))),(9,vI x9),(10,.ptr 10 0)],[(4,[vB false,.nil 13,.nil 3,.nil 10,.nil 11,vI 0]),(5,[vB y1.1,.tre 491,.tre 492,.nil 10,.nil 11,vI (-1)]),(10,[vS y21.1,vS vL,.tre 493]),(186,aX (aA.mk nA.2.1 nA.2.2.1 nA.2.2.2.1)),(493,[.trc 10 (nA.2.2.2.2.1.map bF)]),(492,[.trc 3 (nA.2.2.2.2.2.map eD)]),(491,[.trc 13 (nA.1.map dJ)])]⟩
abbrev aVo:=fun p1 y16 x9 y1 y21 vL nA (r:aL×aA)=>Jok Tryz.prog 27 23 (BQ Zu Zv r) (bYr p1 y16 x9 y1 y21 vL nA)
def cCg (y1:Bool×aA) (qR:List bI) (fE:List bG) (aBi:List Int) (aD3:Int) (aBq:Int) (qW:List eX) (qV:List aB):St:=⟨[(0,.ptr 186 0),(4,.ptr 4 0),(5,.ptr 5 0)],[(4,[vB false,.nil 13,.nil 3,.nil 10,.nil 11,vI 0]),(5,[vB y1.1,.tre 514,.tre 515,.tre 516,.tre 517,vI (-1)]),(186,aX (aA.mk aBi aD3 aBq)),(517,[.trc 11 (qW.map fJ)]),(516,[.trc 10 (qV.map bF)]),(515,[.trc 3 (qR.map eD)]),(514,[.trc 13 (fE.map dJ)])]⟩
abbrev bRe:=fun y1 qR fE aBi aD3 aBq qW qV (r:aL×aA)=>Jok Tryz.prog 27 27 (BQ Zu Zv r) (cCg y1 qR fE aBi aD3 aBq qW qV)
def bWl (y1:Bool×aA) (qW:List eX) (qV:List aB) (qR:List bI) (fE:List bG) (U2:Int) (R8:List Int) (U1:Int) (R9:Int):St:=⟨[(4,.ptr 4 0),(5,.ptr 5 0)],[(4,[vB false,.nil 13,.nil 3,.nil 10,.nil 11,vI 0]),(5,[vB y1.1,.tre 524,.tre 525,.tre 526,.tre 527,vI U2]),(186,aX (aA.mk R8 U1 R9)),(527,[.trc 11 (qW.map fJ)]),(526,[.trc 10 (qV.map bF)]),(525,[.trc 3 (qR.map eD)]),(524,[.trc 13 (fE.map dJ)])]⟩
abbrev cHl:=fun y1 qW qV qR fE U2 R8 U1 R9 (r:aL×aA)=>Jok Tryz.prog 27 29 (BQ Zu Zv r) (bWl y1 qW qV qR fE U2 R8 U1 R9)


def bZj (p0:aA) (x3:Int) (aZ:Int):St:=⟨[(3,vI x3)],[(186,aX (aA.mk p0.b aZ (QA .i64 ((QA .i64 (p0.h * 6364136223846793005))+1442695040888963407))))]⟩
abbrev Zx (y:Int×aA):List (Nat×List V):=[(186,aX y.2)]
abbrev Zw (y:Int×aA):V:=(vI y.1)
abbrev bWh:=fun p0 x3 aZ (r:Int×aA)=>Jok Tryz.prog 53 3 (BQ Zw Zx r) (bZj p0 x3 aZ)



def cC5 (p1:Int) (y6:Int×aA):St:=⟨[(0,.ptr 186 0),(1,vI p1),(4,.ptr 4 0)],[(4,[vI 0,vI 0,vB false,vI 0,vI 0,vS [],vS [],vS [],.nil 10,.nil 6]),(186,aX y6.2)]⟩
abbrev Zy (y:aB×aA):V:=(.agv [vI y.1.kind,vI y.1.op,vB y.1.not_,vI y.1.value.kind,vI y.1.value.num,vS y.1.value.text,vS y.1.qual,vS y.1.name,.tre 229,.tre 230])
abbrev Zz (y:aB×aA):List (Nat×List V):=[(229,[.trc 10 (y.1.kids.map bF)]),(230,[.trc 6 (y.1.sub.map iA)]),(186,aX y.2)]
abbrev aYh:=fun p1 y6 (r:aB×aA)=>Jok Tryz.prog 28 7 (BQ Zy Zz r) (cC5 p1 y6)
def cD8 (y1:(List UInt8)×aA) (iM:List UInt8) (aV:List Int) (aZ:Int) (bD:Int):St:=⟨[(0,.ptr 186 0),(2,.ptr 2 0),(3,.ptr 3 0)],[(2,[vI 0,vI 0,vB false,vI 0,vI 0,vS [],vS [],vS [],.nil 10,.nil 6]),(3,[vI 2,vI 0,vB false,vI 0,vI 0,vS [],vS iM,vS y1.1,.nil 10,.nil 6]),(186,aX (aA.mk aV aZ bD))]⟩
abbrev bXi:=fun y1 iM aV aZ bD (r:aB×aA)=>Jok Tryz.prog 59 2 (BQ Zy Zz r) (cD8 y1 iM aV aZ bD)
def bR0 (iM:List UInt8) (rD:List UInt8) (lM:List Int) (U9:Int) (Z5:Int):St:=⟨[(2,.ptr 2 0),(3,.ptr 3 0)],[(2,[vI 0,vI 0,vB false,vI 0,vI 0,vS [],vS [],vS [],.nil 10,.nil 6]),(3,[vI 2,vI 0,vB false,vI 0,vI 0,vS [],vS iM,vS rD,.nil 10,.nil 6]),(186,aX (aA.mk lM U9 Z5))]⟩
abbrev cG5:=fun iM rD lM U9 Z5 (r:aB×aA)=>Jok Tryz.prog 59 4 (BQ Zy Zz r) (bR0 iM rD lM U9 Z5)
def bPy (y1:bP×aA) (aB2:Int):St:=⟨[(2,.ptr 2 0),(3,.ptr 3 0)],[(2,[vI 0,vI 0,vS []]),(3,bHg (bP.mk y1.1.kind aB2 y1.1.text)),(186,aX y1.2)]⟩
abbrev ZB (y:bP×aA):List (Nat×List V):=[(186,aX y.2)]
abbrev ZA (y:bP×aA):V:=(yG y.1)
abbrev bXn:=fun y1 aB2 (r:bP×aA)=>Jok Tryz.prog 60 2 (BQ ZA ZB r) (bPy y1 aB2)





def bS0 (p1:Int) (p2:Int) (x8:Int) (aV:List Int) (aZ:Int) (bD:Int) (uI:List aB):St:=⟨[(0,.ptr 186 0),(1,vI p1),(2,vI p2),(7,.tre 402),(8,vI x8)],[(186,aX (aA.mk aV aZ bD)),(402,[.trc 10 (uI.map bF)])]⟩
abbrev ZD (y:(List aB)×aA):List (Nat×List V):=[(223,[.trc 10 (y.1.map bF)]),(186,aX y.2)]
abbrev ZC (y:(List aB)×aA):V:=(.tre 223)
abbrev bG9:=fun p1 p2 x8 aV aZ bD uI (r:(List aB)×aA)=>Lok Tryz.prog 61 0 (BQ ZC ZD r) (bS0 p1 p2 x8 aV aZ bD uI)
def bQ8 (eY:List bM) (aV:List Int) (aZ:Int) (bD:Int):St:=⟨[(2,.ptr 2 0),(3,.ptr 3 0)],[(2,[.nil 2]),(3,gY (aP.mk eY)),(186,aX (aA.mk aV aZ bD))]⟩
abbrev ZF (y:aP×aA):List (Nat×List V):=[(186,aX y.2)]
abbrev ZE (y:aP×aA):V:=(fC y.1)
abbrev cI4:=fun eY aV aZ bD (r:aP×aA)=>Jok Tryz.prog 26 2 (BQ ZE ZF r) (bQ8 eY aV aZ bD)
def bXm (yC:List Int) (yS:Int) (yT:Int) (nZ:List bM):St:=⟨[(0,.ptr 186 0),(2,.ptr 2 0),(3,.ptr 3 0)],[(2,[.nil 2]),(3,[.tre 449]),(186,aX (aA.mk yC yS yT)),(449,[.trc 2 (nZ.map eZ)])]⟩
abbrev aWa:=fun yC yS yT nZ (r:aP×aA)=>Lok Tryz.prog 26 0 (BQ ZE ZF r) (bXm yC yS yT nZ)
def cD3 (y1:Int×aA) (x6:Int) (aV:List Int) (aZ:Int) (bD:Int) (lF:List bM) (kN:List (List UInt8)):St:=⟨[(0,.ptr 186 0),(2,.ptr 2 0),(3,.ptr 3 0),(4,.tre 412),(5,vI (QA .i64 (1+y1.1))),(6,vI x6)],[(2,[.nil 2]),(3,[.tre 413]),(186,aX (aA.mk aV aZ bD)),(413,[.trc 2 (lF.map eZ)]),(412,[.trc 1 (kN.map cStr)])]⟩
abbrev ZH (y:aP×aA):List (Nat×List V):=[(223,[.trc 2 (y.1.tables.map eZ)]),(186,aX y.2)]
abbrev ZG (y:aP×aA):V:=(.agv [.tre 223])
abbrev aYu:=fun y1 x6 aV aZ bD lF kN (r:aP×aA)=>Lok Tryz.prog 54 0 (BQ ZG ZH r) (cD3 y1 x6 aV aZ bD lF kN)
def cEq (y1:Int×aA) (x6:Int) (y3:Int×aA) (y2:List UInt8) (lF:List bM) (kN:List (List UInt8)) (kx9:Int×(List Int)×Int×Int×(List dZ)):St:=⟨[(0,.ptr 186 0),(2,.ptr 2 0),(3,.ptr 3 0),(4,.tre 425),(5,vI (QA .i64 (1+y1.1))),(6,vI x6),(7,.ptr 7 0),(8,vI (QA .i64 (1+y3.1))),(9,vI kx9.1)],[(2,[.nil 2]),(3,[.tre 426]),(7,[vS y2,.tre 427]),(186,aX (aA.mk kx9.2.1 kx9.2.2.1 kx9.2.2.2.1)),(427,[.trc 2 (kx9.2.2.2.2.map kJ)]),(426,[.trc 2 (lF.map eZ)]),(425,[.trc 1 ((kN.set (x6).toNat y2).map cStr)])]⟩
abbrev aY8:=fun y1 x6 y3 y2 lF kN kx9 (r:aP×aA)=>Lok Tryz.prog 54 1 (BQ ZG ZH r) (cEq y1 x6 y3 y2 lF kN kx9)
def bQm (y1:Int×aA) (x6:Int) (y3:Int×aA) (x9:Int) (y2:List UInt8) (y8:Int×aA) (uV:List dZ) (lQ:(List bM)×(((List (List UInt8))×(List UInt8)×(List Int)×Int×Int))):St:=⟨[(0,.ptr 186 0),(2,.ptr 2 0),(3,.ptr 3 0),(4,.tre 446),(5,vI (QA .i64 (1+y1.1))),(6,vI x6),(7,.ptr 7 0),(8,vI (QA .i64 (1+y3.1))),(9,vI x9),(10,.ptr 10 0)],[(2,[.nil 2]),(3,[.tre 447]),(7,[vS y2,.tre 448]),(10,bPc (dZ.mk lQ.2.2.1 y8.1)),(186,aX (aA.mk lQ.2.2.2.1 lQ.2.2.2.2.1 lQ.2.2.2.2.2)),(448,[.trc 2 (uV.map kJ)]),(447,[.trc 2 (lQ.1.map eZ)]),(446,[.trc 1 ((lQ.2.1.set (x6).toNat y2).map cStr)])]⟩
abbrev bEg:=fun y1 x6 y3 x9 y2 y8 uV lQ (r:aP×aA)=>Jok Tryz.prog 54 17 (BQ ZG ZH r) (bQm y1 x6 y3 x9 y2 y8 uV lQ)
def bZr (y1:Int×aA) (x6:Int) (y3:Int×aA) (x9:Int) (y2:List UInt8) (oI:List Int) (pV:Int×Int×(List bM)×(((List (List UInt8))×(List dZ)))):St:=⟨[(0,.ptr 186 0),(2,.ptr 2 0),(3,.ptr 3 0),(4,.tre 457),(5,vI (QA .i64 (1+y1.1))),(6,vI x6),(7,.ptr 7 0),(8,vI (QA .i64 (1+y3.1))),(9,vI x9)],[(2,[.nil 2]),(3,[.tre 458]),(7,[vS y2,.tre 459]),(186,aX (aA.mk oI pV.1 pV.2.1)),(459,[.trc 2 (pV.2.2.2.2.map kJ)]),(458,[.trc 2 (pV.2.2.1.map eZ)]),(457,[.trc 1 ((pV.2.2.2.1.set (x6).toNat y2).map cStr)])]⟩
abbrev bBc:=fun y1 x6 y3 x9 y2 oI pV (r:aP×aA)=>Jok Tryz.prog 54 15 (BQ ZG ZH r) (bZr y1 x6 y3 x9 y2 oI pV)
def bVd (p0:Int) (x0:Int) (x4:List UInt8):St:=⟨[(0,vI x0),(3,vB (decide (p0<0))),(4,vS x4)],[]⟩
abbrev aX2:=fun p0 x0 x4 r=>Lok Tryz.prog 56 0 (PQ (fun y=>(vS y)) r) (bVd p0 x0 x4)
def bQj (x0:Int) (p0:Int) (x4:List UInt8) (x5:Int):St:=⟨[(0,vI x0),(3,vB (decide (p0<0))),(4,vS x4),(5,vI x5)],[]⟩
abbrev bDv:=fun x0 p0 x4 x5 r=>Jok Tryz.prog 56 10 (PQ (fun y=>(vS y)) r) (bQj x0 p0 x4 x5)


def cKr (p1:Int) (x5:List Int) (x6:Int) (aV:List Int) (aZ:Int) (bD:Int):St:=⟨[(0,.ptr 186 0),(1,vI p1),(5,.osl 5 5 1 (x5.map cU8)),(6,vI x6)],[(186,aX (aA.mk aV aZ bD))]⟩
abbrev ZI (y:(List Int)×aA):V:=(.osl 188 5 1 (y.1.map cU8))
abbrev bAz:=fun p1 x5 x6 aV aZ bD (r:(List Int)×aA)=>Lok Tryz.prog 101 0 (BQ ZI (fun (y:(List Int)×aA)=>[(186,aX y.2)]) r) (cKr p1 x5 x6 aV aZ bD)
def cHj (p0:Int) (x3:List aB) (x4:Int):St:=⟨[(0,vI p0),(2,.ptr 2 0),(3,.osl 3 78 10 (x3.map bF)),(4,vI x4)],[(2,[vI 0,vI 0,vB false,vI 0,vI 0,vS [],vS [],vS [],.nil 10,.nil 6])]⟩
abbrev aY5:=fun p0 x3 x4 r=>Lok Tryz.prog 31 0 (PQ (fun y=>(iE y)) r) (cHj p0 x3 x4)
def cIt (jF:List aB):St:=⟨[(2,.ptr 2 0),(3,.osl 3 78 10 (jF.map bF))],[(2,[vI 0,vI 0,vB false,vI 0,vI 0,vS [],vS [],vS [],.nil 10,.nil 6])]⟩
abbrev bDc:=fun jF r=>Lok Tryz.prog 31 1 (PQ (fun y=>(iE y)) r) (cIt jF)
def bWx (jF:List aB) (x6:List aB) (x7:Int):St:=⟨[(2,.ptr 2 0),(3,.osl 3 78 10 (jF.map bF)),(6,.osl 6 78 10 (x6.map bF)),(7,vI x7)],[(2,[vI 0,vI 0,vB false,vI 0,vI 0,vS [],vS [],vS [],.nil 10,.nil 6])]⟩
abbrev bAg:=fun jF x6 x7 r=>Lok Tryz.prog 31 2 (PQ (fun y=>(iE y)) r) (bWx jF x6 x7)
def cGf (yA:List aB):St:=⟨[(2,.ptr 2 0),(6,.osl 6 78 10 (yA.map bF))],[(2,[vI 0,vI 0,vB false,vI 0,vI 0,vS [],vS [],vS [],.nil 10,.nil 6])]⟩
abbrev bC0:=fun yA r=>Jok Tryz.prog 31 17 (PQ (fun y=>(iE y)) r) (cGf yA)



def bX9 (y1:List aJ) (x3:Int) (x5:Int):St:=⟨[(3,vI x3),(4,.osl 4 111 10 (y1.map aQ)),(5,vI x5)],[]⟩
abbrev bEy:=fun y1 x3 x5 r=>Lok Tryz.prog 132 0 (PQ (fun y=>(vI y)) r) (bX9 y1 x3 x5)
def bR6 (p0:aJ) (x3:Int) (x4:Int):St:=⟨[(1,.ptr 1 0),(3,vI x3),(4,vI x4)],[(1,aA1 p0)]⟩
abbrev aYz:=fun p0 x3 x4 r=>Lok Tryz.prog 162 0 (PQ (fun y=>(vI y)) r) (bR6 p0 x3 x4)
def cEh (p0:aJ) (dI:Int) (x5:Int):St:=⟨[(1,.ptr 1 0),(3,vI dI),(5,vI x5)],[(1,aA1 p0)]⟩
abbrev bCv:=fun p0 dI x5 r=>Lok Tryz.prog 162 1 (PQ (fun y=>(vI y)) r) (cEh p0 dI x5)
def bV8 (p0:bA) (x3:List aJ) (x4:Int):St:=⟨[(1,.ptr 1 0),(3,.osl 3 111 10 (x3.map aQ)),(4,vI x4)],[(1,xV p0)]⟩
abbrev aXk:=fun p0 x3 x4 (r:List aJ)=>Lok Tryz.prog 161 0 (BQ Zn Zo r) (bV8 p0 x3 x4)
def bRn (p0:bA) (dI:List aJ) (x5:Int):St:=⟨[(1,.ptr 1 0),(3,.osl 3 111 10 (dI.map aQ)),(5,vI x5)],[(1,xV p0)]⟩
abbrev aUc:=fun p0 dI x5 (r:List aJ)=>Lok Tryz.prog 161 1 (BQ Zn Zo r) (bRn p0 dI x5)
def bSv (p1:List (List Int)) (p0:aP) (p2:bA) (x8:Int):St:=⟨[(1,.d (.sl 1 (p1.map (cSl 1 cI)))),(3,.ptr 3 0),(5,.ptr 5 0),(8,vI x8)],[(3,gY p0),(5,xV p2)]⟩
abbrev ZK (y:(List Int)×Bool):V:=(.tup [.osl 188 3 1 (y.1.map cI),vB y.2])
abbrev ZL (y:(List Int)×Bool):List (Nat×List V):=[]
abbrev aVa:=fun p1 p0 p2 x8 (r:(List Int)×Bool)=>Lok Tryz.prog 134 0 (BQ ZK ZL r) (bSv p1 p0 p2 x8)
def bRf (y8:List (List Int)) (p0:aP) (p2:bA) (x14:Int):St:=⟨[(3,.ptr 3 0),(5,.ptr 5 0),(13,.osl 13 36 1 (y8.map (cSl 1 cI))),(14,vI x14)],[(3,gY p0),(5,xV p2)]⟩
abbrev aYd:=fun y8 p0 p2 x14 (r:(List Int)×Bool)=>Lok Tryz.prog 134 1 (BQ ZK ZL r) (bRf y8 p0 p2 x14)
def bTc (y8:List (List Int)) (p0:aP) (p2:bA) (x17:List Int) (x18:Int):St:=⟨[(3,.ptr 3 0),(5,.ptr 5 0),(13,.osl 13 36 1 (y8.map (cSl 1 cI))),(17,.osl 17 3 1 (x17.map cI)),(18,vI x18)],[(3,gY p0),(5,xV p2)]⟩
abbrev aZo:=fun y8 p0 p2 x17 x18 (r:(List Int)×Bool)=>Lok Tryz.prog 134 2 (BQ ZK ZL r) (bTc y8 p0 p2 x17 x18)
def bZh (p0:aP) (p1:bA) (x5:Int):St:=⟨[(2,.ptr 2 0),(3,.ptr 3 0),(5,vI x5)],[(2,gY p0),(3,xV p1)]⟩
abbrev aUz:=fun p0 p1 x5 r=>Lok Tryz.prog 164 0 (PQ (fun y=>(vB y)) r) (bZh p0 p1 x5)
def cJ7 (p0:aP) (p1:bA) (x6:Int):St:=⟨[(2,.ptr 2 0),(3,.ptr 3 0),(6,vI x6)],[(2,gY p0),(3,xV p1)]⟩
abbrev bC8:=fun p0 p1 x6 r=>Lok Tryz.prog 164 1 (PQ (fun y=>(vB y)) r) (cJ7 p0 p1 x6)
def cI3 (p1:List Int) (p0:aP) (x6:List Int) (x7:Int):St:=⟨[(1,nS p1),(2,.ptr 2 0),(6,.osl 6 3 1 (x6.map cI)),(7,vI x7)],[(2,gY p0)]⟩
abbrev bEa:=fun p1 p0 x6 x7 (r:(List Int)×Bool)=>Lok Tryz.prog 129 0 (BQ ZK ZL r) (cI3 p1 p0 x6 x7)
def cA3 (p0:bM) (x3:List Int) (x4:Int):St:=⟨[(1,.ptr 1 0),(3,.osl 3 3 1 (x3.map cI)),(4,vI x4)],[(1,aMq p0)]⟩
abbrev bDk:=fun p0 x3 x4 (r:List Int)=>Lok Tryz.prog 156 0 (BQ Zd Ze r) (cA3 p0 x3 x4)

def bVc (p1:List (List Int)) (p0:aP) (p2:aJ) (x8:List Int) (x9:Int):St:=⟨[(1,.d (.sl 1 (p1.map (cSl 1 cI)))),(3,.ptr 3 0),(5,.ptr 5 0),(8,.osl 8 3 1 (x8.map cI)),(9,vI x9)],[(3,gY p0),(5,aA1 p2)]⟩
abbrev aYt:=fun p1 p0 p2 x8 x9 (r:Int×Bool)=>Lok Tryz.prog 166 0 (PQ (fun y=>(.tup [vI y.1,vB y.2])) r) (bVc p1 p0 p2 x8 x9)
def bXq (p2:aJ) (aAt:List Int):St:=⟨[(5,.ptr 5 0),(8,.osl 8 3 1 (aAt.map cI))],[(5,aA1 p2)]⟩
abbrev bZi:=fun p2 aAt (r:Int×Bool)=>Jok Tryz.prog 166 27 (PQ (fun y=>(.tup [vI y.1,vB y.2])) r) (bXq p2 aAt)

def cH7 (p0:aJ) (y3:List aB) (y4:List aL) (rD:List UInt8):St:=⟨[(3,.ptr 3 0)],[(3,qF (aB.mk p0.kind p0.op p0.not_ p0.value [] rD y3 y4))]⟩
abbrev cB5:=fun p0 y3 y4 rD r=>Jok Tryz.prog 181 5 (PQ (fun y=>(vB y)) r) (cH7 p0 y3 y4 rD)
def cDp (p0:List Int) (x3:Int) (x4:Int):St:=⟨[(0,nS p0),(3,vI x3),(4,vI x4)],[]⟩
abbrev aXw:=fun p0 x3 x4 r=>Lok Tryz.prog 185 0 (PQ (fun y=>(vB y)) r) (cDp p0 x3 x4)


def cKt (p1:Int) (p2:Int) (x10:Int):St:=⟨[(1,vI p1),(2,vI p2),(10,vI x10)],[]⟩
abbrev cCn:=fun p1 p2 x10 (r:Int×Bool)=>Jok Tryz.prog 183 12 (PQ (fun y=>(.tup [vI y.1,vB y.2])) r) (cKt p1 p2 x10)



def cF7 (p1:List (List Int)) (p2:List aJ) (p0:aP) (x7:Int):St:=⟨[(1,.d (.sl 1 (p1.map (cSl 1 cI)))),(2,uF p2),(3,.ptr 3 0),(7,vI x7)],[(3,gY p0)]⟩
abbrev aYo:=fun p1 p2 p0 x7 r=>Lok Tryz.prog 165 0 (PQ (fun y=>(vB y)) r) (cF7 p1 p2 p0 x7)
def cDo (y1:List aJ) (x3:Int) (x5:Int):St:=⟨[(3,vI x3),(4,.osl 4 111 10 (y1.map aQ)),(5,vI x5)],[]⟩
abbrev bBa:=fun y1 x3 x5 r=>Lok Tryz.prog 133 0 (PQ (fun y=>(vI y)) r) (cDo y1 x3 x5)
def bU3 (p0:aJ) (x3:Int) (x4:Int):St:=⟨[(1,.ptr 1 0),(3,vI x3),(4,vI x4)],[(1,aA1 p0)]⟩
abbrev aWs:=fun p0 x3 x4 r=>Lok Tryz.prog 163 0 (PQ (fun y=>(vI y)) r) (bU3 p0 x3 x4)
def cKl (p0:aJ) (eH:Int) (x5:Int):St:=⟨[(1,.ptr 1 0),(3,vI eH),(5,vI x5)],[(1,aA1 p0)]⟩
abbrev bEi:=fun p0 eH x5 r=>Lok Tryz.prog 163 1 (PQ (fun y=>(vI y)) r) (cKl p0 eH x5)
def cI1 (p1:List aR) (y2:List aR) (p0:aP) (p2:bA) (y3:List aB) (x10:Int) (iG:List bI):St:=⟨[(3,.ptr 3 0),(5,.ptr 5 0),(6,.ptr 6 0),(7,vI (p1.length:Int)),(8,.osl 8 103 1 (y2.map mG)),(9,.ptr 9 0),(10,vI x10)],[(3,gY p0),(5,xV p2),(6,[vB false,.nil 13,.nil 3,.nil 10,.nil 11,vI 0]),(9,[vB p2.distinct,.nil 13,.tre 417,.tre 418,.nil 11,vI p2.limit]),(417,[.trc 3 (iG.map eD)]),(418,[.trc 10 (y3.map bF)])]⟩
abbrev ZN (y:aL):List (Nat×List V):=[(224,[.trc 13 (y.items.map dJ)]),(225,[.trc 3 (y.from_.map eD)]),(226,[.trc 10 (y.where_.map bF)]),(227,[.trc 11 (y.order.map fJ)])]
abbrev ZM (y:aL):V:=(.agv [vB y.distinct,.tre 224,.tre 225,.tre 226,.tre 227,vI y.limit])
abbrev aZp:=fun p1 y2 p0 p2 y3 x10 iG (r:aL)=>Lok Tryz.prog 98 0 (BQ ZM ZN r) (cI1 p1 y2 p0 p2 y3 x10 iG)
def bPw (y2:List aR) (p0:aP) (p2:bA) (iG:List bI) (y3:List aB) (x11:Int) (jZ:List eX):St:=⟨[(3,.ptr 3 0),(5,.ptr 5 0),(6,.ptr 6 0),(8,.osl 8 103 1 (y2.map mG)),(9,.ptr 9 0),(11,vI x11)],[(3,gY p0),(5,xV p2),(6,[vB false,.nil 13,.nil 3,.nil 10,.nil 11,vI 0]),(9,[vB p2.distinct,.nil 13,.tre 449,.tre 450,.tre 451,vI p2.limit]),(451,[.trc 11 (jZ.map fJ)]),(449,[.trc 3 (iG.map eD)]),(450,[.trc 10 (y3.map bF)])]⟩
abbrev aZ7:=fun y2 p0 p2 iG y3 x11 jZ (r:aL)=>Lok Tryz.prog 98 1 (BQ ZM ZN r) (bPw y2 p0 p2 iG y3 x11 jZ)
def bRo (y2:List aR) (p0:aP) (p2:bA) (jZ:List eX) (iG:List bI) (y3:List aB) (x12:Int) (rU:List bG):St:=⟨[(3,.ptr 3 0),(5,.ptr 5 0),(6,.ptr 6 0),(8,.osl 8 103 1 (y2.map mG)),(9,.ptr 9 0),(12,vI x12)],[(3,gY p0),(5,xV p2),(6,[vB false,.nil 13,.nil 3,.nil 10,.nil 11,vI 0]),(9,[vB p2.distinct,.tre 475,.tre 476,.tre 477,.tre 478,vI p2.limit]),(475,[.trc 13 (rU.map dJ)]),(478,[.trc 11 (jZ.map fJ)]),(476,[.trc 3 (iG.map eD)]),(477,[.trc 10 (y3.map bF)])]⟩
abbrev bBb:=fun y2 p0 p2 jZ iG y3 x12 rU (r:aL)=>Lok Tryz.prog 98 2 (BQ ZM ZN r) (bRo y2 p0 p2 jZ iG y3 x12 rU)

def bXg (p1:List aR) (p0:aP) (p2:aJ) (y1:List aB) (kV:List UInt8) (kY:List UInt8):St:=⟨[(1,eF p1),(3,.ptr 3 0),(5,.ptr 5 0),(6,.ptr 6 0),(7,.ptr 7 0)],[(3,gY p0),(5,aA1 p2),(6,[vI 0,vI 0,vB false,vI 0,vI 0,vS [],vS [],vS [],.nil 10,.nil 6]),(7,[vI p2.kind,vI p2.op,vB p2.not_,vI p2.value.kind,vI p2.value.num,vS p2.value.text,vS kV,vS kY,.tre 428,.nil 6]),(428,[.trc 10 (y1.map bF)])]⟩
abbrev ZO (y:aB):V:=(.agv [vI y.kind,vI y.op,vB y.not_,vI y.value.kind,vI y.value.num,vS y.value.text,vS y.qual,vS y.name,.tre 229,.tre 230])
abbrev ZP (y:aB):List (Nat×List V):=[(229,[.trc 10 (y.kids.map bF)]),(230,[.trc 6 (y.sub.map iA)])]
abbrev aUn:=fun p1 p0 p2 y1 kV kY (r:aB)=>Jok Tryz.prog 138 2 (BQ ZO ZP r) (bXg p1 p0 p2 y1 kV kY)
def cCy (p1:List aR) (p0:aP) (p2:aJ) (kV:List UInt8) (kY:List UInt8) (y1:List aB) (x9:Int) (rH:List aL):St:=⟨[(1,eF p1),(3,.ptr 3 0),(5,.ptr 5 0),(6,.ptr 6 0),(7,.ptr 7 0),(9,vI x9)],[(3,gY p0),(5,aA1 p2),(6,[vI 0,vI 0,vB false,vI 0,vI 0,vS [],vS [],vS [],.nil 10,.nil 6]),(7,[vI p2.kind,vI p2.op,vB p2.not_,vI p2.value.kind,vI p2.value.num,vS p2.value.text,vS kV,vS kY,.tre 432,.tre 433]),(433,[.trc 6 (rH.map iA)]),(432,[.trc 10 (y1.map bF)])]⟩
abbrev aYw:=fun p1 p0 p2 kV kY y1 x9 rH (r:aB)=>Lok Tryz.prog 138 0 (BQ ZO ZP r) (cCy p1 p0 p2 kV kY y1 x9 rH)
def cIy (p1:List aR) (p2:List aJ) (p0:aP) (x8:Int) (rP:List aB):St:=⟨[(1,eF p1),(2,uF p2),(3,.ptr 3 0),(7,.tre 403),(8,vI x8)],[(3,gY p0),(403,[.trc 10 (rP.map bF)])]⟩
abbrev ZR (y:List aB):List (Nat×List V):=[(223,[.trc 10 (y.map bF)])]
abbrev ZQ (y:List aB):V:=(.tre 223)
abbrev aXi:=fun p1 p2 p0 x8 rP (r:List aB)=>Lok Tryz.prog 136 0 (BQ ZQ ZR r) (cIy p1 p2 p0 x8 rP)
def bRs (p1:List Int) (p2:Int) (p0:aP) (x7:List dX) (x8:Int):St:=⟨[(1,nS p1),(2,vI p2),(3,.ptr 3 0),(7,.osl 7 139 3 (x7.map jK)),(8,vI x8)],[(3,gY p0)]⟩
abbrev ZS (y:List dX):V:=(.osl 188 139 3 (y.map jK))
abbrev bBs:=fun p1 p2 p0 x7 x8 (r:List dX)=>Lok Tryz.prog 135 0 (BQ ZS (fun (y:List dX)=>[]) r) (bRs p1 p2 p0 x7 x8)
def cCe (p1:List Int) (p2:Int) (x8:Int) (p0:aP) (y2:bM) (uR:List dX) (x10:Int):St:=⟨[(1,nS p1),(2,vI p2),(3,.ptr 3 0),(7,.osl 7 139 3 (uR.map jK)),(8,vI x8),(9,.ptr 9 0),(10,vI x10)],[(3,gY p0),(9,aMq y2)]⟩
abbrev aUw:=fun p1 p2 x8 p0 y2 uR x10 (r:List dX)=>Lok Tryz.prog 135 1 (BQ ZS (fun (y:List dX)=>[]) r) (cCe p1 p2 x8 p0 y2 uR x10)
def bXe (p1:Int) (y1:aP×aA) (x7:List Int) (aV:List Int) (aZ:Int) (bD:Int):St:=⟨[(0,.ptr 186 0),(1,vI p1),(4,.ptr 4 0),(5,.ptr 5 0),(6,.ptr 6 0),(7,.osl 7 3 1 (x7.map cI))],[(4,[.nil 2]),(5,[.nil 1,.nil 1,.nil 10,.nil 11,.nil 10,.nil 1,vB false,vI 0]),(6,gY y1.1),(186,aX (aA.mk aV aZ bD))]⟩
abbrev ZV (y:aP×bA×aA):List (Nat×List V):=[(231,[.trc 1 (y.2.1.tables.map cI)]),(232,[.trc 1 (y.2.1.on_.map (cSl 10 aQ))]),(233,[.trc 10 (y.2.1.where_.map aQ)]),(234,[.trc 11 (y.2.1.order.map eG)]),(235,[.trc 10 (y.2.1.items.map aQ)]),(236,[.trc 1 (y.2.1.names.map cStr)]),(186,aX y.2.2)]
abbrev ZU (y:aP×bA×aA):V:=(.tup [fC y.1,.agv [.tre 231,.tre 232,.tre 233,.tre 234,.tre 235,.tre 236,vB y.2.1.distinct,vI y.2.1.limit]])
abbrev bU6:=fun p1 y1 x7 aV aZ bD (r:aP×bA×aA)=>Jok Tryz.prog 50 3 (BQ ZU ZV r) (bXe p1 y1 x7 aV aZ bD)
def cAc (p2:List (List Int)) (p3:List Int) (p4:Int) (y2:Int×aA) (p1:aP) (y1:Bool×aA) (kx13:Int×(List Int)×Int×Int×(((List (List aJ))×(List Int)))):St:=⟨[(0,.ptr 186 0),(2,.d (.sl 1 (p2.map (cSl 1 cI)))),(3,nS p3),(4,vI p4),(6,.ptr 6 0),(10,.ptr 10 0),(11,.ptr 11 0),(12,vI (QA .i64 (1+y2.1))),(13,vI kx13.1)],[(6,gY p1),(10,[.nil 1,.nil 1,.nil 10,.nil 11,.nil 10,.nil 1,vB false,vI 0]),(11,[.tre 410,.tre 411,.nil 10,.nil 11,.nil 10,.nil 1,vB y1.1,vI (-1)]),(186,aX (aA.mk kx13.2.1 kx13.2.2.1 kx13.2.2.2.1)),(411,[.trc 1 (kx13.2.2.2.2.1.map (cSl 10 aQ))]),(410,[.trc 1 (kx13.2.2.2.2.2.map cI)])]⟩
abbrev ZX (y:bA×aA):List (Nat×List V):=[(223,[.trc 1 (y.1.tables.map cI)]),(224,[.trc 1 (y.1.on_.map (cSl 10 aQ))]),(225,[.trc 10 (y.1.where_.map aQ)]),(226,[.trc 11 (y.1.order.map eG)]),(227,[.trc 10 (y.1.items.map aQ)]),(228,[.trc 1 (y.1.names.map cStr)]),(186,aX y.2)]
abbrev ZW (y:bA×aA):V:=(.agv [.tre 223,.tre 224,.tre 225,.tre 226,.tre 227,.tre 228,vB y.1.distinct,vI y.1.limit])
abbrev bBz:=fun p2 p3 p4 y2 p1 y1 kx13 (r:bA×aA)=>Lok Tryz.prog 96 0 (BQ ZW ZX r) (cAc p2 p3 p4 y2 p1 y1 kx13)
def bXo (p2:List (List Int)) (p3:List Int) (p4:Int) (y2:Int×aA) (x13:Int) (p1:aP) (y1:Bool×aA) (ky4:(List Int)×(((List (List aJ))×(List Int)×Int×Int×(List aJ)))):St:=⟨[(0,.ptr 186 0),(2,.d (.sl 1 (p2.map (cSl 1 cI)))),(3,nS p3),(4,vI p4),(6,.ptr 6 0),(10,.ptr 10 0),(11,.ptr 11 0),(12,vI (QA .i64 (1+y2.1))),(13,vI x13),(16,.tre 440)],[(6,gY p1),(10,[.nil 1,.nil 1,.nil 10,.nil 11,.nil 10,.nil 1,vB false,vI 0]),(11,[.tre 441,.tre 442,.nil 10,.nil 11,.nil 10,.nil 1,vB y1.1,vI (-1)]),(186,aX (aA.mk ky4.2.2.1 ky4.2.2.2.1 ky4.2.2.2.2.1)),(440,[.trc 10 (ky4.2.2.2.2.2.map aQ)]),(441,[.trc 1 (ky4.1.map cI)]),(442,[.trc 1 (ky4.2.1.map (cSl 10 aQ))])]⟩
abbrev bA9:=fun p2 p3 p4 y2 x13 p1 y1 ky4 (r:bA×aA)=>Jok Tryz.prog 96 11 (BQ ZW ZX r) (bXo p2 p3 p4 y2 x13 p1 y1 ky4)
def cJj (p3:List Int) (p4:Int) (y15:List (List Int)) (p1:aP) (y1:Bool×aA) (jM:List (List aJ)) (jO:List Int) (kx20:Int×(List Int)×Int×Int×(((List (List UInt8))×(List aJ)))):St:=⟨[(0,.ptr 186 0),(3,nS p3),(4,vI p4),(6,.ptr 6 0),(10,.ptr 10 0),(11,.ptr 11 0),(19,.osl 19 36 1 (y15.map (cSl 1 cI))),(20,vI kx20.1)],[(6,gY p1),(10,[.nil 1,.nil 1,.nil 10,.nil 11,.nil 10,.nil 1,vB false,vI 0]),(11,[.tre 468,.tre 469,.nil 10,.nil 11,.tre 470,.tre 471,vB y1.1,vI (-1)]),(186,aX (aA.mk kx20.2.1 kx20.2.2.1 kx20.2.2.2.1)),(471,[.trc 1 (kx20.2.2.2.2.1.map cStr)]),(470,[.trc 10 (kx20.2.2.2.2.2.map aQ)]),(469,[.trc 1 (jM.map (cSl 10 aQ))]),(468,[.trc 1 (jO.map cI)])]⟩
abbrev bBh:=fun p3 p4 y15 p1 y1 jM jO kx20 (r:bA×aA)=>Lok Tryz.prog 96 1 (BQ ZW ZX r) (cJj p3 p4 y15 p1 y1 jM jO kx20)
def cA0 (p4:Int) (y15:List (List Int)) (p1:aP) (y1:Bool×aA) (jS:List (List UInt8)) (jU:List aJ) (mJ:(List (List aJ))×(List Int)×(List Int)×Int×Int×(List aJ)):St:=⟨[(0,.ptr 186 0),(4,vI p4),(6,.ptr 6 0),(10,.ptr 10 0),(11,.ptr 11 0),(19,.osl 19 36 1 (y15.map (cSl 1 cI)))],[(6,gY p1),(10,[.nil 1,.nil 1,.nil 10,.nil 11,.nil 10,.nil 1,vB false,vI 0]),(11,[.tre 500,.tre 501,.tre 502,.nil 11,.tre 503,.tre 504,vB y1.1,vI (-1)]),(186,aX (aA.mk mJ.2.2.1 mJ.2.2.2.1 mJ.2.2.2.2.1)),(502,[.trc 10 (mJ.2.2.2.2.2.map aQ)]),(504,[.trc 1 (jS.map cStr)]),(503,[.trc 10 (jU.map aQ)]),(501,[.trc 1 (mJ.1.map (cSl 10 aQ))]),(500,[.trc 1 (mJ.2.1.map cI)])]⟩
abbrev bCr:=fun p4 y15 p1 y1 jS jU mJ (r:bA×aA)=>Jok Tryz.prog 96 21 (BQ ZW ZX r) (cA0 p4 y15 p1 y1 jS jU mJ)
def cFm (y1:Bool×aA) (qU:List aJ) (jS:List (List UInt8)) (jU:List aJ) (jM:List (List aJ)) (jO:List Int) (aC5:List Int) (aCw:Int) (aD4:Int) (qP:List dL):St:=⟨[(0,.ptr 186 0),(10,.ptr 10 0),(11,.ptr 11 0)],[(10,[.nil 1,.nil 1,.nil 10,.nil 11,.nil 10,.nil 1,vB false,vI 0]),(11,[.tre 508,.tre 509,.tre 510,.tre 511,.tre 512,.tre 513,vB y1.1,vI (-1)]),(186,aX (aA.mk aC5 aCw aD4)),(511,[.trc 11 (qP.map eG)]),(510,[.trc 10 (qU.map aQ)]),(513,[.trc 1 (jS.map cStr)]),(512,[.trc 10 (jU.map aQ)]),(509,[.trc 1 (jM.map (cSl 10 aQ))]),(508,[.trc 1 (jO.map cI)])]⟩
abbrev bX4:=fun y1 qU jS jU jM jO aC5 aCw aD4 qP (r:bA×aA)=>Jok Tryz.prog 96 23 (BQ ZW ZX r) (cFm y1 qU jS jU jM jO aC5 aCw aD4 qP)
def cBb (y1:Bool×aA) (qP:List dL) (qU:List aJ) (jS:List (List UInt8)) (jU:List aJ) (jM:List (List aJ)) (jO:List Int) (V9:Int) (U3:List Int) (Q7:Int) (Q8:Int):St:=⟨[(10,.ptr 10 0),(11,.ptr 11 0)],[(10,[.nil 1,.nil 1,.nil 10,.nil 11,.nil 10,.nil 1,vB false,vI 0]),(11,[.tre 518,.tre 519,.tre 520,.tre 521,.tre 522,.tre 523,vB y1.1,vI V9]),(186,aX (aA.mk U3 Q7 Q8)),(521,[.trc 11 (qP.map eG)]),(520,[.trc 10 (qU.map aQ)]),(523,[.trc 1 (jS.map cStr)]),(522,[.trc 10 (jU.map aQ)]),(519,[.trc 1 (jM.map (cSl 10 aQ))]),(518,[.trc 1 (jO.map cI)])]⟩
abbrev bPx:=fun y1 qP qU jS jU jM jO V9 U3 Q7 Q8 (r:bA×aA)=>Jok Tryz.prog 96 25 (BQ ZW ZX r) (cBb y1 qP qU jS jU jM jO V9 U3 Q7 Q8)

def cHh (p1:List (List Int)) (p2:Int) (x7:Int) (x9:Int) (wI:Int) (vM:Int) (wC:Int) (jX:(List UInt8)×Int×Int×(List Int)×Int×Int):St:=⟨[(0,.ptr 186 0),(1,.d (.sl 1 (p1.map (cSl 1 cI)))),(2,vI p2),(6,.ptr 6 0),(7,vI x7),(8,.ptr 8 0),(9,vI x9)],[(6,[vI 0,vI 0,vB false,vI 0,vI 0,vS [],vI 0,vI 0,.nil 10,.nil 8]),(8,[vI wI,vI 0,vB false,vI vM,vI wC,vS jX.1,vI jX.2.1,vI jX.2.2.1,.nil 10,.nil 8]),(186,aX (aA.mk jX.2.2.2.1 jX.2.2.2.2.1 jX.2.2.2.2.2))]⟩
abbrev ZY (y:aJ×aA):V:=(.agv [vI y.1.kind,vI y.1.op,vB y.1.not_,vI y.1.value.kind,vI y.1.value.num,vS y.1.value.text,vI y.1.up,vI y.1.at_,.tre 229,.tre 230])
abbrev ZZ (y:aJ×aA):List (Nat×List V):=[(229,[.trc 10 (y.1.kids.map aQ)]),(230,[.trc 8 (y.1.sub.map gN)]),(186,aX y.2)]
abbrev bAv:=fun p1 p2 x7 x9 wI vM wC jX (r:aJ×aA)=>Lok Tryz.prog 158 0 (BQ ZY ZZ r) (cHh p1 p2 x7 x9 wI vM wC jX)
def cC9 (p1:List (List Int)) (p2:Int) (x9:Int) (tF:Int) (x10:Int) (vK:Int) (vJ:Int) (wB:Int) (jW:(List UInt8)×Int×Int×(List Int)×Int×Int):St:=⟨[(0,.ptr 186 0),(1,.d (.sl 1 (p1.map (cSl 1 cI)))),(2,vI p2),(6,.ptr 6 0),(7,vI tF),(8,.ptr 8 0),(9,vI x9),(10,vI x10)],[(6,[vI 0,vI 0,vB false,vI 0,vI 0,vS [],vI 0,vI 0,.nil 10,.nil 8]),(8,[vI vK,vI 0,vB false,vI vJ,vI wB,vS jW.1,vI jW.2.1,vI jW.2.2.1,.nil 10,.nil 8]),(186,aX (aA.mk jW.2.2.2.1 jW.2.2.2.2.1 jW.2.2.2.2.2))]⟩
abbrev aU2:=fun p1 p2 x9 tF x10 vK vJ wB jW (r:aJ×aA)=>Lok Tryz.prog 158 1 (BQ ZY ZZ r) (cC9 p1 p2 x9 tF x10 vK vJ wB jW)
def cCb (p1:List (List Int)) (p2:Int) (x9:Int) (x10:Int) (yX:Int) (yK:Int) (yF:Int) (zA:Int) (oD:(List UInt8)×Int×Int×(List Int)×Int×Int):St:=⟨[(0,.ptr 186 0),(1,.d (.sl 1 (p1.map (cSl 1 cI)))),(2,vI p2),(6,.ptr 6 0),(7,vI yX),(8,.ptr 8 0),(9,vI x9),(10,vI x10)],[(6,[vI 0,vI 0,vB false,vI 0,vI 0,vS [],vI 0,vI 0,.nil 10,.nil 8]),(8,[vI yK,vI 0,vB false,vI yF,vI zA,vS oD.1,vI oD.2.1,vI oD.2.2.1,.nil 10,.nil 8]),(186,aX (aA.mk oD.2.2.2.1 oD.2.2.2.2.1 oD.2.2.2.2.2))]⟩
abbrev bFc:=fun p1 p2 x9 x10 yX yK yF zA oD (r:aJ×aA)=>Jok Tryz.prog 158 11 (BQ ZY ZZ r) (cCb p1 p2 x9 x10 yX yK yF zA oD)
def cKf (y1:bP×aA) (aA5:Int) (aV:List Int) (aZ:Int) (bD:Int):St:=⟨[(4,.ptr 4 0),(5,.ptr 5 0)],[(4,[vI 0,vI 0,vS []]),(5,bHg (bP.mk y1.1.kind aA5 y1.1.text)),(186,aX (aA.mk aV aZ bD))]⟩
abbrev bVo:=fun y1 aA5 aV aZ bD (r:bP×aA)=>Jok Tryz.prog 157 2 (BQ ZA ZB r) (cKf y1 aA5 aV aZ bD)

def cJo (p2:List (List Int)) (p3:Int) (p4:Int) (p5:Int) (p1:aP) (x14:Int) (lZ:(List Int)×Int×Int×(List aJ)):St:=⟨[(0,.ptr 186 0),(2,.d (.sl 1 (p2.map (cSl 1 cI)))),(3,vI p3),(4,vI p4),(5,vI p5),(7,.ptr 7 0),(13,.tre 403),(14,vI x14)],[(7,gY p1),(186,aX (aA.mk lZ.1 lZ.2.1 lZ.2.2.1)),(403,[.trc 10 (lZ.2.2.2.map aQ)])]⟩
abbrev Z11 (y:(List aJ)×aA):List (Nat×List V):=[(223,[.trc 10 (y.1.map aQ)]),(186,aX y.2)]
abbrev Z10 (y:(List aJ)×aA):V:=(.tre 223)
abbrev aXr:=fun p2 p3 p4 p5 p1 x14 lZ (r:(List aJ)×aA)=>Lok Tryz.prog 159 0 (BQ Z10 Z11 r) (cJo p2 p3 p4 p5 p1 x14 lZ)
def bQn (p2:List (List Int)) (p3:Int) (y1:Int×aA) (y2:Bool×aA) (y3:Int×aA) (p1:aP) (x18:Bool):St:=⟨[(0,.ptr 186 0),(2,.d (.sl 1 (p2.map (cSl 1 cI)))),(3,vI p3),(5,.ptr 5 0),(8,.ptr 8 0),(9,vI (QA .i64 (1+y1.1))),(10,vB y2.1),(17,vI y3.1),(18,vB x18)],[(5,gY p1),(8,[vI 0,vI 0,vB false,vI 0,vI 0,vS [],vI 0,vI 0,.nil 10,.nil 8]),(186,aX y3.2)]⟩
abbrev aVq:=fun p2 p3 y1 y2 y3 p1 x18 (r:aJ×aA)=>Jok Tryz.prog 160 5 (BQ ZY ZZ r) (bQn p2 p3 y1 y2 y3 p1 x18)
def bSe (p2:List (List Int)) (p3:Int) (y1:Int×aA) (p1:aP) (y3:Int×aA):St:=⟨[(0,.ptr 186 0),(2,.d (.sl 1 (p2.map (cSl 1 cI)))),(3,vI p3),(5,.ptr 5 0),(8,.ptr 8 0),(9,vI (QA .i64 (1+y1.1)))],[(5,gY p1),(8,[vI 0,vI 0,vB false,vI 0,vI 0,vS [],vI 0,vI 0,.nil 10,.nil 8]),(186,aX y3.2)]⟩
abbrev bF0:=fun p2 p3 y1 p1 y3 (r:aJ×aA)=>Jok Tryz.prog 160 3 (BQ ZY ZZ r) (bSe p2 p3 y1 p1 y3)
def bQy (y1:Int×aA) (x6:Int) (eY:List bM) (aV:List Int) (aZ:Int) (bD:Int):St:=⟨[(0,.ptr 186 0),(2,.ptr 2 0),(3,.ptr 3 0),(4,.osl 4 9 1 (([[116],[117],[118]]:List (List UInt8)).map cStr)),(5,vI (QA .i64 (1+y1.1))),(6,vI x6)],[(2,[.nil 2]),(3,[.osl 61 95 2 (eY.map eZ)]),(186,aX (aA.mk aV aZ bD))]⟩
abbrev bDm:=fun y1 x6 eY aV aZ bD (r:aP×aA)=>Lok Tryz.prog 54 0 (BQ ZE ZF r) (bQy y1 x6 eY aV aZ bD)
def bZa (y1:Int×aA) (x6:Int) (y3:Int×aA) (eY:List bM) (y2:List UInt8) (x9:Int) (mQ:(List dZ)×(List Int)×Int×Int):St:=⟨[(0,.ptr 186 0),(2,.ptr 2 0),(3,.ptr 3 0),(4,.osl 4 9 1 (([[116],[117],[118]]:List (List UInt8)).map cStr)),(5,vI (QA .i64 (1+y1.1))),(6,vI x6),(7,.ptr 7 0),(8,vI (QA .i64 (1+y3.1))),(9,vI x9)],[(2,[.nil 2]),(3,[.osl 61 95 2 (eY.map eZ)]),(7,[vS y2,.osl 55 129 2 (mQ.1.map kJ)]),(186,aX (aA.mk mQ.2.1 mQ.2.2.1 mQ.2.2.2))]⟩
abbrev bEu:=fun y1 x6 y3 eY y2 x9 mQ (r:aP×aA)=>Lok Tryz.prog 54 1 (BQ ZE ZF r) (bZa y1 x6 y3 eY y2 x9 mQ)
def bX6 (y1:Int×aA) (x6:Int) (y3:Int×aA) (x9:Int) (eY:List bM) (y2:List UInt8) (uK:List dZ) (ky8:(Int×aA)×(List UInt8)×(List Int)×Int×Int):St:=⟨[(0,.ptr 186 0),(2,.ptr 2 0),(3,.ptr 3 0),(4,.osl 4 9 1 (([[116],[117],[118]]:List (List UInt8)).map cStr)),(5,vI (QA .i64 (1+y1.1))),(6,vI x6),(7,.ptr 7 0),(8,vI (QA .i64 (1+y3.1))),(9,vI x9),(10,.ptr 10 0)],[(2,[.nil 2]),(3,[.osl 61 95 2 (eY.map eZ)]),(7,[vS y2,.osl 55 129 2 (uK.map kJ)]),(10,bPc (dZ.mk ky8.2.1 ky8.1.1)),(186,aX (aA.mk ky8.2.2.1 ky8.2.2.2.1 ky8.2.2.2.2))]⟩
abbrev aYm:=fun y1 x6 y3 x9 eY y2 uK ky8 (r:aP×aA)=>Jok Tryz.prog 54 17 (BQ ZE ZF r) (bX6 y1 x6 y3 x9 eY y2 uK ky8)
def bXw (y1:Int×aA) (x6:Int) (y3:Int×aA) (x9:Int) (eY:List bM) (y2:List UInt8) (pY:(List Int)×Int×Int×(List dZ)):St:=⟨[(0,.ptr 186 0),(2,.ptr 2 0),(3,.ptr 3 0),(4,.osl 4 9 1 (([[116],[117],[118]]:List (List UInt8)).map cStr)),(5,vI (QA .i64 (1+y1.1))),(6,vI x6),(7,.ptr 7 0),(8,vI (QA .i64 (1+y3.1))),(9,vI x9)],[(2,[.nil 2]),(3,[.osl 61 95 2 (eY.map eZ)]),(7,[vS y2,.osl 55 129 2 (pY.2.2.2.map kJ)]),(186,aX (aA.mk pY.1 pY.2.1 pY.2.2.1))]⟩
abbrev aYv:=fun y1 x6 y3 x9 eY y2 pY (r:aP×aA)=>Jok Tryz.prog 54 15 (BQ ZE ZF r) (bXw y1 x6 y3 x9 eY y2 pY)
def cK8 (p1:aL) (x5:Int) (aV:List Int) (aZ:Int) (bD:Int) (eB:List bG):St:=⟨[(0,.ptr 186 0),(3,.ptr 3 0),(4,.ptr 4 0),(5,vI x5)],[(3,[vB p1.distinct,.tre 189,.tre 190,.tre 191,.tre 192,vI p1.limit]),(4,[vB false,.nil 13,.nil 3,.nil 10,.nil 11,vI 0]),(186,aX (aA.mk aV aZ bD)),(189,[.trc 13 (eB.map dJ)]),(190,[.trc 3 (p1.from_.map eD)]),(191,[.trc 10 (p1.where_.map bF)]),(192,[.trc 11 (p1.order.map fJ)])]⟩
abbrev Z12 (y:aL×aA):List (Nat×List V):=[(224,[.trc 13 (y.1.items.map dJ)]),(225,[.trc 3 (y.1.from_.map eD)]),(226,[.trc 10 (y.1.where_.map bF)]),(227,[.trc 11 (y.1.order.map fJ)]),(186,aX y.2),(189,[.trd]),(190,[.trd]),(191,[.trd]),(192,[.trd])]
abbrev aVp:=fun p1 x5 aV aZ bD eB (r:aL×aA)=>Lok Tryz.prog 52 0 (BQ Zu Z12 r) (cK8 p1 x5 aV aZ bD eB)
def cC1 (x5:Int) (p1:aL) (y1:Bool×aA) (oV:List bG):St:=⟨[(0,.ptr 186 0),(3,.ptr 3 0),(4,.ptr 4 0),(5,vI x5)],[(3,[vB p1.distinct,.tre 189,.tre 190,.tre 191,.tre 192,vI p1.limit]),(4,[vB false,.nil 13,.nil 3,.nil 10,.nil 11,vI 0]),(186,aX y1.2),(189,[.trc 13 (oV.map dJ)]),(190,[.trc 3 (p1.from_.map eD)]),(191,[.trc 10 (p1.where_.map bF)]),(192,[.trc 11 (p1.order.map fJ)])]⟩
abbrev bBt:=fun x5 p1 y1 oV (r:aL×aA)=>Jok Tryz.prog 52 6 (BQ Zu Z12 r) (cC1 x5 p1 y1 oV)
def cIr (p1:aL) (eB:List bG) (x6:Int) (wX:List Int) (xR:Int) (wV:Int) (nQ:List bI):St:=⟨[(0,.ptr 186 0),(3,.ptr 3 0),(4,.ptr 4 0),(6,vI x6)],[(3,[vB p1.distinct,.tre 189,.tre 190,.tre 191,.tre 192,vI p1.limit]),(4,[vB false,.nil 13,.nil 3,.nil 10,.nil 11,vI 0]),(186,aX (aA.mk wX xR wV)),(189,[.trc 13 (eB.map dJ)]),(190,[.trc 3 (nQ.map eD)]),(191,[.trc 10 (p1.where_.map bF)]),(192,[.trc 11 (p1.order.map fJ)])]⟩
abbrev aU3:=fun p1 eB x6 wX xR wV nQ (r:aL×aA)=>Lok Tryz.prog 52 1 (BQ Zu Z12 r) (cIr p1 eB x6 wX xR wV nQ)
def cAb (p1:aL) (eB:List bG) (oI:List Int) (aD0:Int) (aCs:Int) (iX:List bI):St:=⟨[(0,.ptr 186 0),(3,.ptr 3 0),(4,.ptr 4 0)],[(3,[vB p1.distinct,.tre 189,.tre 190,.tre 191,.tre 192,vI p1.limit]),(4,[vB false,.nil 13,.nil 3,.nil 10,.nil 11,vI 0]),(186,aX (aA.mk oI aD0 aCs)),(189,[.trc 13 (eB.map dJ)]),(190,[.trc 3 (iX.map eD)]),(191,[.trc 10 (p1.where_.map bF)]),(192,[.trc 11 (p1.order.map fJ)])]⟩
abbrev cHb:=fun p1 eB oI aD0 aCs iX (r:aL×aA)=>Jok Tryz.prog 52 9 (BQ Zu Z12 r) (cAb p1 eB oI aD0 aCs iX)
def bRy (x5:Int) (p1:aL) (uZ:List Int) (vZ:Int) (vC:Int) (wT:List bG):St:=⟨[(0,.ptr 186 0),(3,.ptr 3 0),(4,.ptr 4 0),(5,vI x5)],[(3,[vB p1.distinct,.tre 189,.tre 190,.tre 191,.tre 192,vI p1.limit]),(4,[vB false,.nil 13,.nil 3,.nil 10,.nil 11,vI 0]),(186,aX (aA.mk uZ vZ vC)),(189,[.trc 13 (wT.map dJ)]),(190,[.trc 3 (p1.from_.map eD)]),(191,[.trc 10 (p1.where_.map bF)]),(192,[.trc 11 (p1.order.map fJ)])]⟩
abbrev aX0:=fun x5 p1 uZ vZ vC wT (r:aL×aA)=>Jok Tryz.prog 52 5 (BQ Zu Z12 r) (bRy x5 p1 uZ vZ vC wT)
def bSf (x6:Int) (p1:aL) (y22:Bool×aA) (eB:List bG) (vU:List bI):St:=⟨[(0,.ptr 186 0),(3,.ptr 3 0),(4,.ptr 4 0),(6,vI x6)],[(3,[vB p1.distinct,.tre 189,.tre 190,.tre 191,.tre 192,vI p1.limit]),(4,[vB false,.nil 13,.nil 3,.nil 10,.nil 11,vI 0]),(186,aX y22.2),(189,[.trc 13 (eB.map dJ)]),(190,[.trc 3 (vU.map eD)]),(191,[.trc 10 (p1.where_.map bF)]),(192,[.trc 11 (p1.order.map fJ)])]⟩
abbrev aXf:=fun x6 p1 y22 eB vU (r:aL×aA)=>Jok Tryz.prog 52 14 (BQ Zu Z12 r) (bSf x6 p1 y22 eB vU)
def cF5 (p1:aL) (eB:List bG) (iX:List bI) (x7:Int) (xJ:List Int) (xA:Int) (xK:Int) (iW:List aB):St:=⟨[(0,.ptr 186 0),(3,.ptr 3 0),(4,.ptr 4 0),(7,vI x7)],[(3,[vB p1.distinct,.tre 189,.tre 190,.tre 191,.tre 192,vI p1.limit]),(4,[vB false,.nil 13,.nil 3,.nil 10,.nil 11,vI 0]),(186,aX (aA.mk xJ xA xK)),(189,[.trc 13 (eB.map dJ)]),(190,[.trc 3 (iX.map eD)]),(191,[.trc 10 (iW.map bF)]),(192,[.trc 11 (p1.order.map fJ)])]⟩
abbrev bDj:=fun p1 eB iX x7 xJ xA xK iW (r:aL×aA)=>Lok Tryz.prog 52 2 (BQ Zu Z12 r) (cF5 p1 eB iX x7 xJ xA xK iW)
def bRx (p1:aL) (iX:List bI) (iW:List aB) (x8:Int) (vO:List Int) (wQ:Int) (vW:Int) (mV:List bG):St:=⟨[(0,.ptr 186 0),(3,.ptr 3 0),(4,.ptr 4 0),(8,vI x8)],[(3,[vB p1.distinct,.tre 189,.tre 190,.tre 191,.tre 192,vI p1.limit]),(4,[vB false,.nil 13,.nil 3,.nil 10,.nil 11,vI 0]),(186,aX (aA.mk vO wQ vW)),(189,[.trc 13 (mV.map dJ)]),(190,[.trc 3 (iX.map eD)]),(191,[.trc 10 (iW.map bF)]),(192,[.trc 11 (p1.order.map fJ)])]⟩
abbrev aVs:=fun p1 iX iW x8 vO wQ vW mV (r:aL×aA)=>Lok Tryz.prog 52 3 (BQ Zu Z12 r) (bRx p1 iX iW x8 vO wQ vW mV)
def cDs (p1:aB) (iM:List UInt8) (aV:List Int) (aZ:Int) (bD:Int):St:=⟨[(0,.ptr 186 0),(3,.ptr 3 0),(4,.ptr 4 0)],[(3,[vI p1.kind,vI p1.op,vB p1.not_,vI p1.value.kind,vI p1.value.num,vS p1.value.text,vS iM,vS p1.name,.tre 193,.tre 194]),(4,[vI 0,vI 0,vB false,vI 0,vI 0,vS [],vS [],vS [],.nil 10,.nil 6]),(186,aX (aA.mk aV aZ bD)),(193,[.trc 10 (p1.kids.map bF)]),(194,[.trc 6 (p1.sub.map iA)])]⟩
abbrev Z13 (y:aB×aA):List (Nat×List V):=[(229,[.trc 10 (y.1.kids.map bF)]),(230,[.trc 6 (y.1.sub.map iA)]),(186,aX y.2),(193,[.trd]),(194,[.trd])]
abbrev aUa:=fun p1 iM aV aZ bD (r:aB×aA)=>Jok Tryz.prog 99 1 (BQ Zy Z13 r) (cDs p1 iM aV aZ bD)
def cEk (p1:aB) (iM:List UInt8) (x5:Int) (vV:List Int) (vG:Int) (vN:Int) (mX:List aB):St:=⟨[(0,.ptr 186 0),(3,.ptr 3 0),(4,.ptr 4 0),(5,vI x5)],[(3,[vI p1.kind,vI p1.op,vB p1.not_,vI p1.value.kind,vI p1.value.num,vS p1.value.text,vS iM,vS p1.name,.tre 193,.tre 194]),(4,[vI 0,vI 0,vB false,vI 0,vI 0,vS [],vS [],vS [],.nil 10,.nil 6]),(186,aX (aA.mk vV vG vN)),(193,[.trc 10 (mX.map bF)]),(194,[.trc 6 (p1.sub.map iA)])]⟩
abbrev aTy:=fun p1 iM x5 vV vG vN mX (r:aB×aA)=>Lok Tryz.prog 99 0 (BQ Zy Z13 r) (cEk p1 iM x5 vV vG vN mX)
def cKm (p1:List aR) (p0:aP) (p2:aL) (y1:aR×Int×(List UInt8)) (x3:List aU) (x13:Bool) (x14:Int):St:=⟨[(1,.osl 203 103 1 (p1.map mG)),(3,.osl 204 55 5 (x3.map bL)),(4,.ptr 4 0),(6,.ptr 6 0),(10,.ptr 10 0),(13,vB x13),(14,vI x14)],[(4,gY p0),(6,kX p2),(10,oJ y1.1)]⟩
abbrev Z14 (y:(List aU)×Bool):V:=(.tup [.osl 188 55 5 (y.1.map bL),vB y.2])
abbrev Z15 (y:(List aU)×Bool):List (Nat×List V):=[]
abbrev aW6:=fun p1 p0 p2 y1 x3 x13 x14 (r:(List aU)×Bool)=>Lok Tryz.prog 36 0 (BQ Z14 Z15 r) (cKm p1 p0 p2 y1 x3 x13 x14)
def cKq (p0:aP) (p2:aL) (y1:aR×Int×(List UInt8)) (nE:List aU) (nJ:Bool) (x18:List aR):St:=⟨[(3,.osl 3 55 5 (nE.map bL)),(4,.ptr 4 0),(6,.ptr 6 0),(10,.ptr 10 0),(13,vB nJ),(18,eF x18)],[(4,gY p0),(6,kX p2),(10,oJ y1.1)]⟩
abbrev bXj:=fun p0 p2 y1 nE nJ x18 (r:(List aU)×Bool)=>Jok Tryz.prog 36 13 (BQ Z14 Z15 r) (cKq p0 p2 y1 nE nJ x18)
def cJ3 (x18:List aR) (p0:aP) (p2:aL) (y1:aR×Int×(List UInt8)) (kL:List aU) (jY:Bool) (x19:Int):St:=⟨[(3,.osl 3 55 5 (kL.map bL)),(4,.ptr 4 0),(6,.ptr 6 0),(10,.ptr 10 0),(13,vB jY),(18,eF x18),(19,vI x19)],[(4,gY p0),(6,kX p2),(10,oJ y1.1)]⟩
abbrev bF6:=fun x18 p0 p2 y1 kL jY x19 (r:(List aU)×Bool)=>Lok Tryz.prog 36 1 (BQ Z14 Z15 r) (cJ3 x18 p0 p2 y1 kL jY x19)
def cIz (x18:List aR) (p0:aP) (p2:aL) (y1:aR×Int×(List UInt8)) (jA:List aU) (eT:Bool) (x20:Int):St:=⟨[(3,.osl 3 55 5 (jA.map bL)),(4,.ptr 4 0),(6,.ptr 6 0),(10,.ptr 10 0),(13,vB eT),(18,eF x18),(20,vI x20)],[(4,gY p0),(6,kX p2),(10,oJ y1.1)]⟩
abbrev bEv:=fun x18 p0 p2 y1 jA eT x20 (r:(List aU)×Bool)=>Lok Tryz.prog 36 2 (BQ Z14 Z15 r) (cIz x18 p0 p2 y1 jA eT x20)
def bVh (x18:List aR) (x20:Int) (p0:aP) (p2:aL) (y1:aR×Int×(List UInt8)) (kM:List aU) (kR:Bool):St:=⟨[(3,.osl 221 55 5 (kM.map bL)),(4,.ptr 4 0),(6,.ptr 6 0),(10,.ptr 10 0),(13,vB kR),(18,eF x18),(20,vI x20)],[(4,gY p0),(6,kX p2),(10,oJ y1.1)]⟩
abbrev bCc:=fun x18 x20 p0 p2 y1 kM kR (r:(List aU)×Bool)=>Jok Tryz.prog 36 24 (BQ Z14 Z15 r) (bVh x18 x20 p0 p2 y1 kM kR)
def cDb (eT:Bool) (x18:List aR) (x20:Int) (y26:List Int) (p0:aP) (p2:aL) (y1:aR×Int×(List UInt8)) (qA:List aU) (x22:Int):St:=⟨[(3,.osl 3 55 5 (qA.map bL)),(4,.ptr 4 0),(6,.ptr 6 0),(10,.ptr 10 0),(13,vB eT),(18,eF x18),(20,vI x20),(21,.osl 21 3 1 (y26.map cI)),(22,vI x22)],[(4,gY p0),(6,kX p2),(10,oJ y1.1)]⟩
abbrev aW5:=fun eT x18 x20 y26 p0 p2 y1 qA x22 (r:(List aU)×Bool)=>Lok Tryz.prog 36 3 (BQ Z14 Z15 r) (cDb eT x18 x20 y26 p0 p2 y1 qA x22)
def cGp (p1:List aR) (p0:aP) (p2:aB) (x3:List aU):St:=⟨[(1,eF p1),(3,.osl 3 55 5 (x3.map bL)),(4,.ptr 4 0),(6,.ptr 6 0),(10,vB true)],[(4,gY p0),(6,qF p2)]⟩
abbrev bCz:=fun p1 p0 p2 x3 (r:(List aU)×Bool)=>Jok Tryz.prog 75 2 (BQ Z14 Z15 r) (cGp p1 p0 p2 x3)
def cK3 (p1:List aR) (p0:aP) (p2:aB) (eH:List aU) (x10:Bool) (x11:Int):St:=⟨[(1,eF p1),(3,.osl 3 55 5 (eH.map bL)),(4,.ptr 4 0),(6,.ptr 6 0),(10,vB x10),(11,vI x11)],[(4,gY p0),(6,qF p2)]⟩
abbrev bGe:=fun p1 p0 p2 eH x10 x11 (r:(List aU)×Bool)=>Lok Tryz.prog 75 0 (BQ Z14 Z15 r) (cK3 p1 p0 p2 eH x10 x11)
def cD6 (p1:List aR) (p0:aP) (p2:aB) (sI:List aU) (tY:Bool) (x12:Int):St:=⟨[(1,eF p1),(3,.osl 3 55 5 (sI.map bL)),(4,.ptr 4 0),(6,.ptr 6 0),(10,vB tY),(12,vI x12)],[(4,gY p0),(6,qF p2)]⟩
abbrev bBq:=fun p1 p0 p2 sI tY x12 (r:(List aU)×Bool)=>Lok Tryz.prog 75 1 (BQ Z14 Z15 r) (cD6 p1 p0 p2 sI tY x12)
def bT5 (p1:List aR) (p0:aP) (p2:aL) (y1:aR×Int×(List UInt8)) (x3:List aU) (x13:Bool) (x14:Int):St:=⟨[(1,eF p1),(3,.osl 204 55 5 (x3.map bL)),(4,.ptr 4 0),(6,.ptr 6 0),(10,.ptr 10 0),(13,vB x13),(14,vI x14)],[(4,gY p0),(6,kX p2),(10,oJ y1.1)]⟩
abbrev aWy:=fun p1 p0 p2 y1 x3 x13 x14 (r:(List aU)×Bool)=>Lok Tryz.prog 36 0 (BQ Z14 Z15 r) (bT5 p1 p0 p2 y1 x3 x13 x14)
def bT1 (p0:aP) (p2:aL) (y1:aR×Int×(List UInt8)) (nE:List aU) (nJ:Bool) (x18:List aR):St:=⟨[(3,.osl 3 55 5 (nE.map bL)),(4,.ptr 4 0),(6,.ptr 6 0),(10,.ptr 10 0),(13,vB nJ),(18,eF x18)],[(4,gY p0),(6,kX p2),(10,oJ y1.1)]⟩
abbrev bEx:=fun p0 p2 y1 nE nJ x18 (r:(List aU)×Bool)=>Jok Tryz.prog 36 13 (BQ Z14 Z15 r) (bT1 p0 p2 y1 nE nJ x18)
def bYf (x18:List aR) (p0:aP) (p2:aL) (y1:aR×Int×(List UInt8)) (kL:List aU) (jY:Bool) (x19:Int):St:=⟨[(3,.osl 3 55 5 (kL.map bL)),(4,.ptr 4 0),(6,.ptr 6 0),(10,.ptr 10 0),(13,vB jY),(18,eF x18),(19,vI x19)],[(4,gY p0),(6,kX p2),(10,oJ y1.1)]⟩
abbrev aUe:=fun x18 p0 p2 y1 kL jY x19 (r:(List aU)×Bool)=>Lok Tryz.prog 36 1 (BQ Z14 Z15 r) (bYf x18 p0 p2 y1 kL jY x19)
def cGx (x18:List aR) (p0:aP) (p2:aL) (y1:aR×Int×(List UInt8)) (jA:List aU) (eT:Bool) (x20:Int):St:=⟨[(3,.osl 3 55 5 (jA.map bL)),(4,.ptr 4 0),(6,.ptr 6 0),(10,.ptr 10 0),(13,vB eT),(18,eF x18),(20,vI x20)],[(4,gY p0),(6,kX p2),(10,oJ y1.1)]⟩
abbrev aWz:=fun x18 p0 p2 y1 jA eT x20 (r:(List aU)×Bool)=>Lok Tryz.prog 36 2 (BQ Z14 Z15 r) (cGx x18 p0 p2 y1 jA eT x20)
def cDv (x18:List aR) (x20:Int) (p0:aP) (p2:aL) (y1:aR×Int×(List UInt8)) (kM:List aU) (kR:Bool):St:=⟨[(3,.osl 221 55 5 (kM.map bL)),(4,.ptr 4 0),(6,.ptr 6 0),(10,.ptr 10 0),(13,vB kR),(18,eF x18),(20,vI x20)],[(4,gY p0),(6,kX p2),(10,oJ y1.1)]⟩
abbrev aZr:=fun x18 x20 p0 p2 y1 kM kR (r:(List aU)×Bool)=>Jok Tryz.prog 36 24 (BQ Z14 Z15 r) (cDv x18 x20 p0 p2 y1 kM kR)
def bS7 (eT:Bool) (x18:List aR) (x20:Int) (y26:List Int) (p0:aP) (p2:aL) (y1:aR×Int×(List UInt8)) (oW:(List aU)×Int):St:=⟨[(3,.osl 3 55 5 (oW.1.map bL)),(4,.ptr 4 0),(6,.ptr 6 0),(10,.ptr 10 0),(13,vB eT),(18,eF x18),(20,vI x20),(21,.osl 21 3 1 (y26.map cI)),(22,vI oW.2)],[(4,gY p0),(6,kX p2),(10,oJ y1.1)]⟩
abbrev bAe:=fun eT x18 x20 y26 p0 p2 y1 oW (r:(List aU)×Bool)=>Lok Tryz.prog 36 3 (BQ Z14 Z15 r) (bS7 eT x18 x20 y26 p0 p2 y1 oW)
def cGb (p2:List aB) (p0:aP) (x1:List aR) (x3:List aU) (x10:Bool) (x11:Int):St:=⟨[(1,eF x1),(2,gM p2),(3,.osl 204 55 5 (x3.map bL)),(4,.ptr 4 0),(10,vB x10),(11,vI x11)],[(4,gY p0)]⟩
abbrev bCb:=fun p2 p0 x1 x3 x10 x11 (r:(List aU)×Bool)=>Lok Tryz.prog 73 0 (BQ Z14 Z15 r) (cGb p2 p0 x1 x3 x10 x11)

theorem cJy (x:dZ) (h:∀ d∈kJ x,OkD d):okGCol x:=⟨wP _ (eQ h 0 1),nI _ (eQ h 1 1)⟩
theorem bUp (x:bM) (h:∀ d∈eZ x,OkD d):okGTable x:=⟨wP _ (eQ h 0 1),aB5 _ (fun y hy=>cJy y hy) (eQ h 1 1)⟩
theorem bPp (x:aP) (h:∀ d∈aUt x,OkD d):okGCatalog x:=aB5 _ (fun y hy=>bUp y hy) (eQ h 0 1)
theorem bHr (x:bP) (h:∀ d∈aDm x,OkD d):okGValue x:=⟨nI _ (eQ h 0 1),nI _ (eQ h 1 1),wP _ (eQ h 2 1)⟩
mutual
theorem bB2:∀ x:aB,(∀ d∈bF x,OkD d)→okGExpr x
  | ⟨a0,a1,a2,a3,a4,a5,a6,a7⟩,h0=>by
    rw [lG] at h0
    have h:∀ d∈lD ⟨a0,a1,a2,a3,a4,a5,a6,a7⟩,OkD d:=h0
    unfold okGExpr
    exact ⟨nI _ (eQ h 0 1),nI _ (eQ h 1 1),trivial,bHr a3 (eQ h 3 3),wP _ (eQ h 6 1),wP _ (eQ h 7 1),⟨by simpa using (mM (eQ h 8 1)).1,aQy a6 (mM (eQ h 8 1)).2⟩,⟨by simpa using (mM (eQ h 9 1)).1,bK9 a7 (mM (eQ h 9 1)).2⟩⟩
theorem cA6:∀ x:bG,(∀ d∈dJ x,OkD d)→okGItem x
  | ⟨a0,a1,a2,a3⟩,h0=>by
    rw [wN] at h0
    have h:∀ d∈uL ⟨a0,a1,a2,a3⟩,OkD d:=h0
    unfold okGItem
    exact ⟨trivial,wP _ (eQ h 1 1),bB2 a2 (by rw [lG]; exact (eQ h 2 10)),wP _ (eQ h 12 1)⟩
theorem bYe:∀ x:aL,(∀ d∈iA x,OkD d)→okGQuery x
  | ⟨a0,a1,a2,a3,a4,a5⟩,h0=>by
    rw [aJ8] at h0
    have h:∀ d∈J9 ⟨a0,a1,a2,a3,a4,a5⟩,OkD d:=h0
    unfold okGQuery
    exact ⟨trivial,⟨by simpa using (mM (eQ h 1 1)).1,bI1 a1 (mM (eQ h 1 1)).2⟩,⟨by simpa using (mM (eQ h 2 1)).1,bP8 a2 (mM (eQ h 2 1)).2⟩,⟨by simpa using (mM (eQ h 3 1)).1,aQy a3 (mM (eQ h 3 1)).2⟩,⟨by simpa using (mM (eQ h 4 1)).1,bMg a4 (mM (eQ h 4 1)).2⟩,nI _ (eQ h 5 1)⟩
theorem bWj:∀ x:eX,(∀ d∈fJ x,OkD d)→okGSortKey x
  | ⟨a0,a1⟩,h0=>by
    rw [aJ0] at h0
    have h:∀ d∈zP ⟨a0,a1⟩,OkD d:=h0
    unfold okGSortKey
    exact ⟨bB2 a0 (by rw [lG]; exact (eQ h 0 10)),trivial⟩
theorem bV2:∀ x:bI,(∀ d∈eD x,OkD d)→okGSource x
  | ⟨a0,a1,a2⟩,h0=>by
    rw [aAb] at h0
    have h:∀ d∈D7 ⟨a0,a1,a2⟩,OkD d:=h0
    unfold okGSource
    exact ⟨wP _ (eQ h 0 1),wP _ (eQ h 1 1),⟨by simpa using (mM (eQ h 2 1)).1,aQy a2 (mM (eQ h 2 1)).2⟩⟩
theorem aQy:∀ l:List aB,(∀ x∈l.map bF,∀ d∈x,OkD d)→okLGExpr l
  | [],_=>by unfold okLGExpr; trivial
  | x::l,h=>by
    unfold okLGExpr
    exact ⟨bB2 x (h _ (by simp)),aQy l fun y hy=>h y (QE _ hy)⟩
theorem bI1:∀ l:List bG,(∀ x∈l.map dJ,∀ d∈x,OkD d)→okLGItem l
  | [],_=>by unfold okLGItem; trivial
  | x::l,h=>by
    unfold okLGItem
    exact ⟨cA6 x (h _ (by simp)),bI1 l fun y hy=>h y (QE _ hy)⟩
theorem bK9:∀ l:List aL,(∀ x∈l.map iA,∀ d∈x,OkD d)→okLGQuery l
  | [],_=>by unfold okLGQuery; trivial
  | x::l,h=>by
    unfold okLGQuery
    exact ⟨bYe x (h _ (by simp)),bK9 l fun y hy=>h y (QE _ hy)⟩
theorem bMg:∀ l:List eX,(∀ x∈l.map fJ,∀ d∈x,OkD d)→okLGSortKey l
  | [],_=>by unfold okLGSortKey; trivial
  | x::l,h=>by
    unfold okLGSortKey
    exact ⟨bWj x (h _ (by simp)),bMg l fun y hy=>h y (QE _ hy)⟩
theorem bP8:∀ l:List bI,(∀ x∈l.map eD,∀ d∈x,OkD d)→okLGSource l
  | [],_=>by unfold okLGSource; trivial
  | x::l,h=>by
    unfold okLGSource
    exact ⟨bV2 x (h _ (by simp)),bP8 l fun y hy=>h y (QE _ hy)⟩
end
mutual
theorem bIs:∀ x:aJ,(∀ d∈aQ x,OkD d)→okGPExpr x
  | ⟨a0,a1,a2,a3,a4,a5,a6,a7⟩,h0=>by
    rw [nG] at h0
    have h:∀ d∈nL ⟨a0,a1,a2,a3,a4,a5,a6,a7⟩,OkD d:=h0
    unfold okGPExpr
    exact ⟨nI _ (eQ h 0 1),nI _ (eQ h 1 1),trivial,bHr a3 (eQ h 3 3),nI _ (eQ h 6 1),nI _ (eQ h 7 1),⟨by simpa using (mM (eQ h 8 1)).1,aNq a6 (mM (eQ h 8 1)).2⟩,⟨by simpa using (mM (eQ h 9 1)).1,bKr a7 (mM (eQ h 9 1)).2⟩⟩
theorem cH5:∀ x:dL,(∀ d∈eG x,OkD d)→okGPSort x
  | ⟨a0,a1⟩,h0=>by
    rw [aSc] at h0
    have h:∀ d∈aCe ⟨a0,a1⟩,OkD d:=h0
    unfold okGPSort
    exact ⟨bIs a0 (by rw [nG]; exact (eQ h 0 10)),trivial⟩
theorem cCo:∀ x:bA,(∀ d∈gN x,OkD d)→okGPlan x
  | ⟨a0,a1,a2,a3,a4,a5,a6,a7⟩,h0=>by
    rw [aN8] at h0
    have h:∀ d∈X6 ⟨a0,a1,a2,a3,a4,a5,a6,a7⟩,OkD d:=h0
    unfold okGPlan
    exact ⟨aB5 _ (fun y hy=>nI _ hy) (eQ h 0 1),⟨by simpa using (mM (eQ h 1 1)).1,bGv a1 (mM (eQ h 1 1)).2⟩,⟨by simpa using (mM (eQ h 2 1)).1,aNq a2 (mM (eQ h 2 1)).2⟩,⟨by simpa using (mM (eQ h 3 1)).1,bNd a3 (mM (eQ h 3 1)).2⟩,⟨by simpa using (mM (eQ h 4 1)).1,aNq a4 (mM (eQ h 4 1)).2⟩,aB5 _ (fun y hy=>wP _ hy) (eQ h 5 1),trivial,nI _ (eQ h 7 1)⟩
theorem aNq:∀ l:List aJ,(∀ x∈l.map aQ,∀ d∈x,OkD d)→okLGPExpr l
  | [],_=>by unfold okLGPExpr; trivial
  | x::l,h=>by
    unfold okLGPExpr
    exact ⟨bIs x (h _ (by simp)),aNq l fun y hy=>h y (QE _ hy)⟩
theorem bNd:∀ l:List dL,(∀ x∈l.map eG,∀ d∈x,OkD d)→okLGPSort l
  | [],_=>by unfold okLGPSort; trivial
  | x::l,h=>by
    unfold okLGPSort
    exact ⟨cH5 x (h _ (by simp)),bNd l fun y hy=>h y (QE _ hy)⟩
theorem bKr:∀ l:List bA,(∀ x∈l.map gN,∀ d∈x,OkD d)→okLGPlan l
  | [],_=>by unfold okLGPlan; trivial
  | x::l,h=>by
    unfold okLGPlan
    exact ⟨cCo x (h _ (by simp)),bKr l fun y hy=>h y (QE _ hy)⟩
theorem bGv:∀ l:List (List aJ),(∀ x∈l.map (cSl 10 aQ),∀ d∈x,OkD d)→okLLGPExpr l
  | [],_=>by unfold okLLGPExpr; trivial
  | x::l,h=>by
    unfold okLLGPExpr
    have h1:∀ d∈cSl 10 aQ x,OkD d:=h _ (by simp)
    exact ⟨⟨by simpa using (mM h1).1,aNq x (mM h1).2⟩,bGv l fun y hy=>h y (QE _ hy)⟩
end
theorem bUw (x:fB) (h:∀ d∈aW8 x,OkD d):okGRFault x:=⟨nI _ (eQ h 0 1),wP _ (eQ h 1 1)⟩
theorem bVz (x:aU) (h:∀ d∈bL x,OkD d):okGUse x:=⟨wP _ (eQ h 0 1),wP _ (eQ h 1 1),nI _ (eQ h 2 1),nI _ (eQ h 3 1),nI _ (eQ h 4 1)⟩
theorem cOs (x:bV) (h:∀ d∈aV1 x,OkD d):okGUser x:=⟨bPp x.c (eQ h 0 1),aB5 _ (fun y hy=>bVz y hy) (eQ h 1 1),trivial⟩
theorem cO9 (x:oP) (h:∀ d∈bCa x,OkD d):okGForm x:=⟨trivial,trivial,trivial,trivial,nI _ (eQ h 4 1),nI _ (eQ h 5 1),nI _ (eQ h 6 1)⟩
theorem cDr (x:dX) (h:∀ d∈jK x,OkD d):okGNamed x:=⟨wP _ (eQ h 0 1),wP _ (eQ h 1 1),nI _ (eQ h 2 1)⟩
theorem cL0 (x:aR) (h:∀ d∈mG x,OkD d):okGScope x:=aB5 _ (fun y hy=>cDr y hy) (eQ h 0 1)
theorem cLt (x:bH) (h:∀ d∈bB1 x,OkD d):okGResolver x:=⟨bPp x.c (eQ h 0 1),bUw x.fault (eQ h 1 2)⟩
theorem cLg (x:wJ) (h:∀ d∈bBf x,OkD d):okGBind x:=⟨nI _ (eQ h 0 1),nI _ (eQ h 1 1),nI _ (eQ h 2 1)⟩
theorem cMc (x:aA) (h:∀ d∈bB4 x,OkD d):okGL1Cur x:=⟨aB5 _ (fun y hy=>bO7 _ hy) (eQ h 0 1),nI _ (eQ h 1 1),nI _ (eQ h 2 1)⟩
theorem de5 {l:List D} (h:WtC Tryz.prog 5 l):∃ x:Int,l=cU8 x:=(bR3 h (k:=.u8) kr)
theorem cFz {l:List D} (h:WtC Tryz.prog 22 l):∃ x:(List Int),l=(cSl 1 cU8) x:=(bRp h (e:=5) (n:=1) (c:=cU8) kr kr fun x hx=>de5 hx)
theorem bXv (p0:aU):FOk Tryz.prog 12 [aBr p0] (fun y=>(vB y)) (aLq p0):=by
 refine aoP fun r h=>?_;rw [aLq] at h;exact rp' h
abbrev cDd (p0):=U6.partial_correctness p0 (bFe p0) (by intro cNi bAq x8 r h;refine Lok.un ?_;refine cd' h ?_ ?_<;>intro h;refine iq' h fun y1 h=>?_;refine aO (.callv (some 16) 11 [15]) (aA3 (m:=aLq y1) (caps:=[]) (args:=[aBr y1]) (v':=(fun y=>(vB y))) h kr kr (bXv _) kr kr (fun _=>rfl) fun y2 h=>oC ?_);refine cd' h ?_ ?_<;>intro h;exact rp' h;exact lb' (bAq _ _ h) (wr [] eS bN);exact rp' h)
abbrev bAq:=cDd
theorem bQw (p0:List aU):FOk Tryz.prog 33 [aVf p0,.fn 12 []] (fun y=>(vI y)) (aTw p0):=by
 refine aoP fun r h=>?_;rw [aTw] at h;exact lq' p0 (lb' (bAq _ _ _ h) (wr [] eS bN))
theorem bXr (p0:List aU):FOk Tryz.prog 11 [aVf p0,.fn 12 []] (fun y=>(vB y)) (aSm p0):=by
 refine aoP fun r h=>?_;rw [aSm] at h;exact cs' h (bQw _) fun y1 h=>(rp' h)
abbrev Z16 (y:Bool):V:=(vB y)
theorem bS8 (p0:dZ) (c0_0:List UInt8):dW Tryz.prog 115 [cHo p0,.ptr 186 0] [(186,[vS c0_0])] Z16 (fun (y:Bool)=>[(186,[vS c0_0])]) (aR6 p0 c0_0):=by
 refine aoB fun r h=>?_;rw [aR6] at h;exact rb' h
abbrev cFt (p0) (c0_0):=aBm.partial_correctness p0 c0_0 (aY1 p0 c0_0) (by intro cMw bCf x8 r h;refine Lok.un ?_;refine cd' h ?_ ?_<;>intro h;refine iq' h fun y1 h=>(cg' c1_ h (bS8 _ _) fun y2 h=>?_);refine cd' h ?_ ?_<;>intro h;exact rb' h;exact lb' (bCf _ _ h) (wr [] eS bS);exact rb' h)
abbrev bCf:=cFt
theorem cJd (p0:List dZ) (c0_0:List UInt8):dW Tryz.prog 114 [aKf p0,.fn 115 [.ptr 186 0]] [(186,[vS c0_0])] Z3 (fun (y:Int)=>[(186,[vS c0_0])]) (aQd p0 c0_0):=by
 refine aoB fun r h=>?_;rw [aQd] at h;exact lq' p0 (lb' (bCf _ _ _ _ h) (wr [] eS bS))
theorem bSc (p0:bM) (p1:List UInt8):FOk Tryz.prog 78 [aLl p0,vS p1] (fun y=>(vI y)) (aM6 p0 p1):=by
 refine aoP fun r h=>?_;rw [aM6] at h;exact cg' ⟨[(186,3)],[],[],[],[],[],[],[],[]⟩ h (cJd _ _) fun y1 h=>(rp' h)
theorem aJi (p0:List UInt8):FOk Tryz.prog 77 [vS p0] (fun y=>(vB y)) (xO p0):=by
 refine aoP fun r h=>?_;rw [xO] at h;exact dN h fun y1 h=>(rp' h)
abbrev bZ6 (p0):=aBh.partial_correctness p0 (bD2 p0) (by intro cL7 bDq x8 r h;refine Lok.un ?_;refine cd' h ?_ ?_<;>intro h;refine iq' h fun y1 h=>(cs' h (aJi _) fun y2 h=>(dF h fun y3 h=>(dF h fun y4 h=>(gc' h (bSc _ _) fun y5 h=>(dF h fun y6 h=>?_)))));refine cd' h ?_ ?_<;>intro h;exact rp' h;exact lb' (bDq _ _ h) (wr [] eS bS);exact cs' h (aJi _) fun y7 h=>(lH p0.cols (dN h fun y8 h=>(lH p0.cols (dN h fun y9 h=>(rp' h))))))
abbrev bDq:=bZ6
theorem cIs (p0:bM):FOk Tryz.prog 37 [aLl p0] (fun y=>(vB y)) (aN4 p0):=by
 refine aoP fun r h=>?_;rw [aN4] at h;exact lq' p0.cols (lb' (bDq _ _ _ h) (wr [] eS bS))
theorem bUr (p0:bM) (c0_0:List UInt8):dW Tryz.prog 80 [aLl p0,.ptr 186 0] [(186,[vS c0_0])] Z16 (fun (y:Bool)=>[(186,[vS c0_0])]) (aP2 p0 c0_0):=by
 refine aoB fun r h=>?_;rw [aP2] at h;exact rb' h
abbrev bW5 (p0) (c0_0):=aA7.partial_correctness p0 c0_0 (aWm p0 c0_0) (by intro cO2 aUb x8 r h;refine Lok.un ?_;refine cd' h ?_ ?_<;>intro h;refine iq' h fun y1 h=>(cg' c1_ h (bUr _ _) fun y2 h=>?_);refine cd' h ?_ ?_<;>intro h;exact rb' h;exact lb' (aUb _ _ h) (wr [] eS bS);exact rb' h)
abbrev aUb:=bW5
theorem bS1 (p0:List bM) (c0_0:List UInt8):dW Tryz.prog 79 [gG p0,.fn 80 [.ptr 186 0]] [(186,[vS c0_0])] Z3 (fun (y:Int)=>[(186,[vS c0_0])]) (aPu p0 c0_0):=by
 refine aoB fun r h=>?_;rw [aPu] at h;exact lq' p0 (lb' (aUb _ _ _ _ h) (wr [] eS bS))
theorem bAy (p0:aP) (p1:List UInt8):FOk Tryz.prog 38 [fC p0,vS p1] (fun y=>(vI y)) (aAg p0 p1):=by
 refine aoP fun r h=>?_;rw [aAg] at h;exact cg' ⟨[(186,3)],[],[],[],[],[],[],[],[]⟩ h (bS1 _ _) fun y1 h=>(rp' h)
abbrev bYb (p0):=aBz.partial_correctness p0 (bBu p0) (by intro cNv bF2 x8 r h;refine Lok.un ?_;refine cd' h ?_ ?_<;>intro h;refine iq' h fun y1 h=>(cs' h (cIs _) fun y2 h=>(gc' h (bAy _ _) fun y3 h=>(dF h fun y4 h=>?_)));refine cd' h ?_ ?_<;>intro h;exact rp' h;exact lb' (bF2 _ _ h) (wr [] eS bS);exact lq' p0.tables (rp' h))
abbrev bF2:=bYb
theorem bJi (p0:aP):FOk Tryz.prog 14 [fC p0] (fun y=>(vB y)) (I7 p0):=by
 refine aoP fun r h=>?_;rw [I7] at h;exact lq' p0.tables (lb' (bF2 _ _ _ h) (wr [] eS bS))
theorem aYl (p0:List UInt8):FOk Tryz.prog 84 [vS p0] (fun y=>(vB y)) (aC9 p0):=by
 refine aoP fun r h=>?_;rw [aC9] at h;exact gc' h (aJi _) fun y1 h=>(dF h fun y2 h=>(rp' h))
theorem cA4 (p0:bP):FOk Tryz.prog 187 [yG p0] (fun y=>(vB y)) (aMp p0):=by
 refine aoP fun r h=>?_;rw [aMp] at h;refine cd' h ?_ ?_<;>intro h;exact dN h fun y1 h=>(rp' h);refine cd' h ?_ ?_<;>intro h;exact rp' h;refine cd' h ?_ ?_<;>intro h;exact dN h fun y2 h=>(rp' h);refine cd' h ?_ ?_<;>intro h;exact dF h fun y3 h=>(dN h fun y4 h=>(rp' h));exact rp' h
theorem bT2 (p0:bP):FOk Tryz.prog 175 [yG p0] (fun y=>(vB y)) (aI9 p0):=by
 refine aoP fun r h=>?_;rw [aI9] at h;refine cs' h (cA4 _) fun y1 h=>?_;refine aO (.g 5 true (.pick 13 9 (kB true) 12)) (gv true y1 Z16 h (fun y hy hc=>mP hy (p:=true) (q:=((true&&(y1==true))&&((!decide (p0.kind=1))==false))) (Eq.trans (b:=([true&&(y1==true)]:List Bool).all id) kr (iU hc rfl)) kr kr kr (fun _=>rfl) (fun hb=>uX hc hb)) fun y2 h=>oC ?_);exact dN h fun y3 h=>(dN h fun y4 h=>(rp' h))
theorem bRz (p0:aB):FOk Tryz.prog 150 [iE p0] (fun y=>(.tup [cDn y.1,vB y.2])) (aG9 p0):=by
 refine aoP fun r h=>?_;rw [aG9] at h;refine cd' h ?_ ?_<;>intro h;exact cs' h (bT2 _) fun y1 h=>(rp' h);refine cd' h ?_ ?_<;>intro h;refine cs' h (aJi _) fun y2 h=>(gc' h (aJi _) fun y3 h=>?_);refine aO (.g 18 true (.pick 26 22 (kB true) 25)) (gv true y2 Z16 h (fun y hy hc=>mP hy (p:=true) (q:=((true&&(y2==true))&&((decide (p0.qual=[]))==false))) (Eq.trans (b:=([true&&(y2==true)]:List Bool).all id) kr (iU hc rfl)) kr kr kr (fun _=>rfl) (fun hb=>uX hc hb)) fun y4 h=>oC ?_);exact dN h fun y5 h=>(rp' h);refine cd' h ?_ ?_<;>intro h;exact dF h fun y6 h=>(rp' h);refine cd' h ?_ ?_<;>intro h;exact dN h fun y7 h=>(rp' h);refine cd' h ?_ ?_<;>intro h;exact rp' h;refine cd' h ?_ ?_<;>intro h;exact rp' h;refine cd' h ?_ ?_<;>intro h;exact rp' h;refine cd' h ?_ ?_<;>intro h;exact rp' h;refine cd' h ?_ ?_<;>intro h;exact rp' h;exact rp' h
abbrev cE2 (p0):=aA2.partial_correctness p0 (bCl p0) (by intro cOp aUu tK x46 r h;refine Lok.un ?_;refine cd' h ?_ ?_<;>intro h;refine iq' h fun y9 h=>?_;refine aO (.bsl 53 78 10 [52]) (eP (l:=([y9.expr]:List aB)) (f:=bF) (g:=lD) kr lG kr (oC ?_));exact aq' 3 bF h fun y10 h=>(lb' (aUu _ _ _ h) (wr [(3,.old 3)] (eo 3 eS) bN));exact rw' (s':=⟨[(2,.osl 188 78 10 (tK.map bF))],[]⟩) (wr [(188,.old 2)] (eo 2 jL) bN) (rb' h))
abbrev aUu:=cE2
abbrev bT6 (p0):=aCk.partial_correctness p0 (bGb p0) (by intro cMm aUi dI x30 r h;refine Lok.un ?_;refine cd' h ?_ ?_<;>intro h;exact iq' h fun y5 h=>(aq' 3 bF h fun y6 h=>(lb' (aUi _ _ _ h) (wr [(3,.old 3)] (es (eo 3 eS)) bS)));exact aq' 3 bF h fun y7 h=>(lq' p0.order (lb' (aUu _ _ _ _ h) (wr [(3,.old 3)] (eo 3 eS) bN))))
abbrev aUi:=bT6
abbrev bI2 (p0):=aJo.mutual_partial_correctness p0 (bC3 p0) (bDi p0) (by intro cNw aUy x14 eH r h;exact Jok.un (lb' (aUy _ _ _ h) (wr [(3,.old 3)] (es (eo 3 eS)) bS))) (by intro cKv aU7 x3 x14 r h;refine Lok.un ?_;refine cd' h ?_ ?_<;>intro h;refine iq' h fun y1 h=>?_;refine cd' h ?_ ?_<;>intro h;refine aO (.bsl 24 78 10 [23]) (eP (l:=([y1.expr]:List aB)) (f:=bF) (g:=lD) kr lG kr (oC ?_));exact aq' 3 bF h fun y2 h=>(jn' (aU7 _ _ _ h) (wr [(3,.old 3)] (es (eo 3 eS)) bS));exact jn' (aU7 _ _ _ h) (wr [(3,.old 3)] (es (eo 3 eS)) bS);exact lq' p0.from_ (lb' (aUi _ _ _ _ h) (wr [(3,.old 3)] (es (eo 3 eS)) bS)))
abbrev aU7:=fun p0=>(bI2 p0).1
abbrev aUy:=fun p0=>(bI2 p0).2
theorem bF5 (p0:aL):dW Tryz.prog 82 [gH p0] [] Z1 Z2 (aFc p0):=by
 refine aoB fun r h=>?_;rw [aFc] at h;refine aO (.bsl 10 78 10 []) (eP (l:=([]:List aB)) (f:=bF) (g:=lD) kr lG kr (oC ?_));exact lq' p0.items (lb' (aUy _ _ _ _ h) (wr [(3,.old 3)] (es (eo 3 eS)) bS))
abbrev uJ:=aJy.mutual_partial_correctness aXg (fun p0 p1 r=>bJ Tryz.prog 118 [iE p0,iE p1] [] (PQ (fun y=>(vB y)) r)) (fun p0 p1 r=>bJ Tryz.prog 147 [qI p0,qI p1,.fn 148 []] [] (PQ (fun y=>(vB y)) r)) aVk (fun p0 p1 r=>bJ Tryz.prog 148 [gH p0,gH p1] [] (PQ (fun y=>(vB y)) r)) (fun p0 p1 r=>bJ Tryz.prog 174 [H6 p0,H6 p1,.fn 171 []] [] (PQ (fun y=>(vB y)) r)) aWo (fun p0 p1 r=>bJ Tryz.prog 171 [aCo p0,aCo p1] [] (PQ (fun y=>(vB y)) r)) (fun p0 p1 r=>bJ Tryz.prog 146 [gM p0,gM p1] [] (PQ (fun y=>(vB y)) r)) (fun p0 p1 r=>bJ Tryz.prog 168 [gM p0,gM p1,.fn 118 []] [] (PQ (fun y=>(vB y)) r)) (fun p0 p1 r=>bJ Tryz.prog 173 [jV p0,jV p1,.fn 170 []] [] (PQ (fun y=>(vB y)) r)) aYn (fun p0 p1 r=>bJ Tryz.prog 170 [M9 p0,M9 p1] [] (PQ (fun y=>(vB y)) r)) (fun p0 p1 r=>bJ Tryz.prog 172 [oQ p0,oQ p1,.fn 169 []] [] (PQ (fun y=>(vB y)) r)) aVl (fun p0 p1 r=>bJ Tryz.prog 169 [Z6 p0,Z6 p1] [] (PQ (fun y=>(vB y)) r)) (by intro bR4 bCm aR0 aDe p1 p0 x17 r h;refine Lok.un ?_;refine cd' h ?_ ?_<;>intro h;refine iq' h fun y1 h=>(iq' h fun y2 h=>?_);refine aO (.callv (some 29) 26 [27,28]) (aA3 (m:=bCm y1 y2) (caps:=[]) (args:=[iE y1,iE y2]) (v':=(fun y=>(vB y))) h kr kr (aDe _ _) kr kr (fun _=>rfl) fun y3 h=>oC ?_);refine cd' h ?_ ?_<;>intro h;exact rp' h;exact lb' (aR0 _ _ _ _ h) (wr [] eS bN);exact rp' h) (by intro cNh bLv bHy aJh p0 p1 r h;exact ao' (dN h fun y1 h=>(dN h fun y2 h=>(dN h fun y3 h=>(dN h fun y4 h=>(dN h fun y5 h=>(gc' h (aJh _ _) fun y6 h=>(dN h fun y7 h=>(gc' h (bHy _ _) fun y8 h=>(dN h fun y9 h=>(rp' h))))))))))) (by intro cCu aRa p0 p1 r h;refine ao' (lq' p0 (lq' p1 ?_));refine cd' h ?_ ?_<;>intro h;exact rp' h;exact lq' p0 (lb' (aRa _ _ _ _ h) (wr [] eS bN))) (by intro cCu bTz aRa bHj p1 p0 x17 r h;refine Lok.un ?_;refine cd' h ?_ ?_<;>intro h;refine iq' h fun y1 h=>(iq' h fun y2 h=>?_);refine aO (.callv (some 29) 26 [27,28]) (aA3 (m:=bTz y1 y2) (caps:=[]) (args:=[gH y1,gH y2]) (v':=(fun y=>(vB y))) h kr kr (bHj _ _) kr kr (fun _=>rfl) fun y3 h=>oC ?_);refine cd' h ?_ ?_<;>intro h;exact rp' h;exact lb' (aRa _ _ _ _ h) (wr [] eS bN);exact rp' h) (by intro cMh bLv cNz cO6 bIn aJh bMe bIk p0 p1 r h;refine ao' (dN h fun y1 h=>(gc' h (bIk _ _) fun y2 h=>(dN h fun y3 h=>(gc' h (bMe _ _) fun y4 h=>(dN h fun y5 h=>(gc' h (aJh _ _) fun y6 h=>(dN h fun y7 h=>?_)))))));exact gc' h (bIn _ _) fun y8 h=>(dN h fun y9 h=>(rp' h))) (by intro bYi aR9 p0 p1 r h;refine ao' (lq' p0 (lq' p1 ?_));refine cd' h ?_ ?_<;>intro h;exact rp' h;exact lq' p0 (lb' (aR9 _ _ _ _ h) (wr [] eS bN))) (by intro bYi cKo aR9 bN4 p1 p0 x17 r h;refine Lok.un ?_;refine cd' h ?_ ?_<;>intro h;refine iq' h fun y1 h=>(iq' h fun y2 h=>?_);refine aO (.callv (some 29) 26 [27,28]) (aA3 (m:=cKo y1 y2) (caps:=[]) (args:=[aCo y1,aCo y2]) (v':=(fun y=>(vB y))) h kr kr (bN4 _ _) kr kr (fun _=>rfl) fun y3 h=>oC ?_);refine cd' h ?_ ?_<;>intro h;exact rp' h;exact lb' (aR9 _ _ _ _ h) (wr [] eS bN);exact rp' h) (by intro bCm aDe p0 p1 r h;exact ao' (gc' h (aDe _ _) fun y1 h=>(dN h fun y2 h=>(rp' h)))) (by intro cN2 bH4 p0 p1 r h;exact ao' (cs' h (bH4 _ _) fun y1 h=>(rp' h))) (by intro bR4 aR0 p0 p1 r h;refine ao' (lq' p0 (lq' p1 ?_));refine cd' h ?_ ?_<;>intro h;exact rp' h;exact lq' p0 (lb' (aR0 _ _ _ _ h) (wr [] eS bN))) (by intro bUx aRt p0 p1 r h;refine ao' (lq' p0 (lq' p1 ?_));refine cd' h ?_ ?_<;>intro h;exact rp' h;exact lq' p0 (lb' (aRt _ _ _ _ h) (wr [] eS bN))) (by intro bUx cG9 aRt bIp p1 p0 x17 r h;refine Lok.un ?_;refine cd' h ?_ ?_<;>intro h;refine iq' h fun y1 h=>(iq' h fun y2 h=>?_);refine aO (.callv (some 29) 26 [27,28]) (aA3 (m:=cG9 y1 y2) (caps:=[]) (args:=[M9 y1,M9 y2]) (v':=(fun y=>(vB y))) h kr kr (bIp _ _) kr kr (fun _=>rfl) fun y3 h=>oC ?_);refine cd' h ?_ ?_<;>intro h;exact rp' h;exact lb' (aRt _ _ _ _ h) (wr [] eS bN);exact rp' h) (by intro bLv aJh p0 p1 r h;exact ao' (dN h fun y1 h=>(gc' h (aJh _ _) fun y2 h=>(dN h fun y3 h=>(rp' h))))) (by intro bXh aPc p0 p1 r h;refine ao' (lq' p0 (lq' p1 ?_));refine cd' h ?_ ?_<;>intro h;exact rp' h;exact lq' p0 (lb' (aPc _ _ _ _ h) (wr [] eS bN))) (by intro bXh cFk aPc bGr p1 p0 x17 r h;refine Lok.un ?_;refine cd' h ?_ ?_<;>intro h;refine iq' h fun y1 h=>(iq' h fun y2 h=>?_);refine aO (.callv (some 29) 26 [27,28]) (aA3 (m:=cFk y1 y2) (caps:=[]) (args:=[Z6 y1,Z6 y2]) (v':=(fun y=>(vB y))) h kr kr (bGr _ _) kr kr (fun _=>rfl) fun y3 h=>oC ?_);refine cd' h ?_ ?_<;>intro h;exact rp' h;exact lb' (aPc _ _ _ _ h) (wr [] eS bN);exact rp' h) (by intro bCm aDe p0 p1 r h;exact ao' (dN h fun y1 h=>(dN h fun y2 h=>(gc' h (aDe _ _) fun y3 h=>(dN h fun y4 h=>(rp' h))))))
abbrev aR0:=uJ.1
theorem aDe (p0:aB) (p1:aB):FOk Tryz.prog 118 [iE p0,iE p1] (fun y=>(vB y)) (aE8 p0 p1):=fun r h=>(uJ).2.1 p0 p1 r h
theorem bHy (p0:List aL) (p1:List aL):FOk Tryz.prog 147 [qI p0,qI p1,.fn 148 []] (fun y=>(vB y)) (aKa p0 p1):=fun r h=>(uJ).2.2.1 p0 p1 r h
abbrev aRa:=uJ.2.2.2.1
theorem bHj (p0:aL) (p1:aL):FOk Tryz.prog 148 [gH p0,gH p1] (fun y=>(vB y)) (bF8 p0 p1):=fun r h=>(uJ).2.2.2.2.1 p0 p1 r h
theorem bIn (p0:List eX) (p1:List eX):FOk Tryz.prog 174 [H6 p0,H6 p1,.fn 171 []] (fun y=>(vB y)) (aVn p0 p1):=fun r h=>(uJ).2.2.2.2.2.1 p0 p1 r h
abbrev aR9:=uJ.2.2.2.2.2.2.1
theorem bN4 (p0:eX) (p1:eX):FOk Tryz.prog 171 [aCo p0,aCo p1] (fun y=>(vB y)) (bBj p0 p1):=fun r h=>(uJ).2.2.2.2.2.2.2.1 p0 p1 r h
theorem aJh (p0:List aB) (p1:List aB):FOk Tryz.prog 146 [gM p0,gM p1] (fun y=>(vB y)) (aDa p0 p1):=fun r h=>(uJ).2.2.2.2.2.2.2.2.1 p0 p1 r h
theorem bH4 (p0:List aB) (p1:List aB):FOk Tryz.prog 168 [gM p0,gM p1,.fn 118 []] (fun y=>(vB y)) (aTj p0 p1):=fun r h=>(uJ).2.2.2.2.2.2.2.2.2.1 p0 p1 r h
theorem bMe (p0:List bI) (p1:List bI):FOk Tryz.prog 173 [jV p0,jV p1,.fn 170 []] (fun y=>(vB y)) (bG1 p0 p1):=fun r h=>(uJ).2.2.2.2.2.2.2.2.2.2.1 p0 p1 r h
abbrev aRt:=uJ.2.2.2.2.2.2.2.2.2.2.2.1
theorem bIp (p0:bI) (p1:bI):FOk Tryz.prog 170 [M9 p0,M9 p1] (fun y=>(vB y)) (bBx p0 p1):=fun r h=>(uJ).2.2.2.2.2.2.2.2.2.2.2.2.1 p0 p1 r h
theorem bIk (p0:List bG) (p1:List bG):FOk Tryz.prog 172 [oQ p0,oQ p1,.fn 169 []] (fun y=>(vB y)) (bDh p0 p1):=fun r h=>(uJ).2.2.2.2.2.2.2.2.2.2.2.2.2.1 p0 p1 r h
abbrev aPc:=uJ.2.2.2.2.2.2.2.2.2.2.2.2.2.2.1
theorem bGr (p0:bG) (p1:bG):FOk Tryz.prog 169 [Z6 p0,Z6 p1] (fun y=>(vB y)) (bAl p0 p1):=fun r h=>(uJ).2.2.2.2.2.2.2.2.2.2.2.2.2.2.2 p0 p1 r h
theorem bQ9 (p0:aB):FOk Tryz.prog 85 [iE p0] (fun y=>(vB y)) (aHo p0):=by
 refine aoP fun r h=>?_;rw [aHo] at h;exact cs' h (aDe _ _) fun y1 h=>(rp' h)
abbrev yD:=aLy.mutual_partial_correctness (fun p0 r=>bJ Tryz.prog 152 [gH p0] [] (PQ (fun y=>(vB y)) r)) (fun p0 r=>bJ Tryz.prog 41 [gH p0] [] (PQ (fun y=>(vB y)) r)) bDy bAb (fun p0 r=>bJ Tryz.prog 86 [gM p0] [] (PQ (fun y=>(vB y)) r)) (fun p0 r=>bJ Tryz.prog 119 [gM p0,.fn 120 []] [] (PQ (fun y=>(vB y)) r)) (fun p0 r=>bJ Tryz.prog 149 [gM p0,.fn 120 []] [] (PQ (fun y=>(vI y)) r)) aZ6 (fun p0 r=>bJ Tryz.prog 120 [iE p0] [] (PQ (fun y=>(vB y)) r)) (fun p0 r=>bJ Tryz.prog 121 [iE p0] [] (PQ (fun y=>(vB y)) r)) (fun p0 r=>bJ Tryz.prog 151 [qI p0,.fn 152 []] [] (PQ (fun y=>(vB y)) r)) (fun p0 r=>bJ Tryz.prog 176 [qI p0,.fn 152 []] [] (PQ (fun y=>(vI y)) r)) bCg (by intro cLn aZg p0 r h;exact ao' (cs' h (aZg _) fun y1 h=>(rp' h))) (by intro bYp aQh p0 r h;refine ao' (lq' p0.items (lH p0.items (dF h fun y1 h=>(lH p0.from_ (dF h fun y2 h=>(lH p0.from_ (dF h fun y3 h=>(lH p0.where_ (dF h fun y4 h=>(lH p0.order (dF h fun y5 h=>(dF h fun y6 h=>?_))))))))))));refine cd' h ?_ ?_<;>intro h;exact rp' h;exact lq' p0.items (lb' (aQh _ _ _ h) (wr [] eS bS))) (by intro bYp bU8 aQh aPi p0 x49 r h;refine Lok.un ?_;refine cd' h ?_ ?_<;>intro h;refine iq' h fun y7 h=>(gc' h (aYl _) fun y8 h=>?_);refine aO (.g 55 true (.pick 64 60 (kB true) 63)) (gv true y7.star Z16 h (fun y hy hc=>mP hy (p:=true) (q:=((true&&(y7.star==true))&&((!y8)==false))) (Eq.trans (b:=([true&&(y7.star==true)]:List Bool).all id) kr (iU hc rfl)) kr kr kr (fun _=>rfl) (fun hb=>uX hc hb)) fun y9 h=>oC ?_);refine gc' h (bQ9 _) fun y10 h=>?_;refine aO (.g 55 true (.pick 70 65 (kB true) 69)) (gv true y7.star Z16 h (fun y hy hc=>mP hy (p:=true) (q:=((true&&(y7.star==true))&&(y9==false))) (Eq.trans (b:=([true&&(y7.star==true)]:List Bool).all id) kr (iU hc rfl)) kr kr kr (fun _=>rfl) (fun hb=>uX hc hb)) fun y11 h=>oC ?_);refine dN h fun y12 h=>(gc' h (aYl _) fun y13 h=>?_);refine aO (.g 76 true (.pick 85 80 (kB true) 84)) (gv (true&&(y12==false)) (!y7.star) Z16 h (fun y hy hc=>mP hy (p:=true) (q:=(((true&&(y12==false))&&((!y7.star)==true))&&((!decide (y7.qual=[]))==false))) (Eq.trans (b:=([(true&&(y12==false))&&((!y7.star)==true)]:List Bool).all id) kr (iU hc rfl)) kr kr kr (fun _=>rfl) (fun hb=>uX hc hb)) fun y14 h=>oC ?_);refine aO (.g 72 false (.pick 86 76 85 (kB false))) (gv true y12 Z16 h (fun y hy hc=>mP hy (p:=((true&&(y12==false))&&((!y7.star)==true))) (q:=true) (Eq.trans (b:=([true&&(y12==false)]:List Bool).all id) kr (iU hc rfl)) kr kr kr (fun hb=>yE hc hb) (fun _=>rfl)) fun y15 h=>oC ?_);refine dF h fun y16 h=>?_;refine cd' h ?_ ?_<;>intro h;exact rp' h;exact lb' (aQh _ _ _ h) (wr [] eS bS);exact lq' p0.from_ (lb' (aPi _ _ _ h) (wr [] eS bS))) (by intro bU8 cA2 aPi aNz p0 x92 r h;refine Lok.un ?_;refine cd' h ?_ ?_<;>intro h;refine iq' h fun y17 h=>(cs' h (aJi _) fun y18 h=>(gc' h (aYl _) fun y19 h=>(dF h fun y20 h=>(lH y17.on_ (dF h fun y21 h=>(lH y17.on_ ?_))))));refine aO (.g 113 false (.pick 121 116 120 (kB false))) (gv true y21 Z16 h (fun y hy hc=>mP hy (p:=((true&&(y21==false))&&((decide (x92=0))==true))) (q:=true) (Eq.trans (b:=([true&&(y21==false)]:List Bool).all id) kr (iU hc rfl)) kr kr kr (fun hb=>yE hc hb) (fun _=>rfl)) fun y22 h=>oC ?_);refine dF h fun y23 h=>?_;refine cd' h ?_ ?_<;>intro h;exact rp' h;exact lb' (aPi _ _ _ h) (wr [] eS bS);exact cg' ⟨[],[],[],[],[],[(188,125)],[],[125],[]⟩ h (bF5 _) fun y24 h=>(cs' h (aNz _) fun y25 h=>(rp' h))) (by intro cMf bMt p0 r h;exact ao' (cs' h (bMt _) fun y1 h=>(rp' h))) (by intro cOm bMr p0 r h;exact ao' (cs' h (bMr _) fun y1 h=>(rp' h))) (by intro cDc aSg p0 r h;exact ao' (lq' p0 (lb' (aSg _ _ _ h) (wr [] eS bN)))) (by intro cDc cDj aSg bPa p0 x8 r h;refine Lok.un ?_;refine cd' h ?_ ?_<;>intro h;refine iq' h fun y1 h=>?_;refine aO (.callv (some 16) 11 [15]) (aA3 (m:=cDj y1) (caps:=[]) (args:=[iE y1]) (v':=(fun y=>(vB y))) h kr kr (bPa _) kr kr (fun _=>rfl) fun y2 h=>oC ?_);refine cd' h ?_ ?_<;>intro h;exact rp' h;exact lb' (aSg _ _ _ h) (wr [] eS bN);exact rp' h) (by intro cMe bKt p0 r h;exact ao' (cs' h (bKt _) fun y1 h=>(rp' h))) (by intro cA2 cLm aNz bOe p0 r h;refine ao' (cs' h (bRz _) fun y1 h=>?_);refine aO (.g 12 false (.pick 20 16 19 (kB false))) (gv true (!y1.2) Z16 h (fun y hy hc=>mP hy (p:=((true&&((!y1.2)==false))&&((!y1.1.op)==true))) (q:=true) (Eq.trans (b:=([true&&((!y1.2)==false)]:List Bool).all id) kr (iU hc rfl)) kr kr kr (fun hb=>yE hc hb) (fun _=>rfl)) fun y2 h=>oC ?_);refine dF h fun y3 h=>?_;refine aO (.g 22 false (.pick 29 26 28 (kB false))) (gv true y3 Z16 h (fun y hy hc=>mP hy (p:=((true&&(y3==false))&&((!y1.1.not_)==true))) (q:=true) (Eq.trans (b:=([true&&(y3==false)]:List Bool).all id) kr (iU hc rfl)) kr kr kr (fun hb=>yE hc hb) (fun _=>rfl)) fun y4 h=>oC ?_);refine dF h fun y5 h=>?_;refine aO (.g 31 false (.pick 40 35 39 (kB false))) (gv true y5 Z16 h (fun y hy hc=>mP hy (p:=((true&&(y5==false))&&((!y1.1.value)==true))) (q:=true) (Eq.trans (b:=([true&&(y5==false)]:List Bool).all id) kr (iU hc rfl)) kr kr kr (fun hb=>yE hc hb) (fun _=>rfl)) fun y6 h=>oC ?_);refine dF h fun y7 h=>?_;refine aO (.g 46 true (.pick 54 50 (kB true) 53)) (gv (true&&(y7==false)) (!y1.1.name) Z16 h (fun y hy hc=>mP hy (p:=true) (q:=(((true&&(y7==false))&&((!y1.1.name)==true))&&((!decide (p0.qual=[]))==false))) (Eq.trans (b:=([(true&&(y7==false))&&((!y1.1.name)==true)]:List Bool).all id) kr (iU hc rfl)) kr kr kr (fun _=>rfl) (fun hb=>uX hc hb)) fun y8 h=>oC ?_);refine aO (.g 42 false (.pick 55 46 54 (kB false))) (gv true y7 Z16 h (fun y hy hc=>mP hy (p:=((true&&(y7==false))&&((!y1.1.name)==true))) (q:=true) (Eq.trans (b:=([true&&(y7==false)]:List Bool).all id) kr (iU hc rfl)) kr kr kr (fun hb=>yE hc hb) (fun _=>rfl)) fun y9 h=>oC ?_);refine dF h fun y10 h=>?_;refine cd' h ?_ ?_<;>intro h;exact rp' h;refine lq' p0.kids (lH p0.kids (dF h fun y11 h=>(lH p0.sub (dF h fun y12 h=>?_))));refine cd' h ?_ ?_<;>intro h;exact rp' h;exact cs' h (aNz _) fun y13 h=>(gc' h (bOe _) fun y14 h=>(dN h fun y15 h=>(rp' h)))) (by intro cNd bKb p0 r h;exact ao' (cs' h (bKb _) fun y1 h=>(rp' h))) (by intro bSm aTi p0 r h;exact ao' (lq' p0 (lb' (aTi _ _ _ h) (wr [] eS bN)))) (by intro bT7 bSm bOw aTi p0 x8 r h;refine Lok.un ?_;refine cd' h ?_ ?_<;>intro h;refine iq' h fun y1 h=>?_;refine aO (.callv (some 16) 11 [15]) (aA3 (m:=bT7 y1) (caps:=[]) (args:=[gH y1]) (v':=(fun y=>(vB y))) h kr kr (bOw _) kr kr (fun _=>rfl) fun y2 h=>oC ?_);refine cd' h ?_ ?_<;>intro h;exact rp' h;exact lb' (aTi _ _ _ h) (wr [] eS bN);exact rp' h)
theorem bOw (p0:aL):FOk Tryz.prog 152 [gH p0] (fun y=>(vB y)) (aLy p0):=fun r h=>(yD).1 p0 r h
theorem aZg (p0:aL):FOk Tryz.prog 41 [gH p0] (fun y=>(vB y)) (aFs p0):=fun r h=>(yD).2.1 p0 r h
abbrev aQh:=yD.2.2.1
abbrev aPi:=yD.2.2.2.1
theorem aNz (p0:List aB):FOk Tryz.prog 86 [gM p0] (fun y=>(vB y)) (aC1 p0):=fun r h=>(yD).2.2.2.2.1 p0 r h
theorem bMt (p0:List aB):FOk Tryz.prog 119 [gM p0,.fn 120 []] (fun y=>(vB y)) (aT8 p0):=fun r h=>(yD).2.2.2.2.2.1 p0 r h
theorem bMr (p0:List aB):FOk Tryz.prog 149 [gM p0,.fn 120 []] (fun y=>(vI y)) (aQt p0):=fun r h=>(yD).2.2.2.2.2.2.1 p0 r h
abbrev aSg:=yD.2.2.2.2.2.2.2.1
theorem bPa (p0:aB):FOk Tryz.prog 120 [iE p0] (fun y=>(vB y)) (aO2 p0):=fun r h=>(yD).2.2.2.2.2.2.2.2.1 p0 r h
theorem bKt (p0:aB):FOk Tryz.prog 121 [iE p0] (fun y=>(vB y)) (zU p0):=fun r h=>(yD).2.2.2.2.2.2.2.2.2.1 p0 r h
theorem bOe (p0:List aL):FOk Tryz.prog 151 [qI p0,.fn 152 []] (fun y=>(vB y)) (aEn p0):=fun r h=>(yD).2.2.2.2.2.2.2.2.2.2.1 p0 r h
theorem bKb (p0:List aL):FOk Tryz.prog 176 [qI p0,.fn 152 []] (fun y=>(vI y)) (aLf p0):=fun r h=>(yD).2.2.2.2.2.2.2.2.2.2.2.1 p0 r h
abbrev aTi:=yD.2.2.2.2.2.2.2.2.2.2.2.2
theorem bHk (p0:Int) (p1:Int):FOk Tryz.prog 18 [vI p0,vI p1] (fun y=>(vB y)) (aIh p0 p1):=by
 refine aoP fun r h=>?_;rw [aIh] at h;exact dN h fun y1 h=>(rp' h)
abbrev aIb:=aCp.mutual_partial_correctness bEm (fun p0 r=>bJ Tryz.prog 39 [gH p0] [] (PQ (fun y=>(vI y)) r)) (fun p0 r=>bJ Tryz.prog 81 [gM p0] [] (PQ (fun y=>(vI y)) r)) aUs (fun p0 r=>bJ Tryz.prog 116 [iE p0] [] (PQ (fun y=>(vI y)) r)) aYq (by intro cH6 cMz aPv bFj p0 eH x23 r h;refine Lok.un ?_;refine cd' h ?_ ?_<;>intro h;exact iq' h fun y4 h=>(cs' h (bFj _) fun y5 h=>(lb' (aPv _ _ _ _ h) (wr [] eS bN)));exact rp' h) (by intro cKz bOh p0 r h;exact ao' (cg' ⟨[],[],[],[],[],[(188,4)],[],[4],[]⟩ h (bF5 _) fun y1 h=>(cs' h (bOh _) fun y2 h=>(rp' h)))) (by intro cId aRv p0 r h;exact ao' (lq' p0 (lb' (aRv _ _ _ _ h) (wr [] eS bN)))) (by intro cId cAs aRv aOf p0 x3 x8 r h;refine Lok.un ?_;refine cd' h ?_ ?_<;>intro h;exact iq' h fun y1 h=>(cs' h (aOf _) fun y2 h=>(lb' (aRv _ _ _ _ h) (wr [] eS bN)));exact rp' h) (by intro cDq aP1 p0 r h;exact ao' (lq' p0.kids (lb' (aP1 _ _ _ _ h) (wr [] eS bS)))) (by intro cH6 cAs cDq aPv aOf aP1 p0 x3 x11 r h;refine Lok.un ?_;refine cd' h ?_ ?_<;>intro h;exact iq' h fun y1 h=>(cs' h (aOf _) fun y2 h=>(lb' (aP1 _ _ _ _ h) (wr [] eS bS)));exact lq' p0.sub (lb' (aPv _ _ _ _ h) (wr [] eS bN)))
abbrev aPv:=aIb.1
theorem bFj (p0:aL):FOk Tryz.prog 39 [gH p0] (fun y=>(vI y)) (aB6 p0):=fun r h=>(aIb).2.1 p0 r h
theorem bOh (p0:List aB):FOk Tryz.prog 81 [gM p0] (fun y=>(vI y)) (aNx p0):=fun r h=>(aIb).2.2.1 p0 r h
abbrev aRv:=aIb.2.2.2.1
theorem aOf (p0:aB):FOk Tryz.prog 116 [iE p0] (fun y=>(vI y)) (zX p0):=fun r h=>(aIb).2.2.2.2.1 p0 r h
abbrev aP1:=aIb.2.2.2.2.2
abbrev aNb:=aEu.mutual_partial_correctness bAk (fun p0 r=>bJ Tryz.prog 40 [gH p0] [] (PQ (fun y=>(vI y)) r)) (fun p0 r=>bJ Tryz.prog 83 [gM p0] [] (PQ (fun y=>(vI y)) r)) bA5 (fun p0 r=>bJ Tryz.prog 117 [iE p0] [] (PQ (fun y=>(vI y)) r)) (by intro bW1 cNl aPx aZf p0 x3 x13 r h;refine Lok.un ?_;refine cd' h ?_ ?_<;>intro h;exact iq' h fun y2 h=>(cs' h (aZf _) fun y3 h=>(lb' (aPx _ _ _ _ h) (wr [] eS bN)));exact rp' h) (by intro bX1 aS3 p0 r h;exact ao' (cg' ⟨[],[],[],[],[],[(188,4)],[],[4],[]⟩ h (bF5 _) fun y1 h=>(cs' h (aS3 _) fun y2 h=>(rp' h)))) (by intro bT4 aQq p0 r h;exact ao' (lq' p0 (lb' (aQq _ _ _ _ h) (wr [] eS bN)))) (by intro bT4 cL1 aQq bJ4 p0 x3 x8 r h;refine Lok.un ?_;refine cd' h ?_ ?_<;>intro h;exact iq' h fun y1 h=>(cs' h (bJ4 _) fun y2 h=>(lb' (aQq _ _ _ _ h) (wr [] eS bN)));exact rp' h) (by intro bW1 bX1 aPx aS3 p0 r h;exact ao' (cs' h (aS3 _) fun y1 h=>(lq' p0.sub (lb' (aPx _ _ _ _ h) (wr [] eS bN)))))
abbrev aPx:=aNb.1
theorem aZf (p0:aL):FOk Tryz.prog 40 [gH p0] (fun y=>(vI y)) (aCg p0):=fun r h=>(aNb).2.1 p0 r h
theorem aS3 (p0:List aB):FOk Tryz.prog 83 [gM p0] (fun y=>(vI y)) (aJr p0):=fun r h=>(aNb).2.2.1 p0 r h
abbrev aQq:=aNb.2.2.2.1
theorem bJ4 (p0:aB):FOk Tryz.prog 117 [iE p0] (fun y=>(vI y)) (F6 p0):=fun r h=>(aNb).2.2.2.2 p0 r h
theorem bN9 (p0:aL):FOk Tryz.prog 15 [gH p0] (fun y=>(vB y)) (G5 p0):=by
 refine aoP fun r h=>?_;rw [G5] at h;exact cs' h (bFj _) fun y1 h=>(cs' h (aZf _) fun y2 h=>(cs' h (bHk _ _) fun y3 h=>(gc' h (aZg _) fun y4 h=>(dN h fun y5 h=>(rp' h)))))
abbrev Z17 (y:List aR):V:=(.osl 188 103 1 (y.map mG))
theorem aSn (p0:aR) (p1:List aR):dW Tryz.prog 42 [rO p0,eF p1] [] Z17 (fun (y:List aR)=>[]) (K5 p0 p1):=by
 refine aoB fun r h=>?_;rw [K5] at h;refine aO (.bsl 6 103 1 [5]) (eP (l:=([p0]:List aR)) (f:=mG) (g:=mG) kr (fun _=>rfl) kr (oC ?_));exact aq' 6 mG h fun y1 h=>(rw' (s':=⟨[(4,.osl 188 103 1 (y1.map mG))],[]⟩) (wr [(188,.old 4)] (eo 4 jL) bN) (rb' h))
abbrev bM8 (p1) (p2) (p0):=aFn.mutual_partial_correctness p1 p2 p0 (aYp p1 p2 p0) (bFs p1 p2 p0) (by intro cMa bG7 x14 vP r h;exact Jok.un (lb' (bG7 _ _ _ h) (wr [(7,.old 7)] (es (es (eo 7 eS))) bN))) (by intro cMr bGf x7 x14 r h;refine Lok.un ?_;refine cd' h ?_ ?_<;>intro h;refine iq' h fun y1 h=>?_;refine aO (.g 23 true (.pick 31 26 (kB true) 30)) (gv true (decide (y1.name=p2)) Z16 h (fun y hy hc=>mP hy (p:=true) (q:=((true&&((decide (y1.name=p2))==true))&&((decide (p1=[]))==false))) (Eq.trans (b:=([true&&((decide (y1.name=p2))==true)]:List Bool).all id) kr (iU hc rfl)) kr kr kr (fun _=>rfl) (fun hb=>uX hc hb)) fun y2 h=>oC ?_);refine dN h fun y3 h=>?_;refine cd' h ?_ ?_<;>intro h;refine aO (.bsl 35 3 1 [34]) (eP (l:=([x14]:List Int)) (f:=cI) (g:=cI) kr (fun _=>rfl) kr (oC ?_));exact aq' 7 cI h fun y4 h=>(jn' (bGf _ _ _ h) (wr [(7,.old 7)] (es (es (eo 7 eS))) bN));exact jn' (bGf _ _ _ h) (wr [(7,.old 7)] (es (es (eo 7 eS))) bN);exact rw' (s':=⟨[(6,.osl 188 3 1 (x7.map cI))],[]⟩) (wr [(188,.old 6)] (eo 6 jL) bN) (rb' h))
abbrev bGf:=fun p1 p2 p0=>(bM8 p1 p2 p0).1
abbrev bG7:=fun p1 p2 p0=>(bM8 p1 p2 p0).2
theorem bKg (p0:aR) (p1:List UInt8) (p2:List UInt8):dW Tryz.prog 123 [rO p0,vS p1,vS p2] [] Zd Ze (aGo p0 p1 p2):=by
 refine aoB fun r h=>?_;rw [aGo] at h;refine aO (.bsl 10 3 1 []) (eP (l:=([]:List Int)) (f:=cI) (g:=cI) kr (fun _=>rfl) kr (oC ?_));exact lq' p0.names (lb' (bG7 _ _ _ _ _ _ h) (wr [(7,.old 7)] (es (es (eo 7 eS))) bN))
theorem aY7 (p2 p0 X4 Y8 Z4 r) (h:aG3 p2 p0 X4 Y8 Z4=some r):bW6 p2 p0 X4 Y8 Z4 r:=by
 rw [aG3] at h;refine Jok.un ?_;refine dO (.bsl 50 55 5 [49]) (xP (l:=([aU.mk p2.qual p2.name X4 Y8 Z4]:List aU)) (f:=bL) (g:=bL) kr (fun _=>rfl) (dC ?_));refine aD9 222 [48] [186] bL h fun y4 h=>?_;exact rw' (s':=⟨[],[(186,[gG p0.c.tables,.osl 222 55 5 (y4.map bL),vB p0.failed])]⟩) (wr [(222,.old 51)] jL (fP (c0:=[gG p0.c.tables,.osl 51 55 5 (y4.map bL),vB p0.failed]) kr (bO (eU kr kr) (bO (gJ (t:=51) kr kr) (bO (eU kr kr) fT))) bN)) (rb' h)
abbrev bW3 (p1) (p2) (p0):=aBg.partial_correctness p1 p2 p0 (bE4 p1 p2 p0) (by intro cMj bDn x17 r h;refine Lok.un ?_;refine cd' h ?_ ?_<;>intro h;refine iq' h fun y1 h=>(cg' ⟨[],[],[],[],[],[(188,27)],[],[27],[]⟩ h (bKg _ _ _) fun y2 h=>(nK cI y2 ?_));refine cd' h ?_ ?_<;>intro h;refine nK cI y2 (nK cI y2 ?_);refine cd' h ?_ ?_<;>intro h;exact lK cI h fun y3 h=>(jn' (aY7 _ _ _ _ _ _ h) (wr [(222,.old 222)] eS (bs_ (fP (c0:=[gG p0.c.tables,.osl 222 55 5 (p0.list.map bL),vB p0.failed]) kr (bO (eU kr kr) (bO (gJ (t:=222) kr kr) (bO (eU kr kr) fT))) bN))));exact jn' (aY7 _ _ _ _ _ _ h) (wr [(222,.old 222)] eS (bs_ (fP (c0:=[gG p0.c.tables,.osl 222 55 5 (p0.list.map bL),vB p0.failed]) kr (bO (eU kr kr) (bO (gJ (t:=222) kr kr) (bO (eU kr kr) fT))) bN)));exact lb' (bDn _ _ h) (wr [(222,.old 222)] eS (bs_ (bs_ (fP (c0:=[gG p0.c.tables,.osl 222 55 5 (p0.list.map bL),vB p0.failed]) kr (bO (eU kr kr) (bO (gJ (t:=222) kr kr) (bO (eU kr kr) fT))) bN))));exact jn' (aY7 _ _ _ _ _ _ h) (wr [(222,.old 222)] eS (bs_ (fP (c0:=[gG p0.c.tables,.osl 222 55 5 (p0.list.map bL),vB p0.failed]) kr (bO (eU kr kr) (bO (gJ (t:=222) kr kr) (bO (eU kr kr) fT))) bN))))
abbrev bDn:=bW3
abbrev Z19 (y:bV):List (Nat×List V):=[(186,[gG y.c.tables,.osl 222 55 5 (y.list.map bL),vB y.failed])]
theorem cG7 (p0:bV) (p1:List aR) (p2:aB):dW Tryz.prog 103 [.ptr 186 0,eF p1,iE p2] [(186,[gG p0.c.tables,.osl 222 55 5 (p0.list.map bL),vB p0.failed])] Za Z19 (aAh p0 p1 p2):=by
 refine aoB fun r h=>?_;rw [aAh] at h;refine lq' p1 ?_;exact lb' (bDn _ _ _ _ _ h) (wr [(222,.old 222)] eS (bs_ (bs_ (fP (c0:=[gG p0.c.tables,.osl 222 55 5 (p0.list.map bL),vB p0.failed]) kr (bO (eU kr kr) (bO (gJ (t:=222) kr kr) (bO (eU kr kr) fT))) bN))))
abbrev bOv (p1) (p0):=aE3.mutual_partial_correctness p1 p0 (bBm p1 p0) (aWw p1 p0) (by intro cN9 bDo x12 lV r h;exact Jok.un (lb' (bDo _ _ _ h) (wr [(5,.old 5)] (es (eo 5 eS)) bN))) (by intro cN4 aZv x5 x12 r h;refine Lok.un ?_;refine cd' h ?_ ?_<;>intro h;refine iq' h fun y1 h=>(dF h fun y2 h=>?_);refine cd' h ?_ ?_<;>intro h;refine aO (.bsl 27 3 1 [26]) (eP (l:=([x12]:List Int)) (f:=cI) (g:=cI) kr (fun _=>rfl) kr (oC ?_));exact aq' 5 cI h fun y3 h=>(jn' (aZv _ _ _ h) (wr [(5,.old 5)] (es (eo 5 eS)) bN));exact jn' (aZv _ _ _ h) (wr [(5,.old 5)] (es (eo 5 eS)) bN);exact rw' (s':=⟨[(4,.osl 188 3 1 (x5.map cI))],[]⟩) (wr [(188,.old 4)] (eo 4 jL) bN) (rb' h))
abbrev aZv:=fun p1 p0=>(bOv p1 p0).1
abbrev bDo:=fun p1 p0=>(bOv p1 p0).2
theorem bLi (p0:aR) (p1:List UInt8):dW Tryz.prog 64 [rO p0,vS p1] [] Zd Ze (aHq p0 p1):=by
 refine aoB fun r h=>?_;rw [aHq] at h;refine aO (.bsl 8 3 1 []) (eP (l:=([]:List Int)) (f:=cI) (g:=cI) kr (fun _=>rfl) kr (oC ?_));exact lq' p0.names (lb' (bDo _ _ _ _ _ h) (wr [(5,.old 5)] (es (eo 5 eS)) bN))
theorem bJv (p0:bI):FOk Tryz.prog 122 [M9 p0] (fun y=>(vS y)) (aHu p0):=by
 refine aoP fun r h=>?_;rw [aHu] at h;refine cd' h ?_ ?_<;>intro h;exact rp' h;exact rp' h
abbrev aU0 (p1) (p0):=L6.mutual_partial_correctness p1 p0 (fun y3 x19 y7=>bD4 p1 y3 x19 y7 p0) (aWt p1 p0) (fun y2 y3 x19 y4=>aYe p1 y2 y3 x19 y4 p0) (by intro bSi cMi aOv aXb y3 x19 y7 x57 sV r h;refine Lok.un ?_;refine cd' h ?_ ?_<;>intro h;refine iq' h fun y9 h=>?_;refine aO (.bsl 69 139 3 [68]) (eP (l:=([dX.mk y3 y9.name y9.type]:List dX)) (f:=jK) (g:=jK) kr (fun _=>rfl) kr (oC ?_));refine aq' 70 jK h fun y10 h=>?_;exact lb' (aOv _ _ _ _ _ _ h) (wr [(70,.old 70)] eS (bs_ (bs_ (fP (c0:=[.osl 70 139 3 (y10.map jK)]) kr (bO (gJ (t:=70) kr kr) fT) bN))));exact lb' (aXb _ _ _ h) (wr [(70,.old 70)] eS (bs_ (bs_ (fP (c0:=[.osl 70 139 3 (sV.map jK)]) kr (bO (gJ (t:=70) kr kr) fT) bN))))) (by intro cC4 aRf x19 fU r h;refine Lok.un ?_;refine cd' h ?_ ?_<;>intro h;refine iq' h fun y1 h=>(cs' h (bAy _ _) fun y2 h=>?_);refine cd' h ?_ ?_<;>intro h;exact rp' h;refine cs' h (bJv _) fun y3 h=>?_;refine aO (.slc 37 3 35 none (some 36) none) (vs (fun (y:List bI)=>(jV y)) h (fun y hy=>aHf (l:=p1) (f:=eD) (lo:=0) (hi:=x19) hy kr kr ⟨kr,.i64,kr⟩ rfl) fun y4 h=>oC ?_);refine lq' y4 ?_;exact lb' (aRf _ _ _ _ _ _ _ h) (wr [(70,.old 70)] eS (bs_ (bs_ (fP (c0:=[.osl 70 139 3 (fU.map jK)]) kr (bO (gJ (t:=70) kr kr) fT) bN))));exact rp' h) (by intro bSi cC4 aOv aRf y2 y3 x19 y4 fU x39 r h;refine Lok.un ?_;refine cd' h ?_ ?_<;>intro h;refine iq' h fun y5 h=>(cs' h (bJv _) fun y6 h=>?_);refine cd' h ?_ ?_<;>intro h;refine aO (.bld 47 [.nil 3] []) (iJ (c:=[.nil 3]) kr kr rfl (oC ?_));exact rw' (s':=⟨[(4,.ptr 4 0),(5,vI 2),(6,vS y3)],[(4,oJ (aR.mk ([]:List dX)))]⟩) (wr [] eS (fP (c0:=[.nil 3]) kr (bO (qE kr kr) fT) bN)) (rp' h);exact lb' (aRf _ _ _ _ _ _ _ h) (wr [(70,.old 70)] eS (bs_ (bs_ (fP (c0:=[.osl 70 139 3 (fU.map jK)]) kr (bO (gJ (t:=70) kr kr) fT) bN))));refine iq' h fun y7 h=>(lq' y7.cols ?_);exact lb' (aOv _ _ _ _ _ _ h) (wr [(70,.old 70)] eS (bs_ (bs_ (fP (c0:=[.osl 70 139 3 (fU.map jK)]) kr (bO (gJ (t:=70) kr kr) fT) bN)))))
abbrev aOv:=fun p1 y3 x19 y7 p0=>(aU0 p1 p0).1 y3 x19 y7
abbrev aXb:=fun p1 p0=>(aU0 p1 p0).2.1
abbrev aRf:=fun p1 y2 y3 x19 y4 p0=>(aU0 p1 p0).2.2 y2 y3 x19 y4
theorem bKi (p0:aP) (p1:List bI):FOk Tryz.prog 87 [fC p0,jV p1] (fun y=>(.tup [rO y.1,vI y.2.1,vS y.2.2])) (aJ7 p0 p1):=by
 refine aoP fun r h=>?_;rw [aJ7] at h;refine aO (.bld 16 [.nil 3] []) (iJ (c:=[.nil 3]) kr kr rfl (oC ?_));refine lq' p1 ?_;exact lb' (aXb _ _ _ _ _ h) (wr [(70,.new 139 3)] eS (bs_ (bs_ (fP (c0:=[.nil 3]) kr (bO (aLp kr kr) fT) bN))))
theorem bMb (p0:bV) (p1:List bI):dW Tryz.prog 63 [.ptr 186 0,jV p1] [(186,[gG p0.c.tables,.osl 222 55 5 (p0.list.map bL),vB p0.failed])] (fun (y:aR×bV)=>(rO y.1)) (fun (y:aR×bV)=>[(186,[gG y.2.c.tables,.osl 222 55 5 (y.2.list.map bL),vB y.2.failed])]) (aIz p0 p1):=by
 refine aoB fun r h=>?_;rw [aIz] at h;refine cs' h (bKi _ _) fun y1 h=>(dF h fun y2 h=>?_);refine rw' (s':=⟨[(4,.ptr 4 0)],[(4,oJ y1.1),(186,[gG p0.c.tables,.osl 222 55 5 (p0.list.map bL),vB y2])]⟩) (wr [(222,.old 222)] eS (bs_ (fP (c0:=[gG p0.c.tables,.osl 222 55 5 (p0.list.map bL),vB y2]) kr (bO (eU kr kr) (bO (gJ (t:=222) kr kr) (bO (eU kr kr) fT))) bN))) ?_;exact rb' h
abbrev M4:=aG8.mutual_partial_correctness aYs aZi bA4 (fun p0 p1 p2 r=>bJ Tryz.prog 62 [.ptr 186 0,eF p1,gM p2] [(186,[gG p0.c.tables,.osl 222 55 5 (p0.list.map bL),vB p0.failed])] (BQ Za Z19 r)) aZy bC5 bBl (fun p0 p1 p2 r=>bJ Tryz.prog 32 [.ptr 186 0,eF p1,gH p2] [(186,[gG p0.c.tables,.osl 222 55 5 (p0.list.map bL),vB p0.failed])] (BQ Za Z19 r)) aZq bFk (by intro bUy bTh aR1 aSz y7 p2 x66 y23 jB jD kx86 r h;refine Lok.un ?_;refine cd' h ?_ ?_<;>intro h;refine lK cI h fun y25 h=>(iq' h fun y26 h=>(iq' h fun y27 h=>?_));refine dO (.bsl 108 55 5 [107]) (xP (l:=([aU.mk y27.qual y27.name 1 0 y25]:List aU)) (f:=bL) (g:=bL) kr (fun _=>rfl) (dC ?_));refine aD9 222 [101] [186] bL h fun y28 h=>?_;exact lb' (aR1 _ _ _ _ _ _ (_,_) _ h) (wr [(8,.old 8),(84,.old 84),(222,.old 109)] (es (eo 8 (es (es (es (eo 84 eS)))))) (fP (c0:=[gG jB,.osl 109 55 5 (y28.map bL),vB jD]) kr (bO (eU kr kr) (bO (gJ (t:=109) kr kr) (bO (eU kr kr) fT))) bN));exact jn' (aSz _ _ _ _ _ _ _ h) (wr [(8,.old 8),(222,.old 222)] (es (eo 8 eS)) (fP (c0:=[gG jB,.osl 222 55 5 (kx86.2.map bL),vB jD]) kr (bO (eU kr kr) (bO (gJ (t:=222) kr kr) (bO (eU kr kr) fT))) bN))) (by intro cE7 aP4 y7 p2 x66 uH uM uW r h;refine Jok.un ?_;exact lb' (aP4 _ _ _ _ _ _ _ h) (wr [(8,.old 8),(222,.old 222)] (es (eo 8 eS)) (fP (c0:=[gG uH,.osl 222 55 5 (uM.map bL),vB uW]) kr (bO (eU kr kr) (bO (gJ (t:=222) kr kr) (bO (eU kr kr) fT))) bN))) (by intro bUy bTh bFt aR1 aSz Y7 y7 p2 x66 jB qG jD r h;refine Lok.un ?_;refine cd' h ?_ ?_<;>intro h;refine iq' h fun y17 h=>?_;refine cd' h ?_ ?_<;>intro h;refine aO (.bsl 77 78 10 [76]) (eP (l:=([y17.expr]:List aB)) (f:=bF) (g:=lD) kr lG kr (oC ?_));refine cg' ⟨[(186,186)],[(222,222)],[],[],[],[(222,222)],[],[222],[]⟩ h (Y7 _ _ _) fun y18 h=>?_;exact jn' (aSz _ _ _ _ _ _ _ h) (wr [(8,.old 8),(222,.old 222)] (es (eo 8 eS)) (fP (c0:=[gG y18.c.tables,.osl 222 55 5 (y18.list.map bL),vB y18.failed]) kr (bO (eU kr kr) (bO (gJ (t:=222) kr kr) (bO (eU kr kr) fT))) bN));refine iq' h fun y22 h=>(fK ⟨[],[],[],[],[],[(188,84)],[],[84],[]⟩ [] [] h (bLi _ _) fun y23 h=>(nK cI y23 ?_));exact lb' (aR1 _ _ _ _ _ _ (_,_) _ h) (wr [(8,.old 8),(84,.old 84),(222,.old 222)] (es (eo 8 (es (es (es (eo 84 eS)))))) (fP (c0:=[gG jB,.osl 222 55 5 (qG.map bL),vB jD]) kr (bO (eU kr kr) (bO (gJ (t:=222) kr kr) (bO (eU kr kr) fT))) bN));exact rw' (s':=⟨[],[(186,[gG jB,.osl 222 55 5 (qG.map bL),vB jD])]⟩) (wr [(222,.old 222)] jL (fP (c0:=[gG jB,.osl 222 55 5 (qG.map bL),vB jD]) kr (bO (eU kr kr) (bO (gJ (t:=222) kr kr) (bO (eU kr kr) fT))) bN)) (rb' h)) (by intro bWy aSv p0 p1 p2 r h;refine ao' (lq' p2 ?_);exact lb' (aSv _ _ _ _ _ _ _ h) (wr [(222,.old 222)] eS (fP (c0:=[gG p0.c.tables,.osl 222 55 5 (p0.list.map bL),vB p0.failed]) kr (bO (eU kr kr) (bO (gJ (t:=222) kr kr) (bO (eU kr kr) fT))) bN))) (by intro cOi aU8 p1 p2 x12 aV aZ bD r h;refine Lok.un ?_;refine cd' h ?_ ?_<;>intro h;refine iq' h fun y1 h=>?_;refine cd' h ?_ ?_<;>intro h;refine cg' ⟨[(186,186)],[(222,222)],[],[],[],[(222,222)],[],[222],[]⟩ h (cG7 _ _ _) fun y2 h=>?_;exact jn' (aU8 _ _ _ _ _ _ _ _ h) (wr [(222,.old 222)] eS (bs_ (fP (c0:=[gG y2.c.tables,.osl 222 55 5 (y2.list.map bL),vB y2.failed]) kr (bO (eU kr kr) (bO (gJ (t:=222) kr kr) (bO (eU kr kr) fT))) bN)));exact jn' (aU8 _ _ _ _ _ _ _ _ h) (wr [(222,.old 222)] eS (bs_ (fP (c0:=[gG aV,.osl 222 55 5 (aZ.map bL),vB bD]) kr (bO (eU kr kr) (bO (gJ (t:=222) kr kr) (bO (eU kr kr) fT))) bN)));exact rw' (s':=⟨[],[(186,[gG aV,.osl 222 55 5 (aZ.map bL),vB bD])]⟩) (wr [(222,.old 222)] jL (fP (c0:=[gG aV,.osl 222 55 5 (aZ.map bL),vB bD]) kr (bO (eU kr kr) (bO (gJ (t:=222) kr kr) (bO (eU kr kr) fT))) bN)) (rb' h)) (by intro bFt bVp Y7 aTm p1 p2 x12 y1 vR vE wG r h;refine Jok.un (cg' ⟨[(186,186)],[(222,222)],[],[],[],[(222,222)],[],[222],[]⟩ h (Y7 _ _ _) fun y6 h=>(lq' y1.sub ?_));exact lb' (aTm _ _ _ _ _ _ (_,_) _ h) (wr [(222,.old 222)] eS (fP (c0:=[gG y6.c.tables,.osl 222 55 5 (y6.list.map bL),vB y6.failed]) kr (bO (eU kr kr) (bO (gJ (t:=222) kr kr) (bO (eU kr kr) fT))) bN))) (by intro bWy bVp cOe aSv aTm bEs p1 p2 x12 y1 x31 lC jG r h;refine Lok.un ?_;refine cd' h ?_ ?_<;>intro h;refine iq' h fun y10 h=>(cg' ⟨[(186,186)],[(222,222)],[],[],[],[(222,222)],[],[222],[]⟩ h (bEs _ _ _) fun y11 h=>?_);exact lb' (aTm _ _ _ _ _ _ (_,_) _ h) (wr [(222,.old 222)] eS (fP (c0:=[gG y11.c.tables,.osl 222 55 5 (y11.list.map bL),vB y11.failed]) kr (bO (eU kr kr) (bO (gJ (t:=222) kr kr) (bO (eU kr kr) fT))) bN));exact lb' (aSv _ _ _ _ _ _ _ h) (wr [(222,.old 222)] eS (fP (c0:=[gG lC,.osl 222 55 5 (jG.1.map bL),vB jG.2]) kr (bO (eU kr kr) (bO (gJ (t:=222) kr kr) (bO (eU kr kr) fT))) bN))) (by intro cF0 aRm p0 p1 p2 r h;refine ao' (lq' p2.from_ ?_);exact lb' (aRm _ _ _ _ _ _ _ h) (wr [(222,.old 222)] eS (bs_ (fP (c0:=[gG p0.c.tables,.osl 222 55 5 (p0.list.map bL),vB p0.failed]) kr (bO (eU kr kr) (bO (gJ (t:=222) kr kr) (bO (eU kr kr) fT))) bN)))) (by intro bFt cF0 bZy Y7 aRm aPw p1 p2 x19 aV aZ bD r h;refine Lok.un ?_;refine cd' h ?_ ?_<;>intro h;refine iq' h fun y1 h=>?_;refine dO (.slc 30 3 27 none (some 29) none) (aGf (m:=nR p2.from_ 0 (QA .i64 (x19+1))) (v':=fun y=>(jV y)) h rfl rfl (fun y hy=>aHf (l:=p2.from_) (f:=eD) (lo:=0) (hi:=(QA .i64 (x19+1))) hy kr kr ⟨kr,.i64,kr⟩ rfl) fun y2 h=>dC ?_);refine fK ⟨[(186,186)],[(222,222)],[],[],[],[(222,222)],[],[222],[]⟩ [] [186] h (bMb _ _) fun y3 h=>(fK ⟨[],[],[],[],[],[(188,33)],[],[33],[]⟩ [] [] h (aSn _ _) fun y4 h=>(fK ⟨[(186,186)],[(222,222)],[],[],[],[(222,222)],[],[222],[]⟩ [] [186] h (Y7 _ _ _) fun y5 h=>?_));exact lb' (aRm _ _ _ _ _ _ _ h) (wr [(222,.old 222)] eS (bs_ (fP (c0:=[gG y5.c.tables,.osl 222 55 5 (y5.list.map bL),vB y5.failed]) kr (bO (eU kr kr) (bO (gJ (t:=222) kr kr) (bO (eU kr kr) fT))) bN)));refine cg' ⟨[(186,186)],[(222,222)],[],[],[],[(222,222)],[],[222],[]⟩ h (bMb _ _) fun y6 h=>(cg' ⟨[],[],[],[],[],[(188,43)],[],[43],[]⟩ h (aSn _ _) fun y7 h=>(cg' ⟨[(186,186)],[(222,222)],[],[],[],[(222,222)],[],[222],[]⟩ h (Y7 _ _ _) fun y8 h=>(lq' p2.order ?_)));exact lb' (aPw _ _ _ _ _ _ _ h) (wr [(8,.old 8),(222,.old 222)] (es (es (eo 8 eS))) (bs_ (fP (c0:=[gG y8.c.tables,.osl 222 55 5 (y8.list.map bL),vB y8.failed]) kr (bO (eU kr kr) (bO (gJ (t:=222) kr kr) (bO (eU kr kr) fT))) bN)))) (by intro cE7 bFt bZy aP4 Y7 aPw y7 p2 x52 tC sF tV r h;refine Lok.un ?_;refine cd' h ?_ ?_<;>intro h;refine iq' h fun y12 h=>?_;refine aO (.bsl 60 78 10 [59]) (eP (l:=([y12.expr]:List aB)) (f:=bF) (g:=lD) kr lG kr (oC ?_));refine cg' ⟨[(186,186)],[(222,222)],[],[],[],[(222,222)],[],[222],[]⟩ h (Y7 _ _ _) fun y13 h=>?_;exact lb' (aPw _ _ _ _ _ _ _ h) (wr [(8,.old 8),(222,.old 222)] (es (es (eo 8 eS))) (bs_ (fP (c0:=[gG y13.c.tables,.osl 222 55 5 (y13.list.map bL),vB y13.failed]) kr (bO (eU kr kr) (bO (gJ (t:=222) kr kr) (bO (eU kr kr) fT))) bN)));refine lq' p2.items ?_;exact lb' (aP4 _ _ _ _ _ _ _ h) (wr [(8,.old 8),(222,.old 222)] (es (eo 8 eS)) (fP (c0:=[gG tC,.osl 222 55 5 (sF.map bL),vB tV]) kr (bO (eU kr kr) (bO (gJ (t:=222) kr kr) (bO (eU kr kr) fT))) bN)))
abbrev aR1:=M4.1
abbrev aSz:=M4.2.1
abbrev aP4:=M4.2.2.1
theorem Y7 (p0:bV) (p1:List aR) (p2:List aB):dW Tryz.prog 62 [.ptr 186 0,eF p1,gM p2] [(186,[gG p0.c.tables,.osl 222 55 5 (p0.list.map bL),vB p0.failed])] Za Z19 (mR p0 p1 p2):=fun r h=>(M4).2.2.2.1 p0 p1 p2 r h
abbrev aSv:=M4.2.2.2.2.1
abbrev aU8:=M4.2.2.2.2.2.1
abbrev aTm:=M4.2.2.2.2.2.2.1
theorem bEs (p0:bV) (p1:List aR) (p2:aL):dW Tryz.prog 32 [.ptr 186 0,eF p1,gH p2] [(186,[gG p0.c.tables,.osl 222 55 5 (p0.list.map bL),vB p0.failed])] Za Z19 (vY p0 p1 p2):=fun r h=>(M4).2.2.2.2.2.2.2.1 p0 p1 p2 r h
abbrev aRm:=M4.2.2.2.2.2.2.2.2.1
abbrev aPw:=M4.2.2.2.2.2.2.2.2.2
theorem bUn (p0:aP) (p1:aL):dW Tryz.prog 10 [fC p0,gH p1] [] Z14 Z15 (aN5 p0 p1):=by
 refine aoB fun r h=>?_;rw [aN5] at h;refine cs' h (bJi _) fun y1 h=>(gc' h (bN9 _) fun y2 h=>(dF h fun y3 h=>?_));refine cd' h ?_ ?_<;>intro h;exact rw' (s':=⟨[(4,.osl 188 55 5 (([]:List aU).map bL)),(5,vB false)],[]⟩) (wr [(188,.new 55 5)] (en eS) bN) (rb' h);refine aO (.bld 16 [.nil 2,.nil 5,fO] [(0,1,15)]) (iJ (c:=[gG p0.tables,.nil 5,vB false]) kr kr rfl (oC ?_));refine cg' ⟨[(186,17)],[],[(222,55,5)],[],[[none,some 222,none]],[(222,208)],[],[208],[]⟩ h (bEs _ _ _) fun y4 h=>?_;refine cd' h ?_ ?_<;>intro h;exact rw' (s':=⟨[(4,.osl 188 55 5 (([]:List aU).map bL)),(5,vB false)],[]⟩) (wr [(188,.new 55 5)] (en eS) bN) (rb' h);exact rw' (s':=⟨[(4,.osl 188 55 5 (y4.list.map bL)),(5,vB true)],[]⟩) (wr [(188,.old 4)] (eo 4 eS) bN) (rb' h)
theorem bYg (p0:aP) (p1:aL):FOk Tryz.prog 6 [fC p0,gH p1] (fun y=>(vB y)) (aLw p0 p1):=by
 refine aoP fun r h=>?_;rw [aLw] at h;exact cg' ⟨[],[],[],[],[],[(188,205)],[],[205],[]⟩ h (bUn _ _) fun y1 h=>(gc' h (bXr _) fun y2 h=>(dN h fun y3 h=>(rp' h)))
abbrev cF4 (p0):=X8.partial_correctness p0 (bCp p0) (by intro cOh aXj dI x27 r h;refine Lok.un ?_;refine cd' h ?_ ?_<;>intro h;refine iq' h fun y5 h=>?_;refine aO (.bsl 34 111 10 [33]) (eP (l:=([y5.expr]:List aJ)) (f:=aQ) (g:=nL) kr nG kr (oC ?_));exact aq' 3 aQ h fun y6 h=>(lb' (aXj _ _ _ h) (wr [(3,.old 3)] (es (eo 3 eS)) bS));exact aq' 3 aQ h fun y7 h=>(rw' (s':=⟨[(2,.osl 188 111 10 (y7.map aQ))],[]⟩) (wr [(188,.old 2)] (eo 2 jL) bN) (rb' h)))
abbrev aXj:=cF4
abbrev bSh (p0):=aEv.partial_correctness p0 (bBk p0) (by intro cNx bFb x3 x12 r h;refine Lok.un ?_;refine cd' h ?_ ?_<;>intro h;exact iq' h fun y1 h=>(aq' 3 aQ h fun y2 h=>(lb' (bFb _ _ _ h) (wr [(3,.old 3)] (es (eo 3 eS)) bS)));exact aq' 3 aQ h fun y3 h=>(lq' p0.order (lb' (aXj _ _ _ _ h) (wr [(3,.old 3)] (es (eo 3 eS)) bS))))
abbrev bFb:=bSh
theorem bJ7 (p0:bA):dW Tryz.prog 48 [nC p0] [] Zn Zo (aHg p0):=by
 refine aoB fun r h=>?_;rw [aHg] at h;refine aO (.bsl 8 111 10 []) (eP (l:=([]:List aJ)) (f:=aQ) (g:=nL) kr nG kr (oC ?_));exact lq' p0.on_ (lb' (bFb _ _ _ _ h) (wr [(3,.old 3)] (es (eo 3 eS)) bS))
abbrev aMz:=aG4.mutual_partial_correctness aW9 (fun p0 r=>bJ Tryz.prog 19 [nC p0] [] (PQ (fun y=>(vI y)) r)) (fun p0 r=>bJ Tryz.prog 47 [uF p0] [] (PQ (fun y=>(vI y)) r)) bA2 (fun p0 r=>bJ Tryz.prog 94 [qC p0] [] (PQ (fun y=>(vI y)) r)) (by intro bVk cL6 aRq bEc p0 x3 x12 r h;refine Lok.un ?_;refine cd' h ?_ ?_<;>intro h;exact iq' h fun y2 h=>(cs' h (bEc _) fun y3 h=>(lb' (aRq _ _ _ _ h) (wr [] eS bN)));exact rp' h) (by intro cKj aOu p0 r h;exact ao' (cg' ⟨[],[],[],[],[],[(188,4)],[],[4],[]⟩ h (bJ7 _) fun y1 h=>(cs' h (aOu _) fun y2 h=>(rp' h)))) (by intro bQf aSi p0 r h;exact ao' (lq' p0 (lb' (aSi _ _ _ _ h) (wr [] eS bN)))) (by intro bQf cLw aSi bHx p0 x3 x8 r h;refine Lok.un ?_;refine cd' h ?_ ?_<;>intro h;exact iq' h fun y1 h=>(cs' h (bHx _) fun y2 h=>(lb' (aSi _ _ _ _ h) (wr [] eS bN)));exact rp' h) (by intro bVk cKj aRq aOu p0 r h;exact ao' (cs' h (aOu _) fun y1 h=>(lq' p0.sub (lb' (aRq _ _ _ _ h) (wr [] eS bN)))))
abbrev aRq:=aMz.1
theorem bEc (p0:bA):FOk Tryz.prog 19 [nC p0] (fun y=>(vI y)) (Z0 p0):=fun r h=>(aMz).2.1 p0 r h
theorem aOu (p0:List aJ):FOk Tryz.prog 47 [uF p0] (fun y=>(vI y)) (aJ4 p0):=fun r h=>(aMz).2.2.1 p0 r h
abbrev aSi:=aMz.2.2.2.1
theorem bHx (p0:aJ):FOk Tryz.prog 94 [qC p0] (fun y=>(vI y)) (aAp p0):=fun r h=>(aMz).2.2.2.2 p0 r h
abbrev aLg:=aDk.mutual_partial_correctness aUh (fun p0 r=>bJ Tryz.prog 20 [nC p0] [] (PQ (fun y=>(vI y)) r)) (fun p0 r=>bJ Tryz.prog 49 [uF p0] [] (PQ (fun y=>(vI y)) r)) aV9 (fun p0 r=>bJ Tryz.prog 95 [qC p0] [] (PQ (fun y=>(vI y)) r)) (by intro bQl cNj aT0 aZa p0 x3 x13 r h;refine Lok.un ?_;refine cd' h ?_ ?_<;>intro h;exact iq' h fun y2 h=>(cs' h (aZa _) fun y3 h=>(lb' (aT0 _ _ _ _ h) (wr [] eS bN)));exact rp' h) (by intro bSz aQl p0 r h;exact ao' (cg' ⟨[],[],[],[],[],[(188,4)],[],[4],[]⟩ h (bJ7 _) fun y1 h=>(cs' h (aQl _) fun y2 h=>(rp' h)))) (by intro cJk aQz p0 r h;exact ao' (lq' p0 (lb' (aQz _ _ _ _ h) (wr [] eS bN)))) (by intro cJk cNk aQz bOz p0 x3 x8 r h;refine Lok.un ?_;refine cd' h ?_ ?_<;>intro h;exact iq' h fun y1 h=>(cs' h (bOz _) fun y2 h=>(lb' (aQz _ _ _ _ h) (wr [] eS bN)));exact rp' h) (by intro bQl bSz aT0 aQl p0 r h;exact ao' (cs' h (aQl _) fun y1 h=>(lq' p0.sub (lb' (aT0 _ _ _ _ h) (wr [] eS bN)))))
abbrev aT0:=aLg.1
theorem aZa (p0:bA):FOk Tryz.prog 20 [nC p0] (fun y=>(vI y)) (U8 p0):=fun r h=>(aLg).2.1 p0 r h
theorem aQl (p0:List aJ):FOk Tryz.prog 49 [uF p0] (fun y=>(vI y)) (aH0 p0):=fun r h=>(aLg).2.2.1 p0 r h
abbrev aQz:=aLg.2.2.2.1
theorem bOz (p0:aJ):FOk Tryz.prog 95 [qC p0] (fun y=>(vI y)) (Y4 p0):=fun r h=>(aLg).2.2.2.2 p0 r h
theorem xD (p0:bH):dW Tryz.prog 17 [.ptr 186 0] [(186,dV p0)] Z16 (fun (y:Bool)=>[(186,dV p0)]) (tH p0):=by
 refine aoB fun r h=>?_;rw [tH] at h;exact rb' h
theorem bI9 (y4 aCv M5 L8 r) (h:aFd y4 aCv M5 L8=some r):bY2 y4 aCv M5 L8 r:=by
 rw [aFd] at h;refine Jok.un (cg' ⟨[(186,21)],[],[],[],[],[],[],[],[]⟩ h (xD _) fun y11 h=>?_);refine cd' h ?_ ?_<;>intro h;refine dO (.bld 43 [.nil 1,.nil 1,.nil 10,.nil 11,.nil 10,.nil 1,fO,bC] []) (sH (c:=[.nil 1,.nil 1,.nil 10,.nil 11,.nil 10,.nil 1,vB false,vI 0]) kr kr rfl (dC ?_));refine rw' (s':=⟨[(4,.ptr 4 0),(5,.ptr 5 0)],[(4,xV (bA.mk ([]:List Int) ([]:List (List aJ)) ([]:List aJ) ([]:List dL) ([]:List aJ) ([]:List (List UInt8)) false 0)),(5,bL2 (fB.mk M5 L8))]⟩) (wr [] eS (fP (c0:=[.nil 1,.nil 1,.nil 10,.nil 11,.nil 10,.nil 1,vB false,vI 0]) kr (bO (qE kr kr) (bO (qE kr kr) (bO (qE kr kr) (bO (qE kr kr) (bO (qE kr kr) (bO (qE kr kr) (bO (eU kr kr) (bO (eU kr kr) fT)))))))) bS)) ?_;exact rp' h;exact rp' h
theorem U7 (p0:bH) (p1:Int) (p2:List UInt8):dW Tryz.prog 21 [.ptr 186 0,vI p1,vS p2] [(186,dV p0)] (fun (y:bH)=>(.tup [])) (fun (y:bH)=>[(186,dV y)]) (yN p0 p1 p2):=by
 refine aoB fun r h=>?_;rw [yN] at h;refine cd' h ?_ ?_<;>intro h;exact rb' h;exact rb' h
abbrev Z1a (y:List UInt8):V:=(vS y)
theorem bTx (p0:List UInt8) (p1:List UInt8):FOk Tryz.prog 90 [vS p0,vS p1] (fun y=>(vS y)) (aL7 p0 p1):=by
 refine aoP fun r h=>?_;rw [aL7] at h;refine cd' h ?_ ?_<;>intro h;exact rp' h;refine aO (.bin 9 .add 8 (.c (.d (.s (bs [46]))))) (vs Z1a h (fun y hy=>R3 (a:=p0) (b:=[46]) hy kr kr kr) fun y1 h=>oC ?_);refine aO (.bin 11 .add 9 10) (vs Z1a h (fun y hy=>R3 (a:=y1) (b:=p1) hy kr kr kr) fun y2 h=>oC ?_);exact rp' h
abbrev bWa (p1) (p2) (p0):=aCf.partial_correctness p1 p2 p0 (aXv p1 p2 p0) (by intro cMv aY0 x13 r h;refine Lok.un ?_;refine cd' h ?_ ?_<;>intro h;refine iq' h fun y1 h=>(cg' ⟨[],[],[],[],[],[(188,21)],[],[21],[]⟩ h (bKg _ _ _) fun y2 h=>(nK cI y2 ?_));refine cd' h ?_ ?_<;>intro h;exact lb' (aY0 _ _ h) (wr [] eS bS);refine cd' h ?_ ?_<;>intro h;exact lK cI h fun y3 h=>(lK cI h fun y4 h=>(iq' h fun y5 h=>(rp' h)));exact rp' h;exact rp' h)
abbrev aY0:=bWa
theorem cCs (p0:List aR) (p1:List UInt8) (p2:List UInt8):FOk Tryz.prog 89 [eF p0,vS p1,vS p2] (fun y=>(.tup [bNs y.1,vI y.2])) (aM2 p0 p1 p2):=by
 refine aoP fun r h=>?_;rw [aM2] at h;exact lq' p0 (lb' (aY0 _ _ _ _ _ h) (wr [] eS bS))
theorem bBv (p0:Int) (p1:Int) (p2:Int):FOk Tryz.prog 153 [vI p0,vI p1,vI p2] (fun y=>(vB y)) (aGb p0 p1 p2):=by
 refine aoP fun r h=>?_;rw [aGb] at h;refine dF h fun y1 h=>?_;refine aO (.g 14 true (.pick 21 18 (kB true) 20)) (gv true y1 Z16 h (fun y hy hc=>mP hy (p:=true) (q:=((true&&(y1==true))&&((decide (p2=p0))==false))) (Eq.trans (b:=([true&&(y1==true)]:List Bool).all id) kr (iU hc rfl)) kr kr kr (fun _=>rfl) (fun hb=>uX hc hb)) fun y2 h=>oC ?_);exact dN h fun y3 h=>(rp' h)
theorem aLu (x8 x9 r) (h:aB0 x8 x9=some r):cD2 x8 x9 r:=by
 rw [aB0] at h;refine Jok.un ?_;refine cd' h ?_ ?_<;>intro h;exact rp' h;exact rp' h
theorem bJ8 (p0:Int):FOk Tryz.prog 177 [vI p0] (fun y=>(vB y)) (aJf p0):=by
 refine aoP fun r h=>?_;rw [aJf] at h;exact dN h fun y1 h=>(rp' h)
theorem bM1 (p0:Int) (p1:Int):FOk Tryz.prog 154 [vI p0,vI p1] (fun y=>(.tup [vI y.1,vB y.2])) (aJp p0 p1):=by
 refine aoP fun r h=>?_;rw [aJp] at h;refine cs' h (bJ8 _) fun y1 h=>(gc' h (bJ8 _) fun y2 h=>(dF h fun y3 h=>?_));refine cd' h ?_ ?_<;>intro h;exact rp' h;refine cd' h ?_ ?_<;>intro h;exact rp' h;refine dF h fun y4 h=>?_;refine cd' h ?_ ?_<;>intro h;exact rp' h;exact rp' h
theorem aP7 (p0:Int):FOk Tryz.prog 88 [vI p0] (fun y=>(vB y)) (aBy p0):=by
 refine aoP fun r h=>?_;rw [aBy] at h;exact dF h fun y1 h=>(rp' h)
end Go.Proofs.YtiofikmhbpbejabGreatDoor
