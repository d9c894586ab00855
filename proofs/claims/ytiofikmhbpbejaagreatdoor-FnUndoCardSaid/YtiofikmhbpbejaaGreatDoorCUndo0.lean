/- That the code computes these functions (printed by a program). -/
import Derived.Test.YtiofikmhbpbejaaGreatDoorAbP
import Derived.Test.YtiofikmhbpbejaaGreatDoorAbQ
import Derived.KernelRfl
import Derived.Test.YtiofikmhbpbejaaGreatDoorAbG2
import Derived.Test.YtiofikmhbpbejaaGreatDoorAbC3
import Derived.Test.YtiofikmhbpbejaaGreatDoorAbX6
import Derived.Test.YtiofikmhbpbejaaGreatDoorAbX5
import Derived.Test.YtiofikmhbpbejaaGreatDoorAbX3
import Derived.Test.YtiofikmhbpbejaaGreatDoorAbX2
import Derived.Test.YtiofikmhbpbejaaGreatDoorFUndo
import Derived.Test.YtiofikmhbpbejaaGreatDoorProg
namespace Go.Proofs.YtiofikmhbpbejaaGreatDoor
open Go Go.RowKit Go.Ab
open Go.IntKind renaming wrap→QA
open _root_.List renaming map_nil→QB,map_cons→QC,mem_cons_of_mem→QD,cons_append→QE,nil_append→QF
attribute [local irreducible] avc dR aop dgo kW vZ uN wkK V4 stz aZi bC eff bU.st Cf.ok Cf.way Cf.put Cf.putS Cf.putD Cf.A Cf.W Cf.to Cf.reg Cf.withS GQ H8 vY zG uB Lok Jok Cf.kr Cf.ll Cf.dw Cf.stt Cf.z Cf.zW
def cI (n:Int):List D:=[.i .i64 n]
def cU8 (n:Int):List D:=[.i .u8 n]
def cIn (n:Int):List D:=[.i .u64 n]
def cIo (n:Int):List D:=[.i .i32 n]
def cGe (n:Int):List D:=[.i .u32 n]
def cB (b:Bool):List D:=[.b b]
def cStr (s:List UInt8):List D:=[.s (bs s)]
def cSl {α:Type} (sz:Nat) (f:α→List D) (l:List α):List D:=[.sl sz (l.map f)]
def jK (x:dL):List D:=[.s (bs x.name),.i .i64 x.type]
def cAh (x:dL):V:=.agg (jK x)
def bEa (x:dL):List V:=(jK x).map V.d
def fD (x:bI):List D:=[.s (bs x.name),.sl 2 (x.cols.map jK)]
def aHi (x:bI):V:=.agg (fD x)
def aKp (x:bI):List V:=(fD x).map V.d
def aSs (x:aP):List D:=[.sl 2 (x.tables.map fD)]
def eZ (x:aP):V:=.agg (aSs x)
def fK (x:aP):List V:=(aSs x).map V.d
def aCx (x:bH):List D:=[.i .i64 x.kind,.i .i64 x.num,.s (bs x.text)]
def sF (x:bH):V:=.agg (aCx x)
def aM0 (x:bH):List V:=(aCx x).map V.d
mutual
def aJ:aA→List D
  | ⟨a0,a1,a2,a3,a4,a5,a6,a7⟩=>[.i .i64 a0]++[.i .i64 a1]++[.b a2]++aCx a3++[.i .i64 a4]++[.i .i64 a5]++[.sl 10 (Y6 a6)]++[.sl 8 (aJ4 a7)]
def bV:bN→List D
  | ⟨a0,a1⟩=>aJ a0++[.b a1]
def dJ:aQ→List D
  | ⟨a0,a1,a2,a3,a4,a5,a6,a7⟩=>[.sl 1 (a0.map cI)]++[.sl 1 (aIz a1)]++[.sl 10 (Y6 a2)]++[.sl 11 (aLg a3)]++[.sl 10 (Y6 a4)]++[.sl 1 (a5.map cStr)]++[.b a6]++[.i .i64 a7]
def Y6:List aA→List (List D)
  | []=>[]
  | x::l=>aJ x::Y6 l
def aLg:List bN→List (List D)
  | []=>[]
  | x::l=>bV x::aLg l
def aJ4:List aQ→List (List D)
  | []=>[]
  | x::l=>dJ x::aJ4 l
def aIz:List (List aA)→List (List D)
  | []=>[]
  | x::l=>[.sl 10 (Y6 x)]::aIz l
end
theorem aI5:∀ l:List aA,Y6 l=l.map aJ
  | []=>by simp only [Y6,QB]
  | x::l=>by simp only [Y6,QC,aI5 l]
theorem aNk:∀ l:List bN,aLg l=l.map bV
  | []=>by simp only [aLg,QB]
  | x::l=>by simp only [aLg,QC,aNk l]
theorem aQj:∀ l:List aQ,aJ4 l=l.map dJ
  | []=>by simp only [aJ4,QB]
  | x::l=>by simp only [aJ4,QC,aQj l]
theorem aN9:∀ l:List (List aA),aIz l=l.map (cSl 10 aJ)
  | []=>by simp only [aIz,QB]
  | x::l=>by simp only [aIz,QC,aN9 l,cSl,aI5]
def iZ (x:aA):List D:=[.i .i64 x.kind,.i .i64 x.op,.b x.not_,.i .i64 x.value.kind,.i .i64 x.value.num,.s (bs x.value.text),.i .i64 x.up,.i .i64 x.at_,.sl 10 (x.kids.map aJ),.sl 8 (x.sub.map dJ)]
def vC (x:bN):List D:=[.i .i64 x.expr.kind,.i .i64 x.expr.op,.b x.expr.not_,.i .i64 x.expr.value.kind,.i .i64 x.expr.value.num,.s (bs x.expr.value.text),.i .i64 x.expr.up,.i .i64 x.expr.at_,.sl 10 (x.expr.kids.map aJ),.sl 8 (x.expr.sub.map dJ),.b x.desc]
def wO (x:aQ):List D:=[.sl 1 (x.tables.map cI),.sl 1 (x.on_.map (cSl 10 aJ)),.sl 10 (x.where_.map aJ),.sl 11 (x.order.map bV),.sl 10 (x.items.map aJ),.sl 1 (x.names.map cStr),.b x.distinct,.i .i64 x.limit]
theorem iE (x:aA):aJ x=iZ x:=by
  obtain ⟨a0,a1,a2,a3,a4,a5,a6,a7⟩:=x
  simp only [aJ,iZ,aI5,aNk,aQj,aN9,QE,QF,aCx]
theorem aCj (x:bN):bV x=vC x:=by
  obtain ⟨a0,a1⟩:=x
  simp only [bV,vC,aI5,aNk,aQj,aN9,iE,iZ,QE,QF]
theorem aAa (x:aQ):dJ x=wO x:=by
  obtain ⟨a0,a1,a2,a3,a4,a5,a6,a7⟩:=x
  simp only [dJ,wO,aI5,aNk,aQj,aN9,QE,QF]
def jA (x:aA):V:=.agg (iZ x)
def wU (x:aA):List V:=(iZ x).map V.d
def cIt (x:bN):V:=.agg (vC x)
def cHy (x:bN):List V:=(vC x).map V.d
def iC (x:aQ):V:=.agg (wO x)
def mK (x:aQ):List V:=(wO x).map V.d
mutual
def bP:aL→List D
  | ⟨a0,a1,a2,a3,a4,a5,a6,a7⟩=>[.i .i64 a0]++[.i .i64 a1]++[.b a2]++aCx a3++[.s (bs a4)]++[.s (bs a5)]++[.sl 10 (aDo a6)]++[.sl 6 (aK7 a7)]
def kY:dU→List D
  | ⟨a0,a1,a2,a3⟩=>[.b a0]++[.s (bs a1)]++bP a2++[.s (bs a3)]
def kT:aV→List D
  | ⟨a0,a1,a2,a3,a4,a5⟩=>[.b a0]++[.sl 13 (aJ1 a1)]++[.sl 3 (aLc a2)]++[.sl 10 (aDo a3)]++[.sl 11 (aIy a4)]++[.i .i64 a5]
def jX:eH→List D
  | ⟨a0,a1⟩=>bP a0++[.b a1]
def jG:bZ→List D
  | ⟨a0,a1,a2⟩=>[.s (bs a0)]++[.s (bs a1)]++[.sl 10 (aDo a2)]
def aDo:List aL→List (List D)
  | []=>[]
  | x::l=>bP x::aDo l
def aJ1:List dU→List (List D)
  | []=>[]
  | x::l=>kY x::aJ1 l
def aK7:List aV→List (List D)
  | []=>[]
  | x::l=>kT x::aK7 l
def aIy:List eH→List (List D)
  | []=>[]
  | x::l=>jX x::aIy l
def aLc:List bZ→List (List D)
  | []=>[]
  | x::l=>jG x::aLc l
end
theorem aFf:∀ l:List aL,aDo l=l.map bP
  | []=>by simp only [aDo,QB]
  | x::l=>by simp only [aDo,QC,aFf l]
theorem aHr:∀ l:List dU,aJ1 l=l.map kY
  | []=>by simp only [aJ1,QB]
  | x::l=>by simp only [aJ1,QC,aHr l]
theorem aGg:∀ l:List aV,aK7 l=l.map kT
  | []=>by simp only [aK7,QB]
  | x::l=>by simp only [aK7,QC,aGg l]
theorem aF2:∀ l:List eH,aIy l=l.map jX
  | []=>by simp only [aIy,QB]
  | x::l=>by simp only [aIy,QC,aF2 l]
theorem aHq:∀ l:List bZ,aLc l=l.map jG
  | []=>by simp only [aLc,QB]
  | x::l=>by simp only [aLc,QC,aHq l]
def oV (x:aL):List D:=[.i .i64 x.kind,.i .i64 x.op,.b x.not_,.i .i64 x.value.kind,.i .i64 x.value.num,.s (bs x.value.text),.s (bs x.qual),.s (bs x.name),.sl 10 (x.kids.map bP),.sl 6 (x.sub.map kT)]
def aBb (x:dU):List D:=[.b x.star,.s (bs x.qual),.i .i64 x.expr.kind,.i .i64 x.expr.op,.b x.expr.not_,.i .i64 x.expr.value.kind,.i .i64 x.expr.value.num,.s (bs x.expr.value.text),.s (bs x.expr.qual),.s (bs x.expr.name),.sl 10 (x.expr.kids.map bP),.sl 6 (x.expr.sub.map kT),.s (bs x.as_)]
def aAt (x:aV):List D:=[.b x.distinct,.sl 13 (x.items.map kY),.sl 3 (x.from_.map jG),.sl 10 (x.where_.map bP),.sl 11 (x.order.map jX),.i .i64 x.limit]
def wP (x:eH):List D:=[.i .i64 x.expr.kind,.i .i64 x.expr.op,.b x.expr.not_,.i .i64 x.expr.value.kind,.i .i64 x.expr.value.num,.s (bs x.expr.value.text),.s (bs x.expr.qual),.s (bs x.expr.name),.sl 10 (x.expr.kids.map bP),.sl 6 (x.expr.sub.map kT),.b x.desc]
def aBd (x:bZ):List D:=[.s (bs x.table),.s (bs x.as_),.sl 10 (x.on_.map bP)]
theorem sG (x:aL):bP x=oV x:=by
  obtain ⟨a0,a1,a2,a3,a4,a5,a6,a7⟩:=x
  simp only [bP,oV,aFf,aHr,aGg,aF2,aHq,QE,QF,aCx]
theorem aQ0 (x:dU):kY x=aBb x:=by
  obtain ⟨a0,a1,a2,a3⟩:=x
  simp only [kY,aBb,aFf,aHr,aGg,aF2,aHq,sG,oV,QE,QF]
theorem aQ6 (x:aV):kT x=aAt x:=by
  obtain ⟨a0,a1,a2,a3,a4,a5⟩:=x
  simp only [kT,aAt,aFf,aHr,aGg,aF2,aHq,QE,QF]
theorem aGo (x:eH):jX x=wP x:=by
  obtain ⟨a0,a1⟩:=x
  simp only [jX,wP,aFf,aHr,aGg,aF2,aHq,sG,oV,QE,QF]
theorem aPp (x:bZ):jG x=aBd x:=by
  obtain ⟨a0,a1,a2⟩:=x
  simp only [jG,aBd,aFf,aHr,aGg,aF2,aHq,QE,QF]
def iB (x:aL):V:=.agg (oV x)
def wH (x:aL):List V:=(oV x).map V.d
def G9 (x:dU):V:=.agg (aBb x)
def cGk (x:dU):List V:=(aBb x).map V.d
def gM (x:aV):V:=.agg (aAt x)
def nC (x:aV):List V:=(aAt x).map V.d
def X4 (x:eH):V:=.agg (wP x)
def cJ2 (x:eH):List V:=(wP x).map V.d
def O1 (x:bZ):V:=.agg (aBd x)
def bXp (x:bZ):List V:=(aBd x).map V.d
def aUn (x:eG):List D:=[.i .i64 x.code,.s (bs x.name)]
def bGt (x:eG):V:=.agg (aUn x)
def bIx (x:eG):List V:=(aUn x).map V.d
def aYi (x:kR):List D:=[.sl 2 (x.c.tables.map fD)]
def A9 (x:kR):V:=.agg (aYi x)
def aDf (x:kR):List V:=(aYi x).map V.d
def aV0 (x:mJ):List D:=[.b x.op,.b x.not_,.b x.value,.b x.name,.i .i64 x.least,.i .i64 x.most,.i .i64 x.subs]
def cE3 (x:mJ):V:=.agg (aV0 x)
def cIs (x:mJ):List V:=(aV0 x).map V.d
def dZ (x:bJ):List D:=[.s (bs x.qual),.s (bs x.name),.i .i64 x.type]
def cIw (x:bJ):V:=.agg (dZ x)
def cGf (x:bJ):List V:=(dZ x).map V.d
def bBr (x:aB):List D:=[.sl 1 (x.b.map cU8),.i .i64 x.i,.i .i64 x.h]
def cGa (x:aB):V:=.agg (bBr x)
def aX (x:aB):List V:=(bBr x).map V.d
def nT (x:bF):List D:=[.sl 3 (x.names.map dZ)]
def uZ (x:bF):V:=.agg (nT x)
def aHp (x:bF):List V:=(nT x).map V.d
def aUs (x:bA):List D:=[.sl 2 (x.c.tables.map fD),.i .i64 x.fault.code,.s (bs x.fault.name)]
def cGl (x:bA):V:=.agg (aUs x)
def dI (x:bA):List V:=(aUs x).map V.d
def bB5 (x:wF):List D:=[.i .i64 x.up,.i .i64 x.at_,.i .i64 x.type]
def bJy (x:wF):V:=.agg (bB5 x)
def cHq (x:wF):List V:=(bB5 x).map V.d
instance:Enc bI:=⟨fD,fD,(fun _=>rfl)⟩
instance:Enc dL:=⟨jK,jK,(fun _=>rfl)⟩
instance:Enc (List aA):=⟨cSl 10 aJ,cSl 10 aJ,(fun _=>rfl)⟩
instance:Enc bN:=⟨bV,vC,aCj⟩
instance:Enc aA:=⟨aJ,iZ,iE⟩
instance:Enc aQ:=⟨dJ,wO,aAa⟩
instance:Enc (List UInt8):=⟨cStr,cStr,(fun _=>rfl)⟩
instance:Enc (List bJ):=⟨cSl 3 dZ,cSl 3 dZ,(fun _=>rfl)⟩
instance:Enc bJ:=⟨dZ,dZ,(fun _=>rfl)⟩
instance:Enc dU:=⟨kY,aBb,aQ0⟩
instance:Enc bZ:=⟨jG,aBd,aPp⟩
instance:Enc eH:=⟨jX,wP,aGo⟩
instance:Enc aV:=⟨kT,aAt,aQ6⟩
instance:Enc aL:=⟨bP,oV,sG⟩
instance:Enc bF:=⟨nT,nT,(fun _=>rfl)⟩



theorem kr {p:Prop} (h:p:=by kernel_rfl):p:=h
def aUb (l:List bI):V:=.d (.sl 2 (l.map fD))
def aGt (l:List dL):V:=.d (.sl 2 (l.map jK))
def aUa (l:List bN):V:=.d (.sl 11 (l.map bV))
def gY (l:List aA):V:=.d (.sl 10 (l.map aJ))
def aN6 (l:List aQ):V:=.d (.sl 8 (l.map dJ))
def jI (l:List Int):V:=.d (.sl 1 (l.map cI))
def aAg (l:List (List UInt8)):V:=.d (.sl 1 (l.map cStr))
def Z0 (l:List Int):V:=.d (.sl 1 (l.map cU8))
def gI (l:List aL):V:=.d (.sl 10 (l.map bP))
def gZ (l:List bF):V:=.d (.sl 1 (l.map nT))
def oI (l:List aV):V:=.d (.sl 6 (l.map kT))
def oO (l:List dU):V:=.d (.sl 13 (l.map kY))
def lK (l:List bZ):V:=.d (.sl 3 (l.map jG))
def yS (l:List eH):V:=.d (.sl 11 (l.map jX))
def aLt (l:List bJ):V:=.d (.sl 3 (l.map dZ))
abbrev fC:V:=(.d (.s (bs [])))
abbrev aR:V:=(.d (.i .i64 0))
abbrev fJ:V:=(.d (.b false))

def bPe (p0:aP) (x8:Int):St:=⟨[(1,.ptr 1 0),(6,aUb p0.tables),(7,vI (p0.tables.length:Int)),(8,vI x8)],[(1,fK p0)]⟩
abbrev aXe:=fun p0 x8 r=>Lok Tryz.prog 19 0 (PQ (fun y=>(vB y)) r) (bPe p0 x8)

def cEo (p0:List bI) (kj:List UInt8) (x8:Int):St:=⟨[(0,aUb p0),(1,.fn 113 [.ptr 186 0]),(7,vI (p0.length:Int)),(8,vI x8)],[(186,[vS kj])]⟩
abbrev Z1 (y:Int):V:=(vI y)
abbrev aS2:=fun p0 kj x8 r=>Lok Tryz.prog 112 0 (BQ Z1 (fun (y:Int)=>[(186,[vS kj])]) r) (cEo p0 kj x8)

def bMq (p0:bI) (x8:Int):St:=⟨[(1,.ptr 1 0),(6,aGt p0.cols),(7,vI (p0.cols.length:Int)),(8,vI x8)],[(1,aKp p0)]⟩
abbrev bA0:=fun p0 x8 r=>Lok Tryz.prog 59 0 (PQ (fun y=>(vB y)) r) (bMq p0 x8)

def cCz (p0:List dL) (kj:List UInt8) (x8:Int):St:=⟨[(0,aGt p0),(1,.fn 150 [.ptr 186 0]),(7,vI (p0.length:Int)),(8,vI x8)],[(186,[vS kj])]⟩
abbrev aSt:=fun p0 kj x8 r=>Lok Tryz.prog 149 0 (BQ Z1 (fun (y:Int)=>[(186,[vS kj])]) r) (cCz p0 kj x8)



def bRx (p0:aQ) (x3:List aA) (x12:Int):St:=⟨[(1,.ptr 1 0),(3,.osl 3 87 10 (x3.map aJ)),(10,.d (.sl 1 (p0.on_.map (cSl 10 aJ)))),(11,vI (p0.on_.length:Int)),(12,vI x12)],[(1,mK p0)]⟩
abbrev Z2 (y:List aA):V:=(.osl 188 87 10 (y.map aJ))
abbrev Z3 (y:List aA):List (Nat×List V):=[]
abbrev bB8:=fun p0 x3 x12 (r:List aA)=>Lok Tryz.prog 70 0 (BQ Z2 Z3 r) (bRx p0 x3 x12)
def cD1 (p0:aQ) (cK:List aA) (x27:Int):St:=⟨[(1,.ptr 1 0),(3,.osl 3 87 10 (cK.map aJ)),(25,aUa p0.order),(26,vI (p0.order.length:Int)),(27,vI x27)],[(1,mK p0)]⟩
abbrev bCj:=fun p0 cK x27 (r:List aA)=>Lok Tryz.prog 70 1 (BQ Z2 Z3 r) (cD1 p0 cK x27)
def bUi (p0:List aA) (x3:Int) (x8:Int):St:=⟨[(3,vI x3),(6,gY p0),(7,vI (p0.length:Int)),(8,vI x8)],[]⟩
abbrev aVd:=fun p0 x3 x8 r=>Lok Tryz.prog 69 0 (PQ (fun y=>(vI y)) r) (bUi p0 x3 x8)
def bO9 (p0:aA) (x3:Int) (x12:Int):St:=⟨[(3,vI x3),(10,aN6 p0.sub),(11,vI (p0.sub.length:Int)),(12,vI x12)],[]⟩
abbrev aYp:=fun p0 x3 x12 r=>Lok Tryz.prog 128 0 (PQ (fun y=>(vI y)) r) (bO9 p0 x3 x12)

def cCw (p1:List (List Int)) (y1:(List Int)×Bool) (p2:aQ) (p0:aP) (x41:Int):St:=⟨[(1,.d (.sl 1 (p1.map (cSl 1 cI)))),(3,.ptr 3 0),(5,.ptr 5 0),(8,.osl 8 3 1 (y1.1.map cI)),(39,.d (.sl 1 (p2.on_.map (cSl 10 aJ)))),(40,vI (p2.on_.length:Int)),(41,vI x41)],[(3,fK p0),(5,mK p2)]⟩
abbrev Za (y:(List Int)×Bool):V:=(.tup [.osl 188 3 1 (y.1.map cI),vB y.2])
abbrev Zc (y:(List Int)×Bool):List (Nat×List V):=[]
abbrev aZ3:=fun p1 y1 p2 p0 x41 (r:(List Int)×Bool)=>Lok Tryz.prog 44 0 (BQ Za Zc r) (cCw p1 y1 p2 p0 x41)
def bNe (y9:List (List Int)) (p2:aQ) (p0:aP) (x76:Int):St:=⟨[(3,.ptr 3 0),(5,.ptr 5 0),(14,.osl 14 27 1 (y9.map (cSl 1 cI))),(74,aUa p2.order),(75,vI (p2.order.length:Int)),(76,vI x76)],[(3,fK p0),(5,mK p2)]⟩
abbrev bBc:=fun y9 p2 p0 x76 (r:(List Int)×Bool)=>Lok Tryz.prog 44 1 (BQ Za Zc r) (bNe y9 p2 p0 x76)
def bUd (y9:List (List Int)) (p2:aQ) (p0:aP) (x19:List Int) (x95:Int):St:=⟨[(3,.ptr 3 0),(14,.osl 14 27 1 (y9.map (cSl 1 cI))),(19,.osl 19 3 1 (x19.map cI)),(93,gY p2.items),(94,vI (p2.items.length:Int)),(95,vI x95)],[(3,fK p0)]⟩
abbrev bBw:=fun y9 p2 p0 x19 x95 (r:(List Int)×Bool)=>Lok Tryz.prog 44 2 (BQ Za Zc r) (bUd y9 p2 p0 x19 x95)
def bWx (p1:List (List Int)) (p2:aA) (p0:aP) (x8:List Int) (x64:Int):St:=⟨[(1,.d (.sl 1 (p1.map (cSl 1 cI)))),(3,.ptr 3 0),(5,.ptr 5 0),(8,.osl 8 3 1 (x8.map cI)),(9,.osl 9 3 1 (([]:List Int).map cI)),(62,gY p2.kids),(63,vI (p2.kids.length:Int)),(64,vI x64)],[(3,fK p0),(5,wU p2)]⟩
abbrev aZv:=fun p1 p2 p0 x8 x64 (r:Int×Bool)=>Lok Tryz.prog 98 0 (PQ (fun y=>(.tup [vI y.1,vB y.2])) r) (bWx p1 p2 p0 x8 x64)
def cBf (p1:List (List Int)) (x8:List Int) (p2:aA) (p0:aP) (x9:List Int) (x85:Int):St:=⟨[(1,.d (.sl 1 (p1.map (cSl 1 cI)))),(3,.ptr 3 0),(5,.ptr 5 0),(8,.osl 8 3 1 (x8.map cI)),(9,.osl 9 3 1 (x9.map cI)),(83,aN6 p2.sub),(84,vI (p2.sub.length:Int)),(85,vI x85)],[(3,fK p0),(5,wU p2)]⟩
abbrev aS0:=fun p1 x8 p2 p0 x9 x85 (r:Int×Bool)=>Lok Tryz.prog 98 1 (PQ (fun y=>(.tup [vI y.1,vB y.2])) r) (cBf p1 x8 p2 p0 x9 x85)
def cDf (p1:List Int) (p2:List Int) (x40:Bool):St:=⟨[(1,jI p1),(2,jI p2),(40,vB x40)],[]⟩
abbrev bZ4:=fun p1 p2 x40 (r:Int×Bool)=>Jok Tryz.prog 124 9 (PQ (fun y=>(.tup [vI y.1,vB y.2])) r) (cDf p1 p2 x40)

def bY0 (x8:Int) (x9:Bool):St:=⟨[(8,vI x8),(9,vB x9)],[]⟩
abbrev bVp:=fun x8 x9 (r:Int×Bool)=>Jok Tryz.prog 160 2 (PQ (fun y=>(.tup [vI y.1,vB y.2])) r) (bY0 x8 x9)





def bRh (p0:List Int) (x4:Int) (x11:Int):St:=⟨[(4,vI x4),(9,jI p0),(10,vI (p0.length:Int)),(11,vI x11)],[]⟩
abbrev aYv:=fun p0 x4 x11 (r:Int×Bool)=>Lok Tryz.prog 161 0 (PQ (fun y=>(.tup [vI y.1,vB y.2])) r) (bRh p0 x4 x11)







def bP6 (p0:List aA) (c0:aP) (ka:List (List Int)) (x8:Int):St:=⟨[(0,gY p0),(1,.fn 139 [.ptr 186 0,.ptr 187 0]),(7,vI (p0.length:Int)),(8,vI x8)],[(186,fK c0),(187,[.d (.sl 1 (ka.map (cSl 1 cI)))])]⟩
abbrev bAe:=fun p0 c0 ka x8 r=>Lok Tryz.prog 173 0 (BQ Z1 (fun (y:Int)=>[(186,fK c0),(187,[.d (.sl 1 (ka.map (cSl 1 cI)))])]) r) (bP6 p0 c0 ka x8)



def bTf (p0:List (List aA)) (x8:Int):St:=⟨[(0,.d (.sl 1 (p0.map (cSl 10 aJ)))),(1,.fn 135 []),(7,vI (p0.length:Int)),(8,vI x8)],[]⟩
abbrev aXf:=fun p0 x8 r=>Lok Tryz.prog 171 0 (PQ (fun y=>(vI y)) r) (bTf p0 x8)


def bPi (p0:List (List UInt8)) (x8:Int):St:=⟨[(0,aAg p0),(1,.fn 137 []),(7,vI (p0.length:Int)),(8,vI x8)],[]⟩
abbrev bA2:=fun p0 x8 r=>Lok Tryz.prog 172 0 (PQ (fun y=>(vI y)) r) (bPi p0 x8)

def bS3 (p1:List Int) (p0:aP) (x6:List Int) (x12:Int):St:=⟨[(2,.ptr 2 0),(6,.osl 6 3 1 (x6.map cI)),(10,jI p1),(11,vI (p1.length:Int)),(12,vI x12)],[(2,fK p0)]⟩
abbrev aY1:=fun p1 p0 x6 x12 (r:(List Int)×Bool)=>Lok Tryz.prog 94 0 (BQ Za Zc r) (bS3 p1 p0 x6 x12)
def bWn (p0:bI) (x3:List Int) (x10:Int):St:=⟨[(3,.osl 3 3 1 (x3.map cI)),(8,aGt p0.cols),(9,vI (p0.cols.length:Int)),(10,vI x10)],[]⟩
abbrev Zd (y:List Int):V:=(.osl 188 3 1 (y.map cI))
abbrev Ze (y:List Int):List (Nat×List V):=[]
abbrev bCn:=fun p0 x3 x10 (r:List Int)=>Lok Tryz.prog 133 0 (BQ Zd Ze r) (bWn p0 x3 x10)

def bUn (p0:List aA) (x3:Int) (x8:Int):St:=⟨[(3,vI x3),(6,gY p0),(7,vI (p0.length:Int)),(8,vI x8)],[]⟩
abbrev bCg:=fun p0 x3 x8 r=>Lok Tryz.prog 71 0 (PQ (fun y=>(vI y)) r) (bUn p0 x3 x8)
def bOu (p0:aA) (x3:Int) (x13:Int):St:=⟨[(3,vI x3),(11,aN6 p0.sub),(12,vI (p0.sub.length:Int)),(13,vI x13)],[]⟩
abbrev aXk:=fun p0 x3 x13 r=>Lok Tryz.prog 129 0 (PQ (fun y=>(vI y)) r) (bOu p0 x3 x13)
def bU4 (p2:Int) (y3:List (List bJ)) (p3:aQ) (p0:kR) (y4:List aL) (x40:Int) (bR:List bZ):St:=⟨[(2,vI p2),(4,.ptr 4 0),(7,.ptr 7 0),(8,.ptr 8 0),(9,.osl 9 107 1 (y3.map (cSl 3 dZ))),(10,.ptr 10 0),(38,jI p3.tables),(39,vI (p3.tables.length:Int)),(40,vI x40)],[(4,aDf p0),(7,mK p3),(8,[vB false,.nil 13,.nil 3,.nil 10,.nil 11,vI 0]),(10,[vB p3.distinct,.nil 13,.tre 426,.tre 427,.nil 11,vI p3.limit]),(426,[.trc 3 (bR.map jG)]),(427,[.trc 10 (y4.map bP)])]⟩
abbrev Zg (y:aV):List (Nat×List V):=[(211,[.trc 13 (y.items.map kY)]),(212,[.trc 3 (y.from_.map jG)]),(213,[.trc 10 (y.where_.map bP)]),(214,[.trc 11 (y.order.map jX)])]
abbrev Zf (y:aV):V:=(.agv [vB y.distinct,.tre 211,.tre 212,.tre 213,.tre 214,vI y.limit])
abbrev aT2:=fun p2 y3 p3 p0 y4 x40 bR (r:aV)=>Lok Tryz.prog 14 0 (BQ Zf Zg r) (bU4 p2 y3 p3 p0 y4 x40 bR)
def bW7 (p2:Int) (y3:List (List bJ)) (p3:aQ) (p0:kR) (bR:List bZ) (y4:List aL) (kx74:Int×(List eH)):St:=⟨[(2,vI p2),(4,.ptr 4 0),(7,.ptr 7 0),(8,.ptr 8 0),(9,.osl 9 107 1 (y3.map (cSl 3 dZ))),(10,.ptr 10 0),(72,aUa p3.order),(73,vI (p3.order.length:Int)),(74,vI kx74.1)],[(4,aDf p0),(7,mK p3),(8,[vB false,.nil 13,.nil 3,.nil 10,.nil 11,vI 0]),(10,[vB p3.distinct,.nil 13,.tre 469,.tre 470,.tre 471,vI p3.limit]),(471,[.trc 11 (kx74.2.map jX)]),(469,[.trc 3 (bR.map jG)]),(470,[.trc 10 (y4.map bP)])]⟩
abbrev aXw:=fun p2 y3 p3 p0 bR y4 kx74 (r:aV)=>Lok Tryz.prog 14 1 (BQ Zf Zg r) (bW7 p2 y3 p3 p0 bR y4 kx74)
def bNh (p2:Int) (y3:List (List bJ)) (p3:aQ) (p0:kR) (qU:List eH) (bR:List bZ) (y4:List aL) (kx96:Int×(List dU)):St:=⟨[(2,vI p2),(4,.ptr 4 0),(7,.ptr 7 0),(8,.ptr 8 0),(9,.osl 9 107 1 (y3.map (cSl 3 dZ))),(10,.ptr 10 0),(94,gY p3.items),(95,vI (p3.items.length:Int)),(96,vI kx96.1)],[(4,aDf p0),(7,mK p3),(8,[vB false,.nil 13,.nil 3,.nil 10,.nil 11,vI 0]),(10,[vB p3.distinct,.tre 495,.tre 496,.tre 497,.tre 498,vI p3.limit]),(495,[.trc 13 (kx96.2.map kY)]),(498,[.trc 11 (qU.map jX)]),(496,[.trc 3 (bR.map jG)]),(497,[.trc 10 (y4.map bP)])]⟩
abbrev aT3:=fun p2 y3 p3 p0 qU bR y4 kx96 (r:aV)=>Lok Tryz.prog 14 2 (BQ Zf Zg r) (bNh p2 y3 p3 p0 qU bR y4 kx96)



def bOt (p1:Int) (p2:List Int) (p0:kR) (x7:List bJ) (x15:Int):St:=⟨[(1,vI p1),(3,.ptr 3 0),(7,.osl 7 160 3 (x7.map dZ)),(13,jI p2),(14,vI (p2.length:Int)),(15,vI x15)],[(3,aDf p0)]⟩
abbrev Zh (y:List bJ):V:=(.osl 188 160 3 (y.map dZ))
abbrev Zi (y:List bJ):List (Nat×List V):=[]
abbrev aYs:=fun p1 p2 p0 x7 x15 (r:List bJ)=>Lok Tryz.prog 46 0 (BQ Zh Zi r) (bOt p1 p2 p0 x7 x15)
def bRe (p1:Int) (x15:Int) (p2:List Int) (y2:bI) (p0:kR) (jW:List bJ) (x28:Int):St:=⟨[(1,vI p1),(3,.ptr 3 0),(7,.osl 7 160 3 (jW.map dZ)),(8,vI x15),(13,jI p2),(14,vI (p2.length:Int)),(15,vI x15),(26,aGt y2.cols),(27,vI (y2.cols.length:Int)),(28,vI x28)],[(3,aDf p0)]⟩
abbrev aY8:=fun p1 x15 p2 y2 p0 jW x28 (r:List bJ)=>Lok Tryz.prog 46 1 (BQ Zh Zi r) (bRe p1 x15 p2 y2 p0 jW x28)
def bN3 (p1:List (List bJ)) (p2:Int) (p3:List aA) (p0:kR) (x15:Int) (qB:List aL):St:=⟨[(1,.d (.sl 1 (p1.map (cSl 3 dZ)))),(2,vI p2),(4,.ptr 4 0),(9,.tre 415),(13,gY p3),(14,vI (p3.length:Int)),(15,vI x15)],[(4,aDf p0),(415,[.trc 10 (qB.map bP)])]⟩
abbrev Zk (y:List aL):List (Nat×List V):=[(210,[.trc 10 (y.map bP)])]
abbrev Zj (y:List aL):V:=(.tre 210)
abbrev aZy:=fun p1 p2 p3 p0 x15 qB (r:List aL)=>Lok Tryz.prog 47 0 (BQ Zj Zk r) (bN3 p1 p2 p3 p0 x15 qB)
def bV7 (p1:List (List bJ)) (p2:Int) (p3:aA) (p0:kR) (y3:List aL) (x55:Int) (pG:List aV):St:=⟨[(1,.d (.sl 1 (p1.map (cSl 3 dZ)))),(2,vI p2),(4,.ptr 4 0),(8,.ptr 8 0),(9,.ptr 9 0),(53,aN6 p3.sub),(54,vI (p3.sub.length:Int)),(55,vI x55)],[(4,aDf p0),(8,[vI 0,vI 0,vB false,vI 0,vI 0,vS [],vS [],vS [],.nil 10,.nil 6]),(9,[vI p3.kind,vI p3.op,vB p3.not_,vI p3.value.kind,vI p3.value.num,vS p3.value.text,vS [],vS [],.tre 448,.tre 449]),(449,[.trc 6 (pG.map kT)]),(448,[.trc 10 (y3.map bP)])]⟩
abbrev Zl (y:aL):V:=(.agv [vI y.kind,vI y.op,vB y.not_,vI y.value.kind,vI y.value.num,vS y.value.text,vS y.qual,vS y.name,.tre 216,.tre 217])
abbrev Zm (y:aL):List (Nat×List V):=[(216,[.trc 10 (y.kids.map bP)]),(217,[.trc 6 (y.sub.map kT)])]
abbrev aX7:=fun p1 p2 p3 p0 y3 x55 pG (r:aL)=>Lok Tryz.prog 49 0 (BQ Zl Zm r) (bV7 p1 p2 p3 p0 y3 x55 pG)

def bSu (p0:List Int) (x3:Int) (x4:Int):St:=⟨[(0,Z0 p0),(3,vI x3),(4,vI x4)],[]⟩
abbrev aS4:=fun p0 x3 x4 r=>Lok Tryz.prog 34 0 (BQ (fun (y:aB)=>(.ptr 31 0)) (fun (y:aB)=>[(31,aX y)]) r) (bSu p0 x3 x4)
def bX0 (p0:aQ) (p1:aQ) (x5:Int):St:=⟨[(2,.ptr 2 0),(3,.ptr 3 0),(5,vI x5)],[(2,mK p0),(3,mK p1)]⟩
abbrev aT5:=fun p0 p1 x5 r=>Lok Tryz.prog 10 0 (PQ (fun y=>(vB y)) r) (bX0 p0 p1 x5)
def cEj (p0:aQ) (p1:aQ) (x6:Int):St:=⟨[(2,.ptr 2 0),(3,.ptr 3 0),(6,vI x6)],[(2,mK p0),(3,mK p1)]⟩
abbrev aXp:=fun p0 p1 x6 r=>Lok Tryz.prog 10 1 (PQ (fun y=>(vB y)) r) (cEj p0 p1 x6)
def cAa (p0:aA) (p1:aA) (x5:Int):St:=⟨[(2,.ptr 2 0),(3,.ptr 3 0),(5,vI x5)],[(2,wU p0),(3,wU p1)]⟩
abbrev aSm:=fun p0 p1 x5 r=>Lok Tryz.prog 30 0 (PQ (fun y=>(vB y)) r) (cAa p0 p1 x5)
def bOi (p0:List aA) (p1:List aA) (x5:Int):St:=⟨[(0,gY p0),(1,gY p1),(5,vI x5)],[]⟩
abbrev aXq:=fun p0 p1 x5 r=>Lok Tryz.prog 28 0 (PQ (fun y=>(vB y)) r) (bOi p0 p1 x5)
def cBu (p0:List Int) (p1:List Int) (x5:Int):St:=⟨[(0,jI p0),(1,jI p1),(5,vI x5)],[]⟩
abbrev bD0:=fun p0 p1 x5 r=>Lok Tryz.prog 27 0 (PQ (fun y=>(vB y)) r) (cBu p0 p1 x5)
def cEl (p0:List (List UInt8)) (p1:List (List UInt8)) (x5:Int):St:=⟨[(0,aAg p0),(1,aAg p1),(5,vI x5)],[]⟩
abbrev aXc:=fun p0 p1 x5 r=>Lok Tryz.prog 29 0 (PQ (fun y=>(vB y)) r) (cEl p0 p1 x5)
def bO8 (p0:aV) (p1:aV) (x5:Int):St:=⟨[(2,.ptr 2 0),(3,.ptr 3 0),(5,vI x5)],[(2,nC p0),(3,nC p1)]⟩
abbrev bAa:=fun p0 p1 x5 r=>Lok Tryz.prog 8 0 (PQ (fun y=>(vB y)) r) (bO8 p0 p1 x5)
def cA2 (p0:aV) (p1:aV) (x8:Int):St:=⟨[(2,.ptr 2 0),(3,.ptr 3 0),(8,vI x8)],[(2,nC p0),(3,nC p1)]⟩
abbrev bAt:=fun p0 p1 x8 r=>Lok Tryz.prog 8 1 (PQ (fun y=>(vB y)) r) (cA2 p0 p1 x8)
def cFe (p0:aV) (p1:aV) (x11:Int):St:=⟨[(2,.ptr 2 0),(3,.ptr 3 0),(11,vI x11)],[(2,nC p0),(3,nC p1)]⟩
abbrev aYn:=fun p0 p1 x11 r=>Lok Tryz.prog 8 2 (PQ (fun y=>(vB y)) r) (cFe p0 p1 x11)
def cDt (p0:aL) (p1:aL) (x5:Int):St:=⟨[(2,.ptr 2 0),(3,.ptr 3 0),(5,vI x5)],[(2,wH p0),(3,wH p1)]⟩
abbrev bCp:=fun p0 p1 x5 r=>Lok Tryz.prog 18 0 (PQ (fun y=>(vB y)) r) (cDt p0 p1 x5)
def cBz (p0:List aL) (p1:List aL) (x5:Int):St:=⟨[(0,gI p0),(1,gI p1),(5,vI x5)],[]⟩
abbrev bC5:=fun p0 p1 x5 r=>Lok Tryz.prog 17 0 (PQ (fun y=>(vB y)) r) (cBz p0 p1 x5)

def cE7 (p1:List bF) (y2:List bF) (p0:aP) (p2:aQ) (y3:List aL) (x10:Int) (bR:List bZ):St:=⟨[(3,.ptr 3 0),(5,.ptr 5 0),(6,.ptr 6 0),(7,vI (p1.length:Int)),(8,.osl 8 119 1 (y2.map nT)),(9,.ptr 9 0),(10,vI x10)],[(3,fK p0),(5,mK p2),(6,[vB false,.nil 13,.nil 3,.nil 10,.nil 11,vI 0]),(9,[vB p2.distinct,.nil 13,.tre 426,.tre 427,.nil 11,vI p2.limit]),(426,[.trc 3 (bR.map jG)]),(427,[.trc 10 (y3.map bP)])]⟩
abbrev bBf:=fun p1 y2 p0 p2 y3 x10 bR (r:aV)=>Lok Tryz.prog 16 0 (BQ Zf Zg r) (cE7 p1 y2 p0 p2 y3 x10 bR)
def bXh (y2:List bF) (p0:aP) (p2:aQ) (bR:List bZ) (y3:List aL) (x11:Int) (jM:List eH):St:=⟨[(3,.ptr 3 0),(5,.ptr 5 0),(6,.ptr 6 0),(8,.osl 8 119 1 (y2.map nT)),(9,.ptr 9 0),(11,vI x11)],[(3,fK p0),(5,mK p2),(6,[vB false,.nil 13,.nil 3,.nil 10,.nil 11,vI 0]),(9,[vB p2.distinct,.nil 13,.tre 460,.tre 461,.tre 462,vI p2.limit]),(462,[.trc 11 (jM.map jX)]),(460,[.trc 3 (bR.map jG)]),(461,[.trc 10 (y3.map bP)])]⟩
abbrev aUf:=fun y2 p0 p2 bR y3 x11 jM (r:aV)=>Lok Tryz.prog 16 1 (BQ Zf Zg r) (bXh y2 p0 p2 bR y3 x11 jM)
def cEn (y2:List bF) (p0:aP) (p2:aQ) (jM:List eH) (bR:List bZ) (y3:List aL) (x12:Int) (pW:List dU):St:=⟨[(3,.ptr 3 0),(5,.ptr 5 0),(6,.ptr 6 0),(8,.osl 8 119 1 (y2.map nT)),(9,.ptr 9 0),(12,vI x12)],[(3,fK p0),(5,mK p2),(6,[vB false,.nil 13,.nil 3,.nil 10,.nil 11,vI 0]),(9,[vB p2.distinct,.tre 495,.tre 496,.tre 497,.tre 498,vI p2.limit]),(495,[.trc 13 (pW.map kY)]),(498,[.trc 11 (jM.map jX)]),(496,[.trc 3 (bR.map jG)]),(497,[.trc 10 (y3.map bP)])]⟩
abbrev aXn:=fun y2 p0 p2 jM bR y3 x12 pW (r:aV)=>Lok Tryz.prog 16 2 (BQ Zf Zg r) (cEn y2 p0 p2 jM bR y3 x12 pW)
def bOw (p1:List bF) (p2:List aA) (p0:aP) (x8:Int) (pX:List aL):St:=⟨[(1,gZ p1),(2,gY p2),(3,.ptr 3 0),(7,.tre 411),(8,vI x8)],[(3,fK p0),(411,[.trc 10 (pX.map bP)])]⟩
abbrev bCc:=fun p1 p2 p0 x8 pX (r:List aL)=>Lok Tryz.prog 56 0 (BQ Zj Zk r) (bOw p1 p2 p0 x8 pX)
def bXg (p1:List bF) (p0:aP) (p2:aA) (y1:List aL) (iA:List UInt8) (gX:List UInt8):St:=⟨[(1,gZ p1),(3,.ptr 3 0),(5,.ptr 5 0),(6,.ptr 6 0),(7,.ptr 7 0)],[(3,fK p0),(5,wU p2),(6,[vI 0,vI 0,vB false,vI 0,vI 0,vS [],vS [],vS [],.nil 10,.nil 6]),(7,[vI p2.kind,vI p2.op,vB p2.not_,vI p2.value.kind,vI p2.value.num,vS p2.value.text,vS iA,vS gX,.tre 437,.nil 6]),(437,[.trc 10 (y1.map bP)])]⟩
abbrev bAf:=fun p1 p0 p2 y1 iA gX (r:aL)=>Jok Tryz.prog 58 2 (BQ Zl Zm r) (bXg p1 p0 p2 y1 iA gX)
def bT3 (p1:List bF) (p0:aP) (p2:aA) (iA:List UInt8) (gX:List UInt8) (y1:List aL) (x9:Int) (pY:List aV):St:=⟨[(1,gZ p1),(3,.ptr 3 0),(5,.ptr 5 0),(6,.ptr 6 0),(7,.ptr 7 0),(9,vI x9)],[(3,fK p0),(5,wU p2),(6,[vI 0,vI 0,vB false,vI 0,vI 0,vS [],vS [],vS [],.nil 10,.nil 6]),(7,[vI p2.kind,vI p2.op,vB p2.not_,vI p2.value.kind,vI p2.value.num,vS p2.value.text,vS iA,vS gX,.tre 441,.tre 442]),(442,[.trc 6 (pY.map kT)]),(441,[.trc 10 (y1.map bP)])]⟩
abbrev aZk:=fun p1 p0 p2 iA gX y1 x9 pY (r:aL)=>Lok Tryz.prog 58 0 (BQ Zl Zm r) (bT3 p1 p0 p2 iA gX y1 x9 pY)
def bQf (p1:List Int) (p2:Int) (p0:aP) (x7:List bJ) (x8:Int):St:=⟨[(1,jI p1),(2,vI p2),(3,.ptr 3 0),(7,.osl 7 160 3 (x7.map dZ)),(8,vI x8)],[(3,fK p0)]⟩
abbrev aSy:=fun p1 p2 p0 x7 x8 (r:List bJ)=>Lok Tryz.prog 55 0 (BQ Zh Zi r) (bQf p1 p2 p0 x7 x8)
def bQl (p1:List Int) (p2:Int) (x8:Int) (p0:aP) (y2:bI) (jW:List bJ) (x10:Int):St:=⟨[(1,jI p1),(2,vI p2),(3,.ptr 3 0),(7,.osl 7 160 3 (jW.map dZ)),(8,vI x8),(9,.ptr 9 0),(10,vI x10)],[(3,fK p0),(9,aKp y2)]⟩
abbrev aYh:=fun p1 p2 x8 p0 y2 jW x10 (r:List bJ)=>Lok Tryz.prog 55 1 (BQ Zh Zi r) (bQl p1 p2 x8 p0 y2 jW x10)

def bZk (p0:Int) (x0:Int) (x4:List UInt8):St:=⟨[(0,vI x0),(3,vB (decide (p0<0))),(4,vS x4)],[]⟩
abbrev aVj:=fun p0 x0 x4 r=>Lok Tryz.prog 84 0 (PQ (fun y=>(vS y)) r) (bZk p0 x0 x4)
def cAq (x0:Int) (p0:Int) (x4:List UInt8) (x5:Int):St:=⟨[(0,vI x0),(3,vB (decide (p0<0))),(4,vS x4),(5,vI x5)],[]⟩
abbrev aTf:=fun x0 p0 x4 x5 r=>Jok Tryz.prog 84 10 (PQ (fun y=>(vS y)) r) (cAq x0 p0 x4 x5)


def bX8 (y1:List aA) (x3:Int) (x5:Int):St:=⟨[(3,vI x3),(4,.osl 4 87 10 (y1.map aJ)),(5,vI x5)],[]⟩
abbrev aV4:=fun y1 x3 x5 r=>Lok Tryz.prog 52 0 (PQ (fun y=>(vI y)) r) (bX8 y1 x3 x5)
def bZ1 (p0:aQ) (x3:List aA) (x4:Int):St:=⟨[(1,.ptr 1 0),(3,.osl 3 87 10 (x3.map aJ)),(4,vI x4)],[(1,mK p0)]⟩
abbrev aU2:=fun p0 x3 x4 (r:List aA)=>Lok Tryz.prog 102 0 (BQ Z2 Z3 r) (bZ1 p0 x3 x4)
def bNu (p0:aQ) (cK:List aA) (x5:Int):St:=⟨[(1,.ptr 1 0),(3,.osl 3 87 10 (cK.map aJ)),(5,vI x5)],[(1,mK p0)]⟩
abbrev aU8:=fun p0 cK x5 (r:List aA)=>Lok Tryz.prog 102 1 (BQ Z2 Z3 r) (bNu p0 cK x5)
def bRl (p0:aA) (x3:Int) (x4:Int):St:=⟨[(1,.ptr 1 0),(3,vI x3),(4,vI x4)],[(1,wU p0)]⟩
abbrev aYb:=fun p0 x3 x4 r=>Lok Tryz.prog 104 0 (PQ (fun y=>(vI y)) r) (bRl p0 x3 x4)
def cEc (p0:aA) (fH:Int) (x5:Int):St:=⟨[(1,.ptr 1 0),(3,vI fH),(5,vI x5)],[(1,wU p0)]⟩
abbrev aSc:=fun p0 fH x5 r=>Lok Tryz.prog 104 1 (PQ (fun y=>(vI y)) r) (cEc p0 fH x5)
def cBc (p1:List (List Int)) (p0:aP) (p2:aQ) (x8:Int):St:=⟨[(1,.d (.sl 1 (p1.map (cSl 1 cI)))),(3,.ptr 3 0),(5,.ptr 5 0),(8,vI x8)],[(3,fK p0),(5,mK p2)]⟩
abbrev aVg:=fun p1 p0 p2 x8 (r:(List Int)×Bool)=>Lok Tryz.prog 53 0 (BQ Za Zc r) (cBc p1 p0 p2 x8)
def cF2 (y8:List (List Int)) (p0:aP) (p2:aQ) (x14:Int):St:=⟨[(3,.ptr 3 0),(5,.ptr 5 0),(13,.osl 13 27 1 (y8.map (cSl 1 cI))),(14,vI x14)],[(3,fK p0),(5,mK p2)]⟩
abbrev aUp:=fun y8 p0 p2 x14 (r:(List Int)×Bool)=>Lok Tryz.prog 53 1 (BQ Za Zc r) (cF2 y8 p0 p2 x14)
def bZj (y8:List (List Int)) (p0:aP) (p2:aQ) (x17:List Int) (x18:Int):St:=⟨[(3,.ptr 3 0),(5,.ptr 5 0),(13,.osl 13 27 1 (y8.map (cSl 1 cI))),(17,.osl 17 3 1 (x17.map cI)),(18,vI x18)],[(3,fK p0),(5,mK p2)]⟩
abbrev aWh:=fun y8 p0 p2 x17 x18 (r:(List Int)×Bool)=>Lok Tryz.prog 53 2 (BQ Za Zc r) (bZj y8 p0 p2 x17 x18)
def bOh (p1:List (List Int)) (p2:List aA) (p0:aP) (x7:Int):St:=⟨[(1,.d (.sl 1 (p1.map (cSl 1 cI)))),(2,gY p2),(3,.ptr 3 0),(7,vI x7)],[(3,fK p0)]⟩
abbrev aYk:=fun p1 p2 p0 x7 r=>Lok Tryz.prog 107 0 (PQ (fun y=>(vB y)) r) (bOh p1 p2 p0 x7)

def bSb (p1:List (List Int)) (p0:aP) (p2:aA) (x8:List Int) (x9:Int):St:=⟨[(1,.d (.sl 1 (p1.map (cSl 1 cI)))),(3,.ptr 3 0),(5,.ptr 5 0),(8,.osl 8 3 1 (x8.map cI)),(9,vI x9)],[(3,fK p0),(5,wU p2)]⟩
abbrev bB4:=fun p1 p0 p2 x8 x9 (r:Int×Bool)=>Lok Tryz.prog 109 0 (PQ (fun y=>(.tup [vI y.1,vB y.2])) r) (bSb p1 p0 p2 x8 x9)
def bZe (p2:aA) (aBm:List Int):St:=⟨[(5,.ptr 5 0),(8,.osl 8 3 1 (aBm.map cI))],[(5,wU p2)]⟩
abbrev bZu:=fun p2 aBm (r:Int×Bool)=>Jok Tryz.prog 109 27 (PQ (fun y=>(.tup [vI y.1,vB y.2])) r) (bZe p2 aBm)
def cC4 (p0:List Int) (x3:Int) (x4:Int):St:=⟨[(0,jI p0),(3,vI x3),(4,vI x4)],[]⟩
abbrev aTt:=fun p0 x3 x4 r=>Lok Tryz.prog 148 0 (PQ (fun y=>(vB y)) r) (cC4 p0 x3 x4)






def cBn (p0:aA) (y3:List aL) (y4:List aV) (pE:List UInt8):St:=⟨[(3,.ptr 3 0)],[(3,wH (aL.mk p0.kind p0.op p0.not_ p0.value [] pE y3 y4))]⟩
abbrev cFt:=fun p0 y3 y4 pE r=>Jok Tryz.prog 144 5 (PQ (fun y=>(vB y)) r) (cBn p0 y3 y4 pE)





def bSy (p1:Int) (p2:Int) (x10:Int):St:=⟨[(1,vI p1),(2,vI p2),(10,vI x10)],[]⟩
abbrev bVc:=fun p1 p2 x10 (r:Int×Bool)=>Jok Tryz.prog 146 12 (PQ (fun y=>(.tup [vI y.1,vB y.2])) r) (bSy p1 p2 x10)
def cCb (p1:List Int) (p0:aP) (x6:List Int) (x7:Int):St:=⟨[(1,jI p1),(2,.ptr 2 0),(6,.osl 6 3 1 (x6.map cI)),(7,vI x7)],[(2,fK p0)]⟩
abbrev aSk:=fun p1 p0 x6 x7 (r:(List Int)×Bool)=>Lok Tryz.prog 106 0 (BQ Za Zc r) (cCb p1 p0 x6 x7)
def bZt (p0:bI) (x3:List Int) (x4:Int):St:=⟨[(1,.ptr 1 0),(3,.osl 3 3 1 (x3.map cI)),(4,vI x4)],[(1,aKp p0)]⟩
abbrev aW4:=fun p0 x3 x4 (r:List Int)=>Lok Tryz.prog 142 0 (BQ Zd Ze r) (bZt p0 x3 x4)
def bZv (p0:aP) (p1:aQ) (x5:Int):St:=⟨[(2,.ptr 2 0),(3,.ptr 3 0),(5,vI x5)],[(2,fK p0),(3,mK p1)]⟩
abbrev bBb:=fun p0 p1 x5 r=>Lok Tryz.prog 105 0 (PQ (fun y=>(vB y)) r) (bZv p0 p1 x5)
def bV6 (p0:aP) (p1:aQ) (x6:Int):St:=⟨[(2,.ptr 2 0),(3,.ptr 3 0),(6,vI x6)],[(2,fK p0),(3,mK p1)]⟩
abbrev aZ4:=fun p0 p1 x6 r=>Lok Tryz.prog 105 1 (PQ (fun y=>(vB y)) r) (bV6 p0 p1 x6)

def bNg (y1:List aA) (x3:Int) (x5:Int):St:=⟨[(3,vI x3),(4,.osl 4 87 10 (y1.map aJ)),(5,vI x5)],[]⟩
abbrev aZf:=fun y1 x3 x5 r=>Lok Tryz.prog 51 0 (PQ (fun y=>(vI y)) r) (bNg y1 x3 x5)
def bNt (p0:aA) (x3:Int) (x4:Int):St:=⟨[(1,.ptr 1 0),(3,vI x3),(4,vI x4)],[(1,wU p0)]⟩
abbrev aYz:=fun p0 x3 x4 r=>Lok Tryz.prog 103 0 (PQ (fun y=>(vI y)) r) (bNt p0 x3 x4)
def bOj (p0:aA) (cK:Int) (x5:Int):St:=⟨[(1,.ptr 1 0),(3,vI cK),(5,vI x5)],[(1,wU p0)]⟩
abbrev aYg:=fun p0 cK x5 r=>Lok Tryz.prog 103 1 (PQ (fun y=>(vI y)) r) (bOj p0 cK x5)

def bQr (p0:aP) (x3:Int):St:=⟨[(1,.ptr 1 0),(3,vI x3)],[(1,fK p0)]⟩
abbrev aRy:=fun p0 x3 r=>Lok Tryz.prog 50 0 (PQ (fun y=>(vB y)) r) (bQr p0 x3)
def cDo (x3:Int) (p0:aP) (y1:bI) (x5:Int):St:=⟨[(1,.ptr 1 0),(3,vI x3),(4,.ptr 4 0),(5,vI x5)],[(1,fK p0),(4,aKp y1)]⟩
abbrev bCl:=fun x3 p0 y1 x5 r=>Lok Tryz.prog 50 1 (PQ (fun y=>(vB y)) r) (cDo x3 p0 y1 x5)
def bMf (p1:List UInt8) (p0:bI) (x5:Int):St:=⟨[(1,vS p1),(2,.ptr 2 0),(5,vI x5)],[(2,aKp p0)]⟩
abbrev aV7:=fun p1 p0 x5 r=>Lok Tryz.prog 101 0 (PQ (fun y=>(vI y)) r) (bMf p1 p0 x5)
def bT4 (p1:List UInt8) (p0:aP) (x5:Int):St:=⟨[(1,vS p1),(2,.ptr 2 0),(5,vI x5)],[(2,fK p0)]⟩
abbrev bC9:=fun p1 p0 x5 r=>Lok Tryz.prog 100 0 (PQ (fun y=>(vI y)) r) (bT4 p1 p0 x5)

def bSn (y1:List aL) (x3:Int) (x5:Int):St:=⟨[(3,vI x3),(4,.osl 4 64 10 (y1.map bP)),(5,vI x5)],[]⟩
abbrev aWp:=fun y1 x3 x5 r=>Lok Tryz.prog 32 0 (PQ (fun y=>(vI y)) r) (bSn y1 x3 x5)
def bMr (p0:aV) (x3:List aL) (x4:Int):St:=⟨[(1,.ptr 1 0),(3,.osl 3 64 10 (x3.map bP)),(4,vI x4)],[(1,nC p0)]⟩
abbrev Zp (y:List aL):V:=(.osl 188 64 10 (y.map bP))
abbrev Zq (y:List aL):List (Nat×List V):=[]
abbrev aWm:=fun p0 x3 x4 (r:List aL)=>Lok Tryz.prog 75 0 (BQ Zp Zq r) (bMr p0 x3 x4)
def cDd (x4:Int) (p0:aV) (cK:List aL):St:=⟨[(1,.ptr 1 0),(3,.osl 3 64 10 (cK.map bP)),(4,vI x4)],[(1,nC p0)]⟩
abbrev aSi:=fun x4 p0 cK (r:List aL)=>Jok Tryz.prog 75 6 (BQ Zp Zq r) (cDd x4 p0 cK)
def bSr (p0:aV) (uH:List aL) (x5:Int):St:=⟨[(1,.ptr 1 0),(3,.osl 3 64 10 (uH.map bP)),(5,vI x5)],[(1,nC p0)]⟩
abbrev bA3:=fun p0 uH x5 (r:List aL)=>Lok Tryz.prog 75 1 (BQ Zp Zq r) (bSr p0 uH x5)
def bQ0 (p0:aV) (uA:List aL) (x6:Int):St:=⟨[(1,.ptr 1 0),(3,.osl 3 64 10 (uA.map bP)),(6,vI x6)],[(1,nC p0)]⟩
abbrev aXt:=fun p0 uA x6 (r:List aL)=>Lok Tryz.prog 75 2 (BQ Zp Zq r) (bQ0 p0 uA x6)
def bRs (p0:aL) (x3:Int) (x4:Int):St:=⟨[(1,.ptr 1 0),(3,vI x3),(4,vI x4)],[(1,wH p0)]⟩
abbrev aUc:=fun p0 x3 x4 r=>Lok Tryz.prog 78 0 (PQ (fun y=>(vI y)) r) (bRs p0 x3 x4)
def cDh (p0:aL) (cK:Int) (x5:Int):St:=⟨[(1,.ptr 1 0),(3,vI cK),(5,vI x5)],[(1,wH p0)]⟩
abbrev bAn:=fun p0 cK x5 r=>Lok Tryz.prog 78 1 (PQ (fun y=>(vI y)) r) (cDh p0 cK x5)
def bR5 (p0:aV) (x3:Int):St:=⟨[(1,.ptr 1 0),(3,vI x3)],[(1,nC p0)]⟩
abbrev aT1:=fun p0 x3 r=>Lok Tryz.prog 31 0 (PQ (fun y=>(vB y)) r) (bR5 p0 x3)
def cDp (p0:aV) (x5:Int):St:=⟨[(1,.ptr 1 0),(5,vI x5)],[(1,nC p0)]⟩
abbrev aYx:=fun p0 x5 r=>Lok Tryz.prog 31 1 (PQ (fun y=>(vB y)) r) (cDp p0 x5)
def bWc (y24:List aL) (x8:Int):St:=⟨[(7,.osl 7 64 10 (y24.map bP)),(8,vI x8)],[]⟩
abbrev aTw:=fun y24 x8 r=>Lok Tryz.prog 31 2 (PQ (fun y=>(vB y)) r) (bWc y24 x8)
def cEv (p0:aL) (x3:Int):St:=⟨[(1,.ptr 1 0),(3,vI x3)],[(1,wH p0)]⟩
abbrev bBj:=fun p0 x3 r=>Lok Tryz.prog 76 0 (PQ (fun y=>(vB y)) r) (cEv p0 x3)
def bYa (y1:List aL) (x3:Int) (x5:Int):St:=⟨[(3,vI x3),(4,.osl 4 64 10 (y1.map bP)),(5,vI x5)],[]⟩
abbrev aXg:=fun y1 x3 x5 r=>Lok Tryz.prog 33 0 (PQ (fun y=>(vI y)) r) (bYa y1 x3 x5)
def bVa (p0:aL) (x3:Int) (x4:Int):St:=⟨[(1,.ptr 1 0),(3,vI x3),(4,vI x4)],[(1,wH p0)]⟩
abbrev aX1:=fun p0 x3 x4 r=>Lok Tryz.prog 79 0 (PQ (fun y=>(vI y)) r) (bVa p0 x3 x4)
def bP7 (p0:aL) (fH:Int) (x5:Int):St:=⟨[(1,.ptr 1 0),(3,vI fH),(5,vI x5)],[(1,wH p0)]⟩
abbrev aUm:=fun p0 fH x5 r=>Lok Tryz.prog 79 1 (PQ (fun y=>(vI y)) r) (bP7 p0 fH x5)

def bTp (y4:aQ×(List Int)×bA) (X0:List bI) (yX:Int) (F5:List UInt8):St:=⟨[(4,.ptr 4 0),(5,.ptr 5 0),(6,.ptr 21 0),(7,.ptr 7 0)],[(4,[.nil 1,.nil 1,.nil 10,.nil 11,.nil 10,.nil 1,vB false,vI 0]),(5,[vI 0,vS []]),(7,[.osl 286 1000000000 1 (y4.1.tables.map cI),.osl 287 1000000000 1 (y4.1.on_.map (cSl 10 aJ)),.osl 288 1000000000 10 (y4.1.where_.map aJ),.osl 289 1000000000 11 (y4.1.order.map bV),.osl 290 1000000000 10 (y4.1.items.map aJ),.osl 291 1000000000 1 (y4.1.names.map cStr),vB y4.1.distinct,vI y4.1.limit]),(21,dI (bA.mk (aP.mk X0) (eG.mk yX F5)))]⟩
abbrev bUl:=fun y4 X0 yX F5 (r:aQ×eG)=>Jok Tryz.prog 9 6 (PQ (fun y=>(.tup [iC y.1,bGt y.2])) r) (bTp y4 X0 yX F5)




def cEd (p0:List aL) (x3:Int) (x8:Int):St:=⟨[(3,vI x3),(6,gI p0),(7,vI (p0.length:Int)),(8,vI x8)],[]⟩
abbrev aZp:=fun p0 x3 x8 r=>Lok Tryz.prog 116 0 (PQ (fun y=>(vI y)) r) (cEd p0 x3 x8)
def bXl (p0:aL) (x3:Int) (x13:Int):St:=⟨[(3,vI x3),(11,oI p0.sub),(12,vI (p0.sub.length:Int)),(13,vI x13)],[]⟩
abbrev aVl:=fun p0 x3 x13 r=>Lok Tryz.prog 152 0 (PQ (fun y=>(vI y)) r) (bXl p0 x3 x13)
def cD7 (p0:aV) (x3:List aL) (x14:Int):St:=⟨[(1,.ptr 1 0),(3,.osl 3 64 10 (x3.map bP)),(12,oO p0.items),(13,vI (p0.items.length:Int)),(14,vI x14)],[(1,nC p0)]⟩
abbrev bBp:=fun p0 x3 x14 (r:List aL)=>Lok Tryz.prog 115 0 (BQ Zp Zq r) (cD7 p0 x3 x14)
def bO6 (p0:aV) (x14:Int) (fH:List aL):St:=⟨[(1,.ptr 1 0),(3,.osl 3 64 10 (fH.map bP)),(12,oO p0.items),(13,vI (p0.items.length:Int)),(14,vI x14)],[(1,nC p0)]⟩
abbrev aWu:=fun p0 x14 fH (r:List aL)=>Jok Tryz.prog 115 6 (BQ Zp Zq r) (bO6 p0 x14 fH)
def bOl (p0:aV) (cK:List aL) (x30:Int):St:=⟨[(1,.ptr 1 0),(3,.osl 3 64 10 (cK.map bP)),(28,lK p0.from_),(29,vI (p0.from_.length:Int)),(30,vI x30)],[(1,nC p0)]⟩
abbrev aYc:=fun p0 cK x30 (r:List aL)=>Lok Tryz.prog 115 1 (BQ Zp Zq r) (bOl p0 cK x30)
def bQi (p0:aV) (qZ:List aL) (x46:Int):St:=⟨[(3,.osl 3 64 10 (qZ.map bP)),(44,yS p0.order),(45,vI (p0.order.length:Int)),(46,vI x46)],[]⟩
abbrev bC2:=fun p0 qZ x46 (r:List aL)=>Lok Tryz.prog 115 2 (BQ Zp Zq r) (bQi p0 qZ x46)

def bXn (p0:List aL) (x3:Int) (x8:Int):St:=⟨[(3,vI x3),(6,gI p0),(7,vI (p0.length:Int)),(8,vI x8)],[]⟩
abbrev bCf:=fun p0 x3 x8 r=>Lok Tryz.prog 114 0 (PQ (fun y=>(vI y)) r) (bXn p0 x3 x8)
def bRg (p0:aL) (x3:Int) (x11:Int):St:=⟨[(1,.ptr 1 0),(3,vI x3),(9,gI p0.kids),(10,vI (p0.kids.length:Int)),(11,vI x11)],[(1,wH p0)]⟩
abbrev aWg:=fun p0 x3 x11 r=>Lok Tryz.prog 151 0 (PQ (fun y=>(vI y)) r) (bRg p0 x3 x11)
def cC9 (p0:aL) (fH:Int) (x23:Int):St:=⟨[(3,vI fH),(21,oI p0.sub),(22,vI (p0.sub.length:Int)),(23,vI x23)],[]⟩
abbrev aTd:=fun p0 fH x23 r=>Lok Tryz.prog 151 1 (PQ (fun y=>(vI y)) r) (cC9 p0 fH x23)
def cAg (p0:aV) (x49:Int):St:=⟨[(1,.ptr 1 0),(47,oO p0.items),(48,vI (p0.items.length:Int)),(49,vI x49)],[(1,nC p0)]⟩
abbrev aUl:=fun p0 x49 r=>Lok Tryz.prog 63 0 (PQ (fun y=>(vB y)) r) (cAg p0 x49)
def bZ6 (p0:aV) (x92:Int):St:=⟨[(1,.ptr 1 0),(90,lK p0.from_),(91,vI (p0.from_.length:Int)),(92,vI x92)],[(1,nC p0)]⟩
abbrev bC4:=fun p0 x92 r=>Lok Tryz.prog 63 1 (PQ (fun y=>(vB y)) r) (bZ6 p0 x92)


def cEp (p0:List aL) (x8:Int):St:=⟨[(0,gI p0),(1,.fn 155 []),(7,vI (p0.length:Int)),(8,vI x8)],[]⟩
abbrev bAq:=fun p0 x8 r=>Lok Tryz.prog 182 0 (PQ (fun y=>(vI y)) r) (cEp p0 x8)



def bXq (p0:List aV) (x8:Int):St:=⟨[(0,oI p0),(1,.fn 184 []),(7,vI (p0.length:Int)),(8,vI x8)],[]⟩
abbrev aUd:=fun p0 x8 r=>Lok Tryz.prog 198 0 (PQ (fun y=>(vI y)) r) (bXq p0 x8)




def bNw (p1:List aL) (p0:List aL) (x17:Int):St:=⟨[(1,gI p1),(2,.fn 153 []),(15,gI p0),(16,vI (p0.length:Int)),(17,vI x17)],[]⟩
abbrev aXz:=fun p1 p0 x17 r=>Lok Tryz.prog 191 0 (PQ (fun y=>(vB y)) r) (bNw p1 p0 x17)
def bUt (p1:List aV) (p0:List aV) (x17:Int):St:=⟨[(1,oI p1),(2,.fn 181 []),(15,oI p0),(16,vI (p0.length:Int)),(17,vI x17)],[]⟩
abbrev bBq:=fun p1 p0 x17 r=>Lok Tryz.prog 180 0 (PQ (fun y=>(vB y)) r) (bUt p1 p0 x17)

def bOy (p1:List eH) (p0:List eH) (x17:Int):St:=⟨[(1,yS p1),(2,.fn 194 []),(15,yS p0),(16,vI (p0.length:Int)),(17,vI x17)],[]⟩
abbrev aTp:=fun p1 p0 x17 r=>Lok Tryz.prog 197 0 (PQ (fun y=>(vB y)) r) (bOy p1 p0 x17)

def bUm (p1:List dU) (p0:List dU) (x17:Int):St:=⟨[(1,oO p1),(2,.fn 192 []),(15,oO p0),(16,vI (p0.length:Int)),(17,vI x17)],[]⟩
abbrev bBs:=fun p1 p0 x17 r=>Lok Tryz.prog 195 0 (PQ (fun y=>(vB y)) r) (bUm p1 p0 x17)

def bWy (p1:List bZ) (p0:List bZ) (x17:Int):St:=⟨[(1,lK p1),(2,.fn 193 []),(15,lK p0),(16,vI (p0.length:Int)),(17,vI x17)],[]⟩
abbrev aZ7:=fun p1 p0 x17 r=>Lok Tryz.prog 196 0 (PQ (fun y=>(vB y)) r) (bWy p1 p0 x17)


def bY2 (y2:List bF) (p2:aV) (y1:bF×bA×Bool×Int×(List Int)×(List (List aA))) (y4:(List aA)×bA) (x39:Int) (aY:List bI) (iR:Int×(List UInt8)×(List bN)):St:=⟨[(0,.ptr 186 0),(5,.ptr 5 0),(6,.ptr 6 0),(8,.ptr 8 0),(9,.osl 9 119 1 (y2.map nT)),(37,yS p2.order),(38,vI (p2.order.length:Int)),(39,vI x39)],[(5,nC p2),(6,[.nil 1,.nil 1,.nil 10,.nil 11,.nil 10,.nil 1,vB false,vI 0]),(8,[.tre 428,.tre 429,.tre 430,.tre 431,.tre 432,.tre 433,vB y1.2.2.1,vI y1.2.2.2.1]),(186,dI (bA.mk (aP.mk aY) (eG.mk iR.1 iR.2.1))),(430,[.trc 10 (y4.1.map aJ)]),(428,[.trc 1 (y1.2.2.2.2.1.map cI)]),(429,[.trc 1 (y1.2.2.2.2.2.map (cSl 10 aJ))]),(433,[.trc 1 (([]:List (List UInt8)).map cStr)]),(432,[.trc 10 (([]:List aA).map aJ)]),(431,[.trc 11 (iR.2.2.map bV)])]⟩
abbrev Zs (y:aQ×(List Int)×bA):List (Nat×List V):=[(210,[.trc 1 (y.1.tables.map cI)]),(211,[.trc 1 (y.1.on_.map (cSl 10 aJ))]),(212,[.trc 10 (y.1.where_.map aJ)]),(213,[.trc 11 (y.1.order.map bV)]),(214,[.trc 10 (y.1.items.map aJ)]),(215,[.trc 1 (y.1.names.map cStr)]),(218,[.trc 1 (y.2.1.map cI)]),(186,dI y.2.2)]
abbrev Zr (y:aQ×(List Int)×bA):V:=(.tup [.agv [.tre 210,.tre 211,.tre 212,.tre 213,.tre 214,.tre 215,vB y.1.distinct,vI y.1.limit],.tre 218])
abbrev aZu:=fun y2 p2 y1 y4 x39 aY iR (r:aQ×(List Int)×bA)=>Lok Tryz.prog 21 0 (BQ Zr Zs r) (bY2 y2 p2 y1 y4 x39 aY iR)
def bZf (p1:List bF) (p2:List dU) (ka:List Int) (kf:List (List aA)) (ke:List aA) (kp:List bN) (kx20:Int×(List bI)×Int×(List UInt8)×Bool×Int×(List Int)×(List aA)×(List (List UInt8))):St:=⟨[(0,.ptr 186 0),(1,gZ p1),(3,.ptr 187 0),(9,.tre 412),(18,oO p2),(19,vI (p2.length:Int)),(20,vI kx20.1)],[(186,dI (bA.mk (aP.mk kx20.2.1) (eG.mk kx20.2.2.1 kx20.2.2.2.1))),(187,[.tre 193,.tre 194,.tre 195,.tre 196,.tre 413,.tre 414,vB kx20.2.2.2.2.1,vI kx20.2.2.2.2.2.1]),(412,[.trc 1 (kx20.2.2.2.2.2.2.1.map cI)]),(193,[.trc 1 (ka.map cI)]),(194,[.trc 1 (kf.map (cSl 10 aJ))]),(195,[.trc 10 (ke.map aJ)]),(196,[.trc 11 (kp.map bV)]),(413,[.trc 10 (kx20.2.2.2.2.2.2.2.1.map aJ)]),(414,[.trc 1 (kx20.2.2.2.2.2.2.2.2.map cStr)])]⟩
abbrev Zt (y:(List Int)×bA×Bool×Int×(List aA)×(List (List UInt8))):V:=(.tre 210)
abbrev bBy:=fun p1 p2 ka kf ke kp kx20 (r:(List Int)×bA×Bool×Int×(List aA)×(List (List UInt8)))=>Lok Tryz.prog 68 0 (BQ Zt (fun (y:(List Int)×bA×Bool×Int×(List aA)×(List (List UInt8)))=>[(210,[.trc 1 (y.1.map cI)]),(186,dI y.2.1),(187,[.tre 193,.tre 194,.tre 195,.tre 196,.tre 232,.tre 233,vB y.2.2.1,vI y.2.2.2.1]),(193,[.trc 1 (ka.map cI)]),(194,[.trc 1 (kf.map (cSl 10 aJ))]),(195,[.trc 10 (ke.map aJ)]),(196,[.trc 11 (kp.map bV)]),(197,[.trd]),(198,[.trd]),(232,[.trc 10 (y.2.2.2.2.1.map aJ)]),(233,[.trc 1 (y.2.2.2.2.2.map cStr)])]) r) (bZf p1 p2 ka kf ke kp kx20)
def bW5 (p1:List bF) (p2:List dU) (x20:Int) (ka:List Int) (kf:List (List aA)) (ke:List aA) (ki:(List bN)×(List bI)×Int×(List UInt8)×Bool×Int×(List aA)×(((List (List UInt8))×(List Int)))):St:=⟨[(0,.ptr 186 0),(1,gZ p1),(3,.ptr 187 0),(9,.tre 523),(18,oO p2),(19,vI (p2.length:Int)),(20,vI x20)],[(186,dI (bA.mk (aP.mk ki.2.1) (eG.mk ki.2.2.1 ki.2.2.2.1))),(187,[.tre 193,.tre 194,.tre 195,.tre 196,.tre 524,.tre 525,vB ki.2.2.2.2.1,vI ki.2.2.2.2.2.1]),(524,[.trc 10 (ki.2.2.2.2.2.2.1.map aJ)]),(525,[.trc 1 (ki.2.2.2.2.2.2.2.1.map cStr)]),(523,[.trc 1 (ki.2.2.2.2.2.2.2.2.map cI)]),(193,[.trc 1 (ka.map cI)]),(194,[.trc 1 (kf.map (cSl 10 aJ))]),(195,[.trc 10 (ke.map aJ)]),(196,[.trc 11 (ki.1.map bV)])]⟩
abbrev bA1:=fun p1 p2 x20 ka kf ke ki (r:(List Int)×bA×Bool×Int×(List aA)×(List (List UInt8)))=>Jok Tryz.prog 68 6 (BQ Zt (fun (y:(List Int)×bA×Bool×Int×(List aA)×(List (List UInt8)))=>[(210,[.trc 1 (y.1.map cI)]),(186,dI y.2.1),(187,[.tre 193,.tre 194,.tre 195,.tre 196,.tre 232,.tre 233,vB y.2.2.1,vI y.2.2.2.1]),(193,[.trc 1 (ka.map cI)]),(194,[.trc 1 (kf.map (cSl 10 aJ))]),(195,[.trc 10 (ke.map aJ)]),(196,[.trc 11 (ki.1.map bV)]),(197,[.trd]),(198,[.trd]),(232,[.trc 10 (y.2.2.2.2.1.map aJ)]),(233,[.trc 1 (y.2.2.2.2.2.map cStr)])]) r) (bW5 p1 p2 x20 ka kf ke ki)
def cBd (p1:List bF) (y14:List Int) (p2:List dU) (x20:Int) (tC:Bool) (tJ:Int) (iY:(List Int)×(List Int)×(((List (List aA))×(List aA)×(List bN)×(List aA)×(((List (List UInt8))×(List bI)×Int×(List UInt8)))))):St:=⟨[(0,.ptr 186 0),(1,gZ p1),(3,.ptr 187 0),(9,.tre 479),(14,.osl 14 3 1 (y14.map cI)),(18,oO p2),(19,vI (p2.length:Int)),(20,vI x20)],[(186,dI (bA.mk (aP.mk iY.2.2.2.2.2.2.2.1) (eG.mk iY.2.2.2.2.2.2.2.2.1 iY.2.2.2.2.2.2.2.2.2))),(187,[.tre 193,.tre 194,.tre 195,.tre 196,.tre 480,.tre 481,vB tC,vI tJ]),(479,[.trc 1 (iY.1.map cI)]),(193,[.trc 1 (iY.2.1.map cI)]),(194,[.trc 1 (iY.2.2.1.map (cSl 10 aJ))]),(195,[.trc 10 (iY.2.2.2.1.map aJ)]),(196,[.trc 11 (iY.2.2.2.2.1.map bV)]),(480,[.trc 10 (iY.2.2.2.2.2.1.map aJ)]),(481,[.trc 1 (iY.2.2.2.2.2.2.1.map cStr)])]⟩
abbrev aU0:=fun p1 y14 p2 x20 tC tJ iY (r:(List Int)×bA×Bool×Int×(List aA)×(List (List UInt8)))=>Jok Tryz.prog 68 18 (BQ Zt (fun (y:(List Int)×bA×Bool×Int×(List aA)×(List (List UInt8)))=>[(210,[.trc 1 (y.1.map cI)]),(186,dI y.2.1),(187,[.tre 193,.tre 194,.tre 195,.tre 196,.tre 232,.tre 233,vB y.2.2.1,vI y.2.2.2.1]),(193,[.trc 1 (iY.2.1.map cI)]),(194,[.trc 1 (iY.2.2.1.map (cSl 10 aJ))]),(195,[.trc 10 (iY.2.2.2.1.map aJ)]),(196,[.trc 11 (iY.2.2.2.2.1.map bV)]),(197,[.trd]),(198,[.trd]),(232,[.trc 10 (y.2.2.2.2.1.map aJ)]),(233,[.trc 1 (y.2.2.2.2.2.map cStr)])]) r) (cBd p1 y14 p2 x20 tC tJ iY)
def bXm (p1:List bF) (p2:List dU) (x20:Int) (y14:List Int) (ka:List Int) (kf:List (List aA)) (kb:(List aA)×(List bN)×Int×(List bI)×Int×(List UInt8)×Bool×Int×(List Int)×(List aA)×(List (List UInt8))):St:=⟨[(0,.ptr 186 0),(1,gZ p1),(3,.ptr 187 0),(9,.tre 482),(18,oO p2),(19,vI (p2.length:Int)),(20,vI x20),(68,.osl 14 3 1 (y14.map cI)),(69,vI (y14.length:Int)),(70,vI kb.2.2.1)],[(186,dI (bA.mk (aP.mk kb.2.2.2.1) (eG.mk kb.2.2.2.2.1 kb.2.2.2.2.2.1))),(187,[.tre 193,.tre 194,.tre 195,.tre 196,.tre 483,.tre 484,vB kb.2.2.2.2.2.2.1,vI kb.2.2.2.2.2.2.2.1]),(482,[.trc 1 (kb.2.2.2.2.2.2.2.2.1.map cI)]),(193,[.trc 1 (ka.map cI)]),(194,[.trc 1 (kf.map (cSl 10 aJ))]),(195,[.trc 10 (kb.1.map aJ)]),(196,[.trc 11 (kb.2.1.map bV)]),(483,[.trc 10 (kb.2.2.2.2.2.2.2.2.2.1.map aJ)]),(484,[.trc 1 (kb.2.2.2.2.2.2.2.2.2.2.map cStr)])]⟩
abbrev aWw:=fun p1 p2 x20 y14 ka kf kb (r:(List Int)×bA×Bool×Int×(List aA)×(List (List UInt8)))=>Lok Tryz.prog 68 1 (BQ Zt (fun (y:(List Int)×bA×Bool×Int×(List aA)×(List (List UInt8)))=>[(210,[.trc 1 (y.1.map cI)]),(186,dI y.2.1),(187,[.tre 193,.tre 194,.tre 195,.tre 196,.tre 232,.tre 233,vB y.2.2.1,vI y.2.2.2.1]),(193,[.trc 1 (ka.map cI)]),(194,[.trc 1 (kf.map (cSl 10 aJ))]),(195,[.trc 10 (kb.1.map aJ)]),(196,[.trc 11 (kb.2.1.map bV)]),(197,[.trd]),(198,[.trd]),(232,[.trc 10 (y.2.2.2.2.1.map aJ)]),(233,[.trc 1 (y.2.2.2.2.2.map cStr)])]) r) (bXm p1 p2 x20 y14 ka kf kb)
def bSt (p1:List bF) (p2:List dU) (x20:Int) (y14:List Int) (x70:Int) (ka:List Int) (kn:(List (List aA))×(List aA)×(List bN)×(List bI)×Int×(List UInt8)×Bool×Int×(List Int)×(List aA)×(List (List UInt8))):St:=⟨[(0,.ptr 186 0),(1,gZ p1),(3,.ptr 187 0),(9,.tre 520),(18,oO p2),(19,vI (p2.length:Int)),(20,vI x20),(68,.osl 14 3 1 (y14.map cI)),(69,vI (y14.length:Int)),(70,vI x70)],[(186,dI (bA.mk (aP.mk kn.2.2.2.1) (eG.mk kn.2.2.2.2.1 kn.2.2.2.2.2.1))),(187,[.tre 193,.tre 194,.tre 195,.tre 196,.tre 521,.tre 522,vB kn.2.2.2.2.2.2.1,vI kn.2.2.2.2.2.2.2.1]),(520,[.trc 1 (kn.2.2.2.2.2.2.2.2.1.map cI)]),(521,[.trc 10 (kn.2.2.2.2.2.2.2.2.2.1.map aJ)]),(522,[.trc 1 (kn.2.2.2.2.2.2.2.2.2.2.map cStr)]),(193,[.trc 1 (ka.map cI)]),(194,[.trc 1 (kn.1.map (cSl 10 aJ))]),(195,[.trc 10 (kn.2.1.map aJ)]),(196,[.trc 11 (kn.2.2.1.map bV)])]⟩
abbrev aT4:=fun p1 p2 x20 y14 x70 ka kn (r:(List Int)×bA×Bool×Int×(List aA)×(List (List UInt8)))=>Jok Tryz.prog 68 23 (BQ Zt (fun (y:(List Int)×bA×Bool×Int×(List aA)×(List (List UInt8)))=>[(210,[.trc 1 (y.1.map cI)]),(186,dI y.2.1),(187,[.tre 193,.tre 194,.tre 195,.tre 196,.tre 232,.tre 233,vB y.2.2.1,vI y.2.2.2.1]),(193,[.trc 1 (ka.map cI)]),(194,[.trc 1 (kn.1.map (cSl 10 aJ))]),(195,[.trc 10 (kn.2.1.map aJ)]),(196,[.trc 11 (kn.2.2.1.map bV)]),(197,[.trd]),(198,[.trd]),(232,[.trc 10 (y.2.2.2.2.1.map aJ)]),(233,[.trc 1 (y.2.2.2.2.2.map cStr)])]) r) (bSt p1 p2 x20 y14 x70 ka kn)


def cFl (p1:List bF) (p2:aL) (x37:Int) (aY:List bI) (bD:Int) (bG:List UInt8) (nI:(List aA)×(List Int)):St:=⟨[(0,.ptr 186 0),(1,gZ p1),(5,.ptr 5 0),(6,.ptr 6 0),(8,.ptr 8 0),(9,.tre 423),(10,.tre 424),(35,gI p2.kids),(36,vI (p2.kids.length:Int)),(37,vI x37)],[(5,wH p2),(6,[vI 0,vI 0,vB false,vI 0,vI 0,vS [],vI 0,vI 0,.nil 10,.nil 8]),(8,[vI p2.kind,vI p2.op,vB p2.not_,vI p2.value.kind,vI p2.value.num,vS p2.value.text,vI 0,vI 0,.tre 425,.nil 8]),(186,dI (bA.mk (aP.mk aY) (eG.mk bD bG))),(425,[.trc 10 (nI.1.map aJ)]),(424,[.trc 1 (([]:List Int).map cI)]),(423,[.trc 1 (nI.2.map cI)])]⟩
abbrev Zu (y:aA×Int×bA):V:=(.tup [.agv [vI y.1.kind,vI y.1.op,vB y.1.not_,vI y.1.value.kind,vI y.1.value.num,vS y.1.value.text,vI y.1.up,vI y.1.at_,.tre 216,.tre 217],vI y.2.1])
abbrev Zv (y:aA×Int×bA):List (Nat×List V):=[(216,[.trc 10 (y.1.kids.map aJ)]),(217,[.trc 8 (y.1.sub.map dJ)]),(186,dI y.2.2)]
abbrev aTo:=fun p1 p2 x37 aY bD bG nI (r:aA×Int×bA)=>Lok Tryz.prog 67 0 (BQ Zu Zv r) (cFl p1 p2 x37 aY bD bG nI)
def bO1 (p1:List bF) (p2:aL) (iU:List aA) (qP:List Int) (x65:Int) (nM:List bI) (iG:Int×(List UInt8)×(List aQ)×(List Int)):St:=⟨[(0,.ptr 186 0),(1,gZ p1),(5,.ptr 5 0),(6,.ptr 6 0),(8,.ptr 8 0),(9,.tre 472),(10,.tre 473),(63,oI p2.sub),(64,vI (p2.sub.length:Int)),(65,vI x65)],[(5,wH p2),(6,[vI 0,vI 0,vB false,vI 0,vI 0,vS [],vI 0,vI 0,.nil 10,.nil 8]),(8,[vI p2.kind,vI p2.op,vB p2.not_,vI p2.value.kind,vI p2.value.num,vS p2.value.text,vI 0,vI 0,.tre 474,.tre 475]),(186,dI (bA.mk (aP.mk nM) (eG.mk iG.1 iG.2.1))),(475,[.trc 8 (iG.2.2.1.map dJ)]),(474,[.trc 10 (iU.map aJ)]),(473,[.trc 1 (iG.2.2.2.map cI)]),(472,[.trc 1 (qP.map cI)])]⟩
abbrev aV6:=fun p1 p2 iU qP x65 nM iG (r:aA×Int×bA)=>Lok Tryz.prog 67 1 (BQ Zu Zv r) (bO1 p1 p2 iU qP x65 nM iG)
def bSq (p1:List bF) (p2:aL) (x65:Int) (y10:aQ×(List Int)×bA) (rU:List aQ) (iU:List aA) (kV:(List Int)×(List bI)×Int×(List UInt8)):St:=⟨[(0,.ptr 186 0),(1,gZ p1),(5,.ptr 5 0),(6,.ptr 6 0),(8,.ptr 8 0),(9,.tre 504),(17,.ptr 17 0),(18,.tre 505),(63,oI p2.sub),(64,vI (p2.sub.length:Int)),(65,vI x65)],[(5,wH p2),(6,[vI 0,vI 0,vB false,vI 0,vI 0,vS [],vI 0,vI 0,.nil 10,.nil 8]),(8,[vI p2.kind,vI p2.op,vB p2.not_,vI p2.value.kind,vI p2.value.num,vS p2.value.text,vI 0,vI 0,.tre 506,.tre 507]),(17,[.tre 508,.tre 509,.tre 510,.tre 511,.tre 512,.tre 513,vB y10.1.distinct,vI y10.1.limit]),(186,dI (bA.mk (aP.mk kV.2.1) (eG.mk kV.2.2.1 kV.2.2.2))),(508,[.trc 1 (y10.1.tables.map cI)]),(509,[.trc 1 (y10.1.on_.map (cSl 10 aJ))]),(510,[.trc 10 (y10.1.where_.map aJ)]),(511,[.trc 11 (y10.1.order.map bV)]),(512,[.trc 10 (y10.1.items.map aJ)]),(513,[.trc 1 (y10.1.names.map cStr)]),(505,[.trc 1 (y10.2.1.map cI)]),(507,[.trc 8 (rU.map dJ)]),(506,[.trc 10 (iU.map aJ)]),(504,[.trc 1 (kV.1.map cI)])]⟩
abbrev aS9:=fun p1 p2 x65 y10 rU iU kV (r:aA×Int×bA)=>Jok Tryz.prog 67 21 (BQ Zu Zv r) (bSq p1 p2 x65 y10 rU iU kV)
def bU2 (p1:List UInt8) (p2:List UInt8) (p0:List bF) (x13:Int):St:=⟨[(1,vS p1),(2,vS p2),(6,.ptr 6 0),(11,gZ p0),(12,vI (p0.length:Int)),(13,vI x13)],[(6,[vI 0,vI 0,vI 0])]⟩
abbrev aUx:=fun p1 p2 p0 x13 (r:wF×Int)=>Lok Tryz.prog 122 0 (PQ (fun y=>(.tup [bJy y.1,vI y.2])) r) (bU2 p1 p2 p0 x13)
def bTy (p1:List UInt8) (p2:List UInt8) (p0:bF) (x7:List Int) (x14:Int):St:=⟨[(1,vS p1),(2,vS p2),(7,.osl 7 3 1 (x7.map cI)),(12,aLt p0.names),(13,vI (p0.names.length:Int)),(14,vI x14)],[]⟩
abbrev aV3:=fun p1 p2 p0 x7 x14 (r:List Int)=>Lok Tryz.prog 158 0 (BQ Zd Ze r) (bTy p1 p2 p0 x7 x14)
def bZ2 (p1:List UInt8) (p2:List UInt8) (p0:bF) (x14:Int) (uD:List Int):St:=⟨[(1,vS p1),(2,vS p2),(7,.osl 7 3 1 (uD.map cI)),(12,aLt p0.names),(13,vI (p0.names.length:Int)),(14,vI x14)],[]⟩
abbrev aSv:=fun p1 p2 p0 x14 uD (r:List Int)=>Jok Tryz.prog 158 6 (BQ Zd Ze r) (bZ2 p1 p2 p0 x14 uD)


def cEw (p1:List UInt8) (p0:bF) (x5:List Int) (x12:Int):St:=⟨[(1,vS p1),(5,.osl 5 3 1 (x5.map cI)),(10,aLt p0.names),(11,vI (p0.names.length:Int)),(12,vI x12)],[]⟩
abbrev bBh:=fun p1 p0 x5 x12 (r:List Int)=>Lok Tryz.prog 127 0 (BQ Zd Ze r) (cEw p1 p0 x5 x12)
def bTb (p1:List UInt8) (p0:bF) (x12:Int) (tH:List Int):St:=⟨[(1,vS p1),(5,.osl 5 3 1 (tH.map cI)),(10,aLt p0.names),(11,vI (p0.names.length:Int)),(12,vI x12)],[]⟩
abbrev bC6:=fun p1 p0 x12 tH (r:List Int)=>Jok Tryz.prog 127 6 (BQ Zd Ze r) (bTb p1 p0 x12 tH)

def cDl (p1:List bF) (p2:List aL) (x15:Int) (aY:List bI) (bD:Int) (bG:List UInt8) (jH:List aA):St:=⟨[(0,.ptr 186 0),(1,gZ p1),(7,.tre 412),(13,gI p2),(14,vI (p2.length:Int)),(15,vI x15)],[(186,dI (bA.mk (aP.mk aY) (eG.mk bD bG))),(412,[.trc 10 (jH.map aJ)])]⟩
abbrev Zx (y:(List aA)×bA):List (Nat×List V):=[(210,[.trc 10 (y.1.map aJ)]),(186,dI y.2)]
abbrev Zw (y:(List aA)×bA):V:=(.tre 210)
abbrev bB0:=fun p1 p2 x15 aY bD bG jH (r:(List aA)×bA)=>Lok Tryz.prog 66 0 (BQ Zw Zx r) (cDl p1 p2 x15 aY bD bG jH)
def cBj (p1:List bF) (p2:List aL) (x15:Int) (y2:aA×Int×bA) (jH:List aA) (kX:List bI) (qW:Int×(List UInt8)):St:=⟨[(0,.ptr 186 0),(1,gZ p1),(7,.tre 438),(10,.ptr 10 0),(13,gI p2),(14,vI (p2.length:Int)),(15,vI x15)],[(10,[vI y2.1.kind,vI y2.1.op,vB y2.1.not_,vI y2.1.value.kind,vI y2.1.value.num,vS y2.1.value.text,vI y2.1.up,vI y2.1.at_,.tre 439,.tre 440]),(186,dI (bA.mk (aP.mk kX) (eG.mk qW.1 qW.2))),(439,[.trc 10 (y2.1.kids.map aJ)]),(440,[.trc 8 (y2.1.sub.map dJ)]),(438,[.trc 10 (jH.map aJ)])]⟩
abbrev aVr:=fun p1 p2 x15 y2 jH kX qW (r:(List aA)×bA)=>Jok Tryz.prog 66 9 (BQ Zw Zx r) (cBj p1 p2 x15 y2 jH kX qW)
def bTi (p1:List bF) (p2:List bZ) (kq:Bool) (kt:Int) (ke:List aA) (kp:List bN) (kc:(List aA)×(((List (List UInt8))×Int×(List bJ)×(List bI)×Int×(List UInt8)×(List Int)×(List (List aA))))):St:=⟨[(0,.ptr 186 0),(1,gZ p1),(2,lK p2),(3,.ptr 187 0),(8,.ptr 8 0),(9,.ptr 9 0),(16,lK p2),(17,vI (p2.length:Int)),(18,vI kc.2.2.1)],[(8,[.nil 3]),(9,aHp (bF.mk kc.2.2.2.1)),(186,dI (bA.mk (aP.mk kc.2.2.2.2.1) (eG.mk kc.2.2.2.2.2.1 kc.2.2.2.2.2.2.1))),(187,[.tre 415,.tre 416,.tre 195,.tre 196,.tre 197,.tre 198,vB kq,vI kt]),(415,[.trc 1 (kc.2.2.2.2.2.2.2.1.map cI)]),(416,[.trc 1 (kc.2.2.2.2.2.2.2.2.map (cSl 10 aJ))]),(195,[.trc 10 (ke.map aJ)]),(196,[.trc 11 (kp.map bV)]),(197,[.trc 10 (kc.1.map aJ)]),(198,[.trc 1 (kc.2.1.map cStr)])]⟩
abbrev Zy (y:bF×bA×Bool×Int×(List Int)×(List (List aA))):V:=(uZ y.1)
abbrev aUg:=fun p1 p2 kq kt ke kp kc (r:bF×bA×Bool×Int×(List Int)×(List (List aA)))=>Lok Tryz.prog 65 0 (BQ Zy (fun (y:bF×bA×Bool×Int×(List Int)×(List (List aA)))=>[(186,dI y.2.1),(187,[.tre 230,.tre 231,.tre 195,.tre 196,.tre 197,.tre 198,vB y.2.2.1,vI y.2.2.2.1]),(193,[.trd]),(194,[.trd]),(195,[.trc 10 (ke.map aJ)]),(196,[.trc 11 (kp.map bV)]),(197,[.trc 10 (kc.1.map aJ)]),(198,[.trc 1 (kc.2.1.map cStr)]),(230,[.trc 1 (y.2.2.2.2.1.map cI)]),(231,[.trc 1 (y.2.2.2.2.2.map (cSl 10 aJ))])]) r) (bTi p1 p2 kq kt ke kp kc)
def bWs (p1:List bF) (p2:List bZ) (x18:Int) (mM:List bJ) (y1:bZ) (y3:bF×Int×(List UInt8)) (kd:Bool×Int×(List Int)×(((List (List aA))×(List aA)×(List bN)×(List aA)×(((List (List UInt8))×(List bI)×Int×(List UInt8)))))):St:=⟨[(0,.ptr 186 0),(1,gZ p1),(2,lK p2),(3,.ptr 187 0),(8,.ptr 8 0),(9,.ptr 9 0),(11,.ptr 11 0),(12,.ptr 12 0),(16,lK p2),(17,vI (p2.length:Int)),(18,vI x18)],[(8,[.nil 3]),(9,aHp (bF.mk mM)),(11,bXp y1),(12,aHp y3.1),(186,dI (bA.mk (aP.mk kd.2.2.2.2.2.2.2.2.1) (eG.mk kd.2.2.2.2.2.2.2.2.2.1 kd.2.2.2.2.2.2.2.2.2.2))),(187,[.tre 443,.tre 444,.tre 195,.tre 196,.tre 197,.tre 198,vB kd.1,vI kd.2.1]),(443,[.trc 1 (kd.2.2.1.map cI)]),(444,[.trc 1 (kd.2.2.2.1.map (cSl 10 aJ))]),(195,[.trc 10 (kd.2.2.2.2.1.map aJ)]),(196,[.trc 11 (kd.2.2.2.2.2.1.map bV)]),(197,[.trc 10 (kd.2.2.2.2.2.2.1.map aJ)]),(198,[.trc 1 (kd.2.2.2.2.2.2.2.1.map cStr)])]⟩
abbrev aSh:=fun p1 p2 x18 mM y1 y3 kd (r:bF×bA×Bool×Int×(List Int)×(List (List aA)))=>Jok Tryz.prog 65 9 (BQ Zy (fun (y:bF×bA×Bool×Int×(List Int)×(List (List aA)))=>[(186,dI y.2.1),(187,[.tre 230,.tre 231,.tre 195,.tre 196,.tre 197,.tre 198,vB y.2.2.1,vI y.2.2.2.1]),(193,[.trd]),(194,[.trd]),(195,[.trc 10 (kd.2.2.2.2.1.map aJ)]),(196,[.trc 11 (kd.2.2.2.2.2.1.map bV)]),(197,[.trc 10 (kd.2.2.2.2.2.2.1.map aJ)]),(198,[.trc 1 (kd.2.2.2.2.2.2.2.1.map cStr)]),(230,[.trc 1 (y.2.2.2.2.1.map cI)]),(231,[.trc 1 (y.2.2.2.2.2.map (cSl 10 aJ))])]) r) (bWs p1 p2 x18 mM y1 y3 kd)
def cE5 (p1:List bZ) (p0:aP) (x19:Int) (jD:List bJ):St:=⟨[(1,lK p1),(2,.ptr 2 0),(4,.ptr 4 0),(7,.ptr 7 0),(17,lK p1),(18,vI (p1.length:Int)),(19,vI x19)],[(2,fK p0),(4,[.nil 3]),(7,[.osl 70 160 3 (jD.map dZ)])]⟩
abbrev aVa:=fun p1 p0 x19 jD (r:bF×Int×(List UInt8))=>Lok Tryz.prog 120 0 (PQ (fun y=>(.tup [uZ y.1,vI y.2.1,vS y.2.2])) r) (cE5 p1 p0 x19 jD)
def cBy (p1:List bZ) (y2:Int) (y3:List UInt8) (x19:Int) (y4:List bZ) (p0:aP) (jD:List bJ) (x39:Int):St:=⟨[(1,lK p1),(2,.ptr 2 0),(4,.ptr 4 0),(7,.ptr 7 0),(10,vI y2),(11,vS y3),(17,lK p1),(18,vI (p1.length:Int)),(19,vI x19),(37,lK y4),(38,vI (y4.length:Int)),(39,vI x39)],[(2,fK p0),(4,[.nil 3]),(7,[.osl 70 160 3 (jD.map dZ)])]⟩
abbrev aZs:=fun p1 y2 y3 x19 y4 p0 jD x39 (r:bF×Int×(List UInt8))=>Lok Tryz.prog 120 1 (PQ (fun y=>(.tup [uZ y.1,vI y.2.1,vS y.2.2])) r) (cBy p1 y2 y3 x19 y4 p0 jD x39)
def bV5 (p1:List bZ) (y3:List UInt8) (x19:Int) (y7:bI) (p0:aP) (x57:Int) (qI:List bJ):St:=⟨[(1,lK p1),(2,.ptr 2 0),(4,.ptr 4 0),(7,.ptr 7 0),(11,vS y3),(17,lK p1),(18,vI (p1.length:Int)),(19,vI x19),(55,aGt y7.cols),(56,vI (y7.cols.length:Int)),(57,vI x57)],[(2,fK p0),(4,[.nil 3]),(7,[.osl 70 160 3 (qI.map dZ)])]⟩
abbrev aTx:=fun p1 y3 x19 y7 p0 x57 qI (r:bF×Int×(List UInt8))=>Lok Tryz.prog 120 2 (PQ (fun y=>(.tup [uZ y.1,vI y.2.1,vS y.2.2])) r) (bV5 p1 y3 x19 y7 p0 x57 qI)

def bV2 (V9:List bI) (iA:Bool) (gX:Int) (mM:List Int) (U3:Int) (K4:Int) (L8:List Int) (K9:List (List aA)) (R9:List aA) (U7:List bN) (I4:List aA) (R7:List (List UInt8)):St:=⟨[(3,.ptr 3 0),(4,.ptr 4 0),(5,.ptr 9 0),(6,.ptr 6 0),(7,.ptr 7 0)],[(3,[.nil 2]),(4,[.nil 1,.nil 1,.nil 10,.nil 11,.nil 10,.nil 1,vB false,vI 0]),(6,fK (aP.mk V9)),(7,[.tre 489,.tre 490,.tre 491,.tre 492,.tre 493,.tre 494,vB iA,vI gX]),(9,aX (aB.mk mM U3 K4)),(489,[.trc 1 (L8.map cI)]),(490,[.trc 1 (K9.map (cSl 10 aJ))]),(491,[.trc 10 (R9.map aJ)]),(492,[.trc 11 (U7.map bV)]),(493,[.trc 10 (I4.map aJ)]),(494,[.trc 1 (R7.map cStr)])]⟩
abbrev ZA (y:aB×aP×aQ):List (Nat×List V):=[(9,aX y.1),(224,[.trc 1 (y.2.2.tables.map cI)]),(225,[.trc 1 (y.2.2.on_.map (cSl 10 aJ))]),(226,[.trc 10 (y.2.2.where_.map aJ)]),(227,[.trc 11 (y.2.2.order.map bV)]),(228,[.trc 10 (y.2.2.items.map aJ)]),(229,[.trc 1 (y.2.2.names.map cStr)])]
abbrev Zz (y:aB×aP×aQ):V:=(.tup [.ptr 9 0,eZ y.2.1,.agv [.tre 224,.tre 225,.tre 226,.tre 227,.tre 228,.tre 229,vB y.2.2.distinct,vI y.2.2.limit]])
abbrev cAv:=fun V9 iA gX mM U3 K4 L8 K9 R9 U7 I4 R7 (r:aB×aP×aQ)=>Jok Tryz.prog 12 3 (BQ Zz ZA r) (bV2 V9 iA gX mM U3 K4 L8 K9 R9 U7 I4 R7)
def bQq (p1:Int) (y7:Int×aB):St:=⟨[(0,.ptr 186 0),(1,vI p1),(4,.ptr 4 0)],[(4,[vI 0,vI 0,vB false,vI 0,vI 0,vS [],vI 0,vI 0,.nil 10,.nil 8]),(186,aX y7.2)]⟩
abbrev ZB (y:aA×aB):V:=(.agv [vI y.1.kind,vI y.1.op,vB y.1.not_,vI y.1.value.kind,vI y.1.value.num,vS y.1.value.text,vI y.1.up,vI y.1.at_,.tre 216,.tre 217])
abbrev ZC (y:aA×aB):List (Nat×List V):=[(216,[.trc 10 (y.1.kids.map aJ)]),(217,[.trc 8 (y.1.sub.map dJ)]),(186,aX y.2)]
abbrev aTc:=fun p1 y7 (r:aA×aB)=>Jok Tryz.prog 41 7 (BQ ZB ZC r) (bQq p1 y7)
def cBr (p1:Int) (y2:Int×aB) (y1:Bool×aB) (x7:Int) (aY:List Int) (bD:Int) (nD:Int×(((List (List aA))×(List Int)))):St:=⟨[(0,.ptr 186 0),(1,vI p1),(4,.ptr 4 0),(5,.ptr 5 0),(6,vI (QA .i64 (1+y2.1))),(7,vI x7)],[(4,[.nil 1,.nil 1,.nil 10,.nil 11,.nil 10,.nil 1,vB false,vI 0]),(5,[.tre 417,.tre 418,.nil 10,.nil 11,.nil 10,.nil 1,vB y1.1,vI (-1)]),(186,aX (aB.mk aY bD nD.1)),(418,[.trc 1 (nD.2.1.map (cSl 10 aJ))]),(417,[.trc 1 (nD.2.2.map cI)])]⟩
abbrev ZE (y:aQ×aB):List (Nat×List V):=[(210,[.trc 1 (y.1.tables.map cI)]),(211,[.trc 1 (y.1.on_.map (cSl 10 aJ))]),(212,[.trc 10 (y.1.where_.map aJ)]),(213,[.trc 11 (y.1.order.map bV)]),(214,[.trc 10 (y.1.items.map aJ)]),(215,[.trc 1 (y.1.names.map cStr)]),(186,aX y.2)]
abbrev ZD (y:aQ×aB):V:=(.agv [.tre 210,.tre 211,.tre 212,.tre 213,.tre 214,.tre 215,vB y.1.distinct,vI y.1.limit])
abbrev aX3:=fun p1 y2 y1 x7 aY bD nD (r:aQ×aB)=>Lok Tryz.prog 85 0 (BQ ZD ZE r) (cBr p1 y2 y1 x7 aY bD nD)
def bZ9 (p1:Int) (y2:Int×aB) (x7:Int) (y1:Bool×aB) (y4:List Int) (fB:List (List aA)) (nK:(List Int)×Int×Int×(List aA)):St:=⟨[(0,.ptr 186 0),(1,vI p1),(4,.ptr 4 0),(5,.ptr 5 0),(6,vI (QA .i64 (1+y2.1))),(7,vI x7),(8,.tre 445)],[(4,[.nil 1,.nil 1,.nil 10,.nil 11,.nil 10,.nil 1,vB false,vI 0]),(5,[.tre 446,.tre 447,.nil 10,.nil 11,.nil 10,.nil 1,vB y1.1,vI (-1)]),(186,aX (aB.mk nK.1 nK.2.1 nK.2.2.1)),(445,[.trc 10 (nK.2.2.2.map aJ)]),(446,[.trc 1 (y4.map cI)]),(447,[.trc 1 (fB.map (cSl 10 aJ))])]⟩
abbrev aXd:=fun p1 y2 x7 y1 y4 fB nK (r:aQ×aB)=>Jok Tryz.prog 85 10 (BQ ZD ZE r) (bZ9 p1 y2 x7 y1 y4 fB nK)
def cCh (p1:Int) (y12:Int×aB) (y1:Bool×aB) (fB:List (List aA)) (fV:List Int) (x9:Int) (kS:(List Int)×Int×Int×(((List (List UInt8))×(List aA)))):St:=⟨[(0,.ptr 186 0),(1,vI p1),(4,.ptr 4 0),(5,.ptr 5 0),(6,vI (QA .i64 (1+y12.1))),(9,vI x9)],[(4,[.nil 1,.nil 1,.nil 10,.nil 11,.nil 10,.nil 1,vB false,vI 0]),(5,[.tre 453,.tre 454,.nil 10,.nil 11,.tre 455,.tre 456,vB y1.1,vI (-1)]),(186,aX (aB.mk kS.1 kS.2.1 kS.2.2.1)),(456,[.trc 1 (kS.2.2.2.1.map cStr)]),(455,[.trc 10 (kS.2.2.2.2.map aJ)]),(454,[.trc 1 (fB.map (cSl 10 aJ))]),(453,[.trc 1 (fV.map cI)])]⟩
abbrev aTq:=fun p1 y12 y1 fB fV x9 kS (r:aQ×aB)=>Lok Tryz.prog 85 1 (BQ ZD ZE r) (cCh p1 y12 y1 fB fV x9 kS)
def bOe (p1:Int) (y1:Bool×aB) (jU:List (List UInt8)) (jR:List aA) (fB:List (List aA)) (fV:List Int) (nU:(List Int)×Int×Int×(List aA)):St:=⟨[(0,.ptr 186 0),(1,vI p1),(4,.ptr 4 0),(5,.ptr 5 0)],[(4,[.nil 1,.nil 1,.nil 10,.nil 11,.nil 10,.nil 1,vB false,vI 0]),(5,[.tre 499,.tre 500,.tre 501,.nil 11,.tre 502,.tre 503,vB y1.1,vI (-1)]),(186,aX (aB.mk nU.1 nU.2.1 nU.2.2.1)),(501,[.trc 10 (nU.2.2.2.map aJ)]),(503,[.trc 1 (jU.map cStr)]),(502,[.trc 10 (jR.map aJ)]),(500,[.trc 1 (fB.map (cSl 10 aJ))]),(499,[.trc 1 (fV.map cI)])]⟩
abbrev aY5:=fun p1 y1 jU jR fB fV nU (r:aQ×aB)=>Jok Tryz.prog 85 19 (BQ ZD ZE r) (bOe p1 y1 jU jR fB fV nU)
def bOx (y1:Bool×aB) (oM:List aA) (jU:List (List UInt8)) (jR:List aA) (fB:List (List aA)) (fV:List Int) (aAj:List Int) (Z6:Int) (aBi:Int) (oJ:List bN):St:=⟨[(0,.ptr 186 0),(4,.ptr 4 0),(5,.ptr 5 0)],[(4,[.nil 1,.nil 1,.nil 10,.nil 11,.nil 10,.nil 1,vB false,vI 0]),(5,[.tre 514,.tre 515,.tre 516,.tre 517,.tre 518,.tre 519,vB y1.1,vI (-1)]),(186,aX (aB.mk aAj Z6 aBi)),(517,[.trc 11 (oJ.map bV)]),(516,[.trc 10 (oM.map aJ)]),(519,[.trc 1 (jU.map cStr)]),(518,[.trc 10 (jR.map aJ)]),(515,[.trc 1 (fB.map (cSl 10 aJ))]),(514,[.trc 1 (fV.map cI)])]⟩
abbrev bWo:=fun y1 oM jU jR fB fV aAj Z6 aBi oJ (r:aQ×aB)=>Jok Tryz.prog 85 21 (BQ ZD ZE r) (bOx y1 oM jU jR fB fV aAj Z6 aBi oJ)
def bY8 (y1:Bool×aB) (oJ:List bN) (oM:List aA) (jU:List (List UInt8)) (jR:List aA) (fB:List (List aA)) (fV:List Int) (Q3:Int) (pR:List Int) (pM:Int) (pV:Int):St:=⟨[(4,.ptr 4 0),(5,.ptr 5 0)],[(4,[.nil 1,.nil 1,.nil 10,.nil 11,.nil 10,.nil 1,vB false,vI 0]),(5,[.tre 523,.tre 524,.tre 525,.tre 526,.tre 527,.tre 528,vB y1.1,vI Q3]),(186,aX (aB.mk pR pM pV)),(526,[.trc 11 (oJ.map bV)]),(525,[.trc 10 (oM.map aJ)]),(528,[.trc 1 (jU.map cStr)]),(527,[.trc 10 (jR.map aJ)]),(524,[.trc 1 (fB.map (cSl 10 aJ))]),(523,[.trc 1 (fV.map cI)])]⟩
abbrev cE9:=fun y1 oJ oM jU jR fB fV Q3 pR pM pV (r:aQ×aB)=>Jok Tryz.prog 85 23 (BQ ZD ZE r) (bY8 y1 oJ oM jU jR fB fV Q3 pR pM pV)



def cBw (p0:aB) (x3:Int) (bD:Int):St:=⟨[(3,vI x3)],[(186,aX (aB.mk p0.b bD (QA .i64 ((QA .i64 (p0.h * 6364136223846793005))+1442695040888963407))))]⟩
abbrev ZG (y:Int×aB):List (Nat×List V):=[(186,aX y.2)]
abbrev ZF (y:Int×aB):V:=(vI y.1)
abbrev cD4:=fun p0 x3 bD (r:Int×aB)=>Jok Tryz.prog 83 3 (BQ ZF ZG r) (cBw p0 x3 bD)

def bVj (p1:Int) (p2:Int) (x8:Int) (aY:List Int) (bD:Int) (bG:Int) (rZ:List aA):St:=⟨[(0,.ptr 186 0),(1,vI p1),(2,vI p2),(7,.tre 410),(8,vI x8)],[(186,aX (aB.mk aY bD bG)),(410,[.trc 10 (rZ.map aJ)])]⟩
abbrev ZI (y:(List aA)×aB):List (Nat×List V):=[(210,[.trc 10 (y.1.map aJ)]),(186,aX y.2)]
abbrev ZH (y:(List aA)×aB):V:=(.tre 210)
abbrev aVk:=fun p1 p2 x8 aY bD bG rZ (r:(List aA)×aB)=>Lok Tryz.prog 88 0 (BQ ZH ZI r) (bVj p1 p2 x8 aY bD bG rZ)


def cFo (y1:bH×aB) (lQ:Int):St:=⟨[(2,.ptr 2 0),(3,.ptr 3 0)],[(2,[vI 0,vI 0,vS []]),(3,aM0 (bH.mk y1.1.kind lQ y1.1.text)),(186,aX y1.2)]⟩
abbrev ZK (y:bH×aB):List (Nat×List V):=[(186,aX y.2)]
abbrev ZJ (y:bH×aB):V:=(sF y.1)
abbrev bTg:=fun y1 lQ (r:bH×aB)=>Jok Tryz.prog 87 2 (BQ ZJ ZK r) (cFo y1 lQ)




def cEt (p1:Int) (y1:aP×aB) (x7:List Int) (aY:List Int) (bD:Int) (bG:Int):St:=⟨[(0,.ptr 186 0),(1,vI p1),(4,.ptr 4 0),(5,.ptr 5 0),(6,.ptr 6 0),(7,.osl 7 3 1 (x7.map cI))],[(4,[.nil 2]),(5,[.nil 1,.nil 1,.nil 10,.nil 11,.nil 10,.nil 1,vB false,vI 0]),(6,fK y1.1),(186,aX (aB.mk aY bD bG))]⟩
abbrev ZM (y:aP×aQ×aB):List (Nat×List V):=[(218,[.trc 1 (y.2.1.tables.map cI)]),(219,[.trc 1 (y.2.1.on_.map (cSl 10 aJ))]),(220,[.trc 10 (y.2.1.where_.map aJ)]),(221,[.trc 11 (y.2.1.order.map bV)]),(222,[.trc 10 (y.2.1.items.map aJ)]),(223,[.trc 1 (y.2.1.names.map cStr)]),(186,aX y.2.2)]
abbrev ZL (y:aP×aQ×aB):V:=(.tup [eZ y.1,.agv [.tre 218,.tre 219,.tre 220,.tre 221,.tre 222,.tre 223,vB y.2.1.distinct,vI y.2.1.limit]])
abbrev bOa:=fun p1 y1 x7 aY bD bG (r:aP×aQ×aB)=>Jok Tryz.prog 35 3 (BQ ZL ZM r) (cEt p1 y1 x7 aY bD bG)
def bUo (p2:List (List Int)) (p3:List Int) (p4:Int) (y2:Int×aB) (p1:aP) (y1:Bool×aB) (kx13:Int×(List Int)×Int×Int×(((List (List aA))×(List Int)))):St:=⟨[(0,.ptr 186 0),(2,.d (.sl 1 (p2.map (cSl 1 cI)))),(3,jI p3),(4,vI p4),(6,.ptr 6 0),(10,.ptr 10 0),(11,.ptr 11 0),(12,vI (QA .i64 (1+y2.1))),(13,vI kx13.1)],[(6,fK p1),(10,[.nil 1,.nil 1,.nil 10,.nil 11,.nil 10,.nil 1,vB false,vI 0]),(11,[.tre 419,.tre 420,.nil 10,.nil 11,.nil 10,.nil 1,vB y1.1,vI (-1)]),(186,aX (aB.mk kx13.2.1 kx13.2.2.1 kx13.2.2.2.1)),(420,[.trc 1 (kx13.2.2.2.2.1.map (cSl 10 aJ))]),(419,[.trc 1 (kx13.2.2.2.2.2.map cI)])]⟩
abbrev bCe:=fun p2 p3 p4 y2 p1 y1 kx13 (r:aQ×aB)=>Lok Tryz.prog 82 0 (BQ ZD ZE r) (bUo p2 p3 p4 y2 p1 y1 kx13)
def cFp (p2:List (List Int)) (p3:List Int) (p4:Int) (y2:Int×aB) (x13:Int) (p1:aP) (y1:Bool×aB) (ky4:(List Int)×(((List (List aA))×(List Int)×Int×Int×(List aA)))):St:=⟨[(0,.ptr 186 0),(2,.d (.sl 1 (p2.map (cSl 1 cI)))),(3,jI p3),(4,vI p4),(6,.ptr 6 0),(10,.ptr 10 0),(11,.ptr 11 0),(12,vI (QA .i64 (1+y2.1))),(13,vI x13),(16,.tre 450)],[(6,fK p1),(10,[.nil 1,.nil 1,.nil 10,.nil 11,.nil 10,.nil 1,vB false,vI 0]),(11,[.tre 451,.tre 452,.nil 10,.nil 11,.nil 10,.nil 1,vB y1.1,vI (-1)]),(186,aX (aB.mk ky4.2.2.1 ky4.2.2.2.1 ky4.2.2.2.2.1)),(450,[.trc 10 (ky4.2.2.2.2.2.map aJ)]),(451,[.trc 1 (ky4.1.map cI)]),(452,[.trc 1 (ky4.2.1.map (cSl 10 aJ))])]⟩
abbrev aWj:=fun p2 p3 p4 y2 x13 p1 y1 ky4 (r:aQ×aB)=>Jok Tryz.prog 82 11 (BQ ZD ZE r) (cFp p2 p3 p4 y2 x13 p1 y1 ky4)
def bQh (p3:List Int) (p4:Int) (y15:List (List Int)) (p1:aP) (y1:Bool×aB) (iQ:List (List aA)) (iV:List Int) (kx20:Int×(List Int)×Int×Int×(((List (List UInt8))×(List aA)))):St:=⟨[(0,.ptr 186 0),(3,jI p3),(4,vI p4),(6,.ptr 6 0),(10,.ptr 10 0),(11,.ptr 11 0),(19,.osl 19 27 1 (y15.map (cSl 1 cI))),(20,vI kx20.1)],[(6,fK p1),(10,[.nil 1,.nil 1,.nil 10,.nil 11,.nil 10,.nil 1,vB false,vI 0]),(11,[.tre 485,.tre 486,.nil 10,.nil 11,.tre 487,.tre 488,vB y1.1,vI (-1)]),(186,aX (aB.mk kx20.2.1 kx20.2.2.1 kx20.2.2.2.1)),(488,[.trc 1 (kx20.2.2.2.2.1.map cStr)]),(487,[.trc 10 (kx20.2.2.2.2.2.map aJ)]),(486,[.trc 1 (iQ.map (cSl 10 aJ))]),(485,[.trc 1 (iV.map cI)])]⟩
abbrev aZ6:=fun p3 p4 y15 p1 y1 iQ iV kx20 (r:aQ×aB)=>Lok Tryz.prog 82 1 (BQ ZD ZE r) (bQh p3 p4 y15 p1 y1 iQ iV kx20)
def bUh (p4:Int) (y15:List (List Int)) (p1:aP) (y1:Bool×aB) (jC:List (List UInt8)) (jB:List aA) (lH:(List (List aA))×(List Int)×(List Int)×Int×Int×(List aA)):St:=⟨[(0,.ptr 186 0),(4,vI p4),(6,.ptr 6 0),(10,.ptr 10 0),(11,.ptr 11 0),(19,.osl 19 27 1 (y15.map (cSl 1 cI)))],[(6,fK p1),(10,[.nil 1,.nil 1,.nil 10,.nil 11,.nil 10,.nil 1,vB false,vI 0]),(11,[.tre 529,.tre 530,.tre 531,.nil 11,.tre 532,.tre 533,vB y1.1,vI (-1)]),(186,aX (aB.mk lH.2.2.1 lH.2.2.2.1 lH.2.2.2.2.1)),(531,[.trc 10 (lH.2.2.2.2.2.map aJ)]),(533,[.trc 1 (jC.map cStr)]),(532,[.trc 10 (jB.map aJ)]),(530,[.trc 1 (lH.1.map (cSl 10 aJ))]),(529,[.trc 1 (lH.2.1.map cI)])]⟩
abbrev aVx:=fun p4 y15 p1 y1 jC jB lH (r:aQ×aB)=>Jok Tryz.prog 82 21 (BQ ZD ZE r) (bUh p4 y15 p1 y1 jC jB lH)
def bR0 (y1:Bool×aB) (nZ:List aA) (jC:List (List UInt8)) (jB:List aA) (iQ:List (List aA)) (iV:List Int) (pR:List Int) (pM:Int) (pV:Int) (oU:List bN):St:=⟨[(0,.ptr 186 0),(10,.ptr 10 0),(11,.ptr 11 0)],[(10,[.nil 1,.nil 1,.nil 10,.nil 11,.nil 10,.nil 1,vB false,vI 0]),(11,[.tre 534,.tre 535,.tre 536,.tre 537,.tre 538,.tre 539,vB y1.1,vI (-1)]),(186,aX (aB.mk pR pM pV)),(537,[.trc 11 (oU.map bV)]),(536,[.trc 10 (nZ.map aJ)]),(539,[.trc 1 (jC.map cStr)]),(538,[.trc 10 (jB.map aJ)]),(535,[.trc 1 (iQ.map (cSl 10 aJ))]),(534,[.trc 1 (iV.map cI)])]⟩
abbrev bOz:=fun y1 nZ jC jB iQ iV pR pM pV oU (r:aQ×aB)=>Jok Tryz.prog 82 23 (BQ ZD ZE r) (bR0 y1 nZ jC jB iQ iV pR pM pV oU)
def cC8 (y1:Bool×aB) (oU:List bN) (nZ:List aA) (jC:List (List UInt8)) (jB:List aA) (iQ:List (List aA)) (iV:List Int) (P9:Int) (J6:List Int) (P8:Int) (H5:Int):St:=⟨[(10,.ptr 10 0),(11,.ptr 11 0)],[(10,[.nil 1,.nil 1,.nil 10,.nil 11,.nil 10,.nil 1,vB false,vI 0]),(11,[.tre 540,.tre 541,.tre 542,.tre 543,.tre 544,.tre 545,vB y1.1,vI P9]),(186,aX (aB.mk J6 P8 H5)),(543,[.trc 11 (oU.map bV)]),(542,[.trc 10 (nZ.map aJ)]),(545,[.trc 1 (jC.map cStr)]),(544,[.trc 10 (jB.map aJ)]),(541,[.trc 1 (iQ.map (cSl 10 aJ))]),(540,[.trc 1 (iV.map cI)])]⟩
abbrev bRy:=fun y1 oU nZ jC jB iQ iV P9 J6 P8 H5 (r:aQ×aB)=>Jok Tryz.prog 82 25 (BQ ZD ZE r) (cC8 y1 oU nZ jC jB iQ iV P9 J6 P8 H5)

def cBv (y1:bH×aB) (aAs:Int) (aY:List Int) (bD:Int) (bG:Int):St:=⟨[(4,.ptr 4 0),(5,.ptr 5 0)],[(4,[vI 0,vI 0,vS []]),(5,aM0 (bH.mk y1.1.kind aAs y1.1.text)),(186,aX (aB.mk aY bD bG))]⟩
abbrev bU7:=fun y1 aAs aY bD bG (r:bH×aB)=>Jok Tryz.prog 164 2 (BQ ZJ ZK r) (cBv y1 aAs aY bD bG)

def bT7 (p1:List (List Int)) (p2:Int) (x7:Int) (x9:Int) (sV:Int) (tK:Int) (tF:Int) (jJ:(List UInt8)×Int×Int×(List Int)×Int×Int):St:=⟨[(0,.ptr 186 0),(1,.d (.sl 1 (p1.map (cSl 1 cI)))),(2,vI p2),(6,.ptr 6 0),(7,vI x7),(8,.ptr 8 0),(9,vI x9)],[(6,[vI 0,vI 0,vB false,vI 0,vI 0,vS [],vI 0,vI 0,.nil 10,.nil 8]),(8,[vI sV,vI 0,vB false,vI tK,vI tF,vS jJ.1,vI jJ.2.1,vI jJ.2.2.1,.nil 10,.nil 8]),(186,aX (aB.mk jJ.2.2.2.1 jJ.2.2.2.2.1 jJ.2.2.2.2.2))]⟩
abbrev bAj:=fun p1 p2 x7 x9 sV tK tF jJ (r:aA×aB)=>Lok Tryz.prog 165 0 (BQ ZB ZC r) (bT7 p1 p2 x7 x9 sV tK tF jJ)
def bP1 (p1:List (List Int)) (p2:Int) (x9:Int) (qY:Int) (x10:Int) (uF:Int) (tY:Int) (tQ:Int) (jL:(List UInt8)×Int×Int×(List Int)×Int×Int):St:=⟨[(0,.ptr 186 0),(1,.d (.sl 1 (p1.map (cSl 1 cI)))),(2,vI p2),(6,.ptr 6 0),(7,vI qY),(8,.ptr 8 0),(9,vI x9),(10,vI x10)],[(6,[vI 0,vI 0,vB false,vI 0,vI 0,vS [],vI 0,vI 0,.nil 10,.nil 8]),(8,[vI uF,vI 0,vB false,vI tY,vI tQ,vS jL.1,vI jL.2.1,vI jL.2.2.1,.nil 10,.nil 8]),(186,aX (aB.mk jL.2.2.2.1 jL.2.2.2.2.1 jL.2.2.2.2.2))]⟩
abbrev bAs:=fun p1 p2 x9 qY x10 uF tY tQ jL (r:aA×aB)=>Lok Tryz.prog 165 1 (BQ ZB ZC r) (bP1 p1 p2 x9 qY x10 uF tY tQ jL)
def bWd (p1:List (List Int)) (p2:Int) (x9:Int) (x10:Int) (vL:Int) (vQ:Int) (vR:Int) (vH:Int) (mU:(List UInt8)×Int×Int×(List Int)×Int×Int):St:=⟨[(0,.ptr 186 0),(1,.d (.sl 1 (p1.map (cSl 1 cI)))),(2,vI p2),(6,.ptr 6 0),(7,vI vL),(8,.ptr 8 0),(9,vI x9),(10,vI x10)],[(6,[vI 0,vI 0,vB false,vI 0,vI 0,vS [],vI 0,vI 0,.nil 10,.nil 8]),(8,[vI vQ,vI 0,vB false,vI vR,vI vH,vS mU.1,vI mU.2.1,vI mU.2.2.1,.nil 10,.nil 8]),(186,aX (aB.mk mU.2.2.2.1 mU.2.2.2.2.1 mU.2.2.2.2.2))]⟩
abbrev aRx:=fun p1 p2 x9 x10 vL vQ vR vH mU (r:aA×aB)=>Jok Tryz.prog 165 11 (BQ ZB ZC r) (bWd p1 p2 x9 x10 vL vQ vR vH mU)
def bUj (p2:List (List Int)) (p3:Int) (y1:Int×aB) (y2:Bool×aB) (y3:Int×aB) (p1:aP) (x18:Bool):St:=⟨[(0,.ptr 186 0),(2,.d (.sl 1 (p2.map (cSl 1 cI)))),(3,vI p3),(5,.ptr 5 0),(8,.ptr 8 0),(9,vI (QA .i64 (1+y1.1))),(10,vB y2.1),(17,vI y3.1),(18,vB x18)],[(5,fK p1),(8,[vI 0,vI 0,vB false,vI 0,vI 0,vS [],vI 0,vI 0,.nil 10,.nil 8]),(186,aX y3.2)]⟩
abbrev aTk:=fun p2 p3 y1 y2 y3 p1 x18 (r:aA×aB)=>Jok Tryz.prog 167 5 (BQ ZB ZC r) (bUj p2 p3 y1 y2 y3 p1 x18)
def bTu (p2:List (List Int)) (p3:Int) (y1:Int×aB) (p1:aP) (y3:Int×aB):St:=⟨[(0,.ptr 186 0),(2,.d (.sl 1 (p2.map (cSl 1 cI)))),(3,vI p3),(5,.ptr 5 0),(8,.ptr 8 0),(9,vI (QA .i64 (1+y1.1)))],[(5,fK p1),(8,[vI 0,vI 0,vB false,vI 0,vI 0,vS [],vI 0,vI 0,.nil 10,.nil 8]),(186,aX y3.2)]⟩
abbrev aZq:=fun p2 p3 y1 p1 y3 (r:aA×aB)=>Jok Tryz.prog 167 3 (BQ ZB ZC r) (bTu p2 p3 y1 p1 y3)
def bSj (p2:List (List Int)) (p3:Int) (p4:Int) (p5:Int) (p1:aP) (x14:Int) (kN:(List Int)×Int×Int×(List aA)):St:=⟨[(0,.ptr 186 0),(2,.d (.sl 1 (p2.map (cSl 1 cI)))),(3,vI p3),(4,vI p4),(5,vI p5),(7,.ptr 7 0),(13,.tre 411),(14,vI x14)],[(7,fK p1),(186,aX (aB.mk kN.1 kN.2.1 kN.2.2.1)),(411,[.trc 10 (kN.2.2.2.map aJ)])]⟩
abbrev aZx:=fun p2 p3 p4 p5 p1 x14 kN (r:(List aA)×aB)=>Lok Tryz.prog 166 0 (BQ ZH ZI r) (bSj p2 p3 p4 p5 p1 x14 kN)
def cBe (y1:Int×aB) (x6:Int) (cO:List bI) (aY:List Int) (bD:Int) (bG:Int):St:=⟨[(0,.ptr 186 0),(2,.ptr 2 0),(3,.ptr 3 0),(4,.osl 4 9 1 (([[116],[117],[118]]:List (List UInt8)).map cStr)),(5,vI (QA .i64 (1+y1.1))),(6,vI x6)],[(2,[.nil 2]),(3,[.osl 61 112 2 (cO.map fD)]),(186,aX (aB.mk aY bD bG))]⟩
abbrev ZO (y:aP×aB):List (Nat×List V):=[(186,aX y.2)]
abbrev ZN (y:aP×aB):V:=(eZ y.1)
abbrev aSe:=fun y1 x6 cO aY bD bG (r:aP×aB)=>Lok Tryz.prog 80 0 (BQ ZN ZO r) (cBe y1 x6 cO aY bD bG)
def bOo (y1:Int×aB) (x6:Int) (y3:Int×aB) (cO:List bI) (y2:List UInt8) (x9:Int) (lV:(List dL)×(List Int)×Int×Int):St:=⟨[(0,.ptr 186 0),(2,.ptr 2 0),(3,.ptr 3 0),(4,.osl 4 9 1 (([[116],[117],[118]]:List (List UInt8)).map cStr)),(5,vI (QA .i64 (1+y1.1))),(6,vI x6),(7,.ptr 7 0),(8,vI (QA .i64 (1+y3.1))),(9,vI x9)],[(2,[.nil 2]),(3,[.osl 61 112 2 (cO.map fD)]),(7,[vS y2,.osl 55 143 2 (lV.1.map jK)]),(186,aX (aB.mk lV.2.1 lV.2.2.1 lV.2.2.2))]⟩
abbrev bCv:=fun y1 x6 y3 cO y2 x9 lV (r:aP×aB)=>Lok Tryz.prog 80 1 (BQ ZN ZO r) (bOo y1 x6 y3 cO y2 x9 lV)
def cF4 (y1:Int×aB) (x6:Int) (y3:Int×aB) (x9:Int) (cO:List bI) (y2:List UInt8) (rY:List dL) (ky8:(Int×aB)×(List UInt8)×(List Int)×Int×Int):St:=⟨[(0,.ptr 186 0),(2,.ptr 2 0),(3,.ptr 3 0),(4,.osl 4 9 1 (([[116],[117],[118]]:List (List UInt8)).map cStr)),(5,vI (QA .i64 (1+y1.1))),(6,vI x6),(7,.ptr 7 0),(8,vI (QA .i64 (1+y3.1))),(9,vI x9),(10,.ptr 10 0)],[(2,[.nil 2]),(3,[.osl 61 112 2 (cO.map fD)]),(7,[vS y2,.osl 55 143 2 (rY.map jK)]),(10,bEa (dL.mk ky8.2.1 ky8.1.1)),(186,aX (aB.mk ky8.2.2.1 ky8.2.2.2.1 ky8.2.2.2.2))]⟩
abbrev bBg:=fun y1 x6 y3 x9 cO y2 rY ky8 (r:aP×aB)=>Jok Tryz.prog 80 17 (BQ ZN ZO r) (cF4 y1 x6 y3 x9 cO y2 rY ky8)
def cCc (y1:Int×aB) (x6:Int) (y3:Int×aB) (x9:Int) (cO:List bI) (y2:List UInt8) (nW:(List Int)×Int×Int×(List dL)):St:=⟨[(0,.ptr 186 0),(2,.ptr 2 0),(3,.ptr 3 0),(4,.osl 4 9 1 (([[116],[117],[118]]:List (List UInt8)).map cStr)),(5,vI (QA .i64 (1+y1.1))),(6,vI x6),(7,.ptr 7 0),(8,vI (QA .i64 (1+y3.1))),(9,vI x9)],[(2,[.nil 2]),(3,[.osl 61 112 2 (cO.map fD)]),(7,[vS y2,.osl 55 143 2 (nW.2.2.2.map jK)]),(186,aX (aB.mk nW.1 nW.2.1 nW.2.2.1))]⟩
abbrev bAb:=fun y1 x6 y3 x9 cO y2 nW (r:aP×aB)=>Jok Tryz.prog 80 15 (BQ ZN ZO r) (cCc y1 x6 y3 x9 cO y2 nW)
def bPy (p1:aA) (cO:Int) (lQ:Int) (qA:Bool) (V5:Int) (O4:Int) (O6:List UInt8) (H6:Int) (pE:Int) (aY:List Int) (bD:Int) (bG:Int) (N7:List aQ):St:=⟨[(3,.ptr 3 0),(4,.ptr 4 0)],[(3,[vI cO,vI lQ,vB qA,vI V5,vI O4,vS O6,vI H6,vI pE,.tre 189,.tre 485]),(4,[vI 0,vI 0,vB false,vI 0,vI 0,vS [],vI 0,vI 0,.nil 10,.nil 8]),(186,aX (aB.mk aY bD bG)),(189,[.trc 10 (p1.kids.map aJ)]),(485,[.trc 8 (N7.map dJ)])]⟩
abbrev ZP (y:aA×aB):List (Nat×List V):=[(216,[.trc 10 (y.1.kids.map aJ)]),(217,[.trc 8 (y.1.sub.map dJ)]),(186,aX y.2),(189,[.trd]),(190,[.trd])]
abbrev bQ6:=fun p1 cO lQ qA V5 O4 O6 H6 pE aY bD bG N7 (r:aA×aB)=>Jok Tryz.prog 40 6 (BQ ZB ZP r) (bPy p1 cO lQ qA V5 O4 O6 H6 pE aY bD bG N7)
def bNj (cO:Int) (lQ:Int) (qA:List UInt8) (aY:List Int) (bD:Int) (bG:Int):St:=⟨[(2,.ptr 2 0),(3,.ptr 3 0)],[(2,[vI 0,vI 0,vS []]),(3,aM0 (bH.mk cO lQ qA)),(186,aX (aB.mk aY bD bG))]⟩
abbrev cD9:=fun cO lQ qA aY bD bG (r:bH×aB)=>Jok Tryz.prog 86 2 (BQ ZJ ZK r) (bNj cO lQ qA aY bD bG)
def bNq (y1:bH×aB) (qG:List UInt8) (kX:List Int) (vD:Int) (vV:Int):St:=⟨[(0,.ptr 186 0),(2,.ptr 2 0),(3,.ptr 3 0)],[(2,[vI 0,vI 0,vS []]),(3,aM0 (bH.mk y1.1.kind y1.1.num qG)),(186,aX (aB.mk kX vD vV))]⟩
abbrev aTh:=fun y1 qG kX vD vV (r:bH×aB)=>Lok Tryz.prog 86 0 (BQ ZJ ZK r) (bNq y1 qG kX vD vV)
def bMe (cO:List bI) (aY:List Int) (bD:Int) (bG:Int):St:=⟨[(2,.ptr 2 0),(3,.ptr 3 0)],[(2,[.nil 2]),(3,fK (aP.mk cO)),(186,aX (aB.mk aY bD bG))]⟩
abbrev bT6:=fun cO aY bD bG (r:aP×aB)=>Jok Tryz.prog 38 2 (BQ ZN ZO r) (bMe cO aY bD bG)
def bY5 (vK:List Int) (vO:Int) (vN:Int) (mQ:List bI):St:=⟨[(0,.ptr 186 0),(2,.ptr 2 0),(3,.ptr 3 0)],[(2,[.nil 2]),(3,[.tre 460]),(186,aX (aB.mk vK vO vN)),(460,[.trc 2 (mQ.map fD)])]⟩
abbrev aW9:=fun vK vO vN mQ (r:aP×aB)=>Lok Tryz.prog 38 0 (BQ ZN ZO r) (bY5 vK vO vN mQ)

def cFa (p1:Int) (x5:List Int) (x6:Int) (aY:List Int) (bD:Int) (bG:Int):St:=⟨[(0,.ptr 186 0),(1,vI p1),(5,.osl 5 5 1 (x5.map cU8)),(6,vI x6)],[(186,aX (aB.mk aY bD bG))]⟩
abbrev ZQ (y:(List Int)×aB):V:=(.osl 188 5 1 (y.1.map cU8))
abbrev aY3:=fun p1 x5 x6 aY bD bG (r:(List Int)×aB)=>Lok Tryz.prog 91 0 (BQ ZQ (fun (y:(List Int)×aB)=>[(186,aX y.2)]) r) (cFa p1 x5 x6 aY bD bG)

def bW4 (y1:Int×aB) (x6:Int) (aY:List Int) (bD:Int) (bG:Int) (jY:List bI) (jQ:List (List UInt8)):St:=⟨[(0,.ptr 186 0),(2,.ptr 2 0),(3,.ptr 3 0),(4,.tre 421),(5,vI (QA .i64 (1+y1.1))),(6,vI x6)],[(2,[.nil 2]),(3,[.tre 422]),(186,aX (aB.mk aY bD bG)),(422,[.trc 2 (jY.map fD)]),(421,[.trc 1 (jQ.map cStr)])]⟩
abbrev ZT (y:aP×aB):List (Nat×List V):=[(210,[.trc 2 (y.1.tables.map fD)]),(186,aX y.2)]
abbrev ZS (y:aP×aB):V:=(.agv [.tre 210])
abbrev aWv:=fun y1 x6 aY bD bG jY jQ (r:aP×aB)=>Lok Tryz.prog 80 0 (BQ ZS ZT r) (bW4 y1 x6 aY bD bG jY jQ)
def bWr (y1:Int×aB) (x6:Int) (y3:Int×aB) (y2:List UInt8) (jY:List bI) (jQ:List (List UInt8)) (kx9:Int×(List Int)×Int×Int×(List dL)):St:=⟨[(0,.ptr 186 0),(2,.ptr 2 0),(3,.ptr 3 0),(4,.tre 434),(5,vI (QA .i64 (1+y1.1))),(6,vI x6),(7,.ptr 7 0),(8,vI (QA .i64 (1+y3.1))),(9,vI kx9.1)],[(2,[.nil 2]),(3,[.tre 435]),(7,[vS y2,.tre 436]),(186,aX (aB.mk kx9.2.1 kx9.2.2.1 kx9.2.2.2.1)),(436,[.trc 2 (kx9.2.2.2.2.map jK)]),(435,[.trc 2 (jY.map fD)]),(434,[.trc 1 ((jQ.set (x6).toNat y2).map cStr)])]⟩
abbrev bCb:=fun y1 x6 y3 y2 jY jQ kx9 (r:aP×aB)=>Lok Tryz.prog 80 1 (BQ ZS ZT r) (bWr y1 x6 y3 y2 jY jQ kx9)
def cE1 (y1:Int×aB) (x6:Int) (y3:Int×aB) (x9:Int) (y2:List UInt8) (y8:Int×aB) (rX:List dL) (kJ:(List bI)×(((List (List UInt8))×(List UInt8)×(List Int)×Int×Int))):St:=⟨[(0,.ptr 186 0),(2,.ptr 2 0),(3,.ptr 3 0),(4,.tre 457),(5,vI (QA .i64 (1+y1.1))),(6,vI x6),(7,.ptr 7 0),(8,vI (QA .i64 (1+y3.1))),(9,vI x9),(10,.ptr 10 0)],[(2,[.nil 2]),(3,[.tre 458]),(7,[vS y2,.tre 459]),(10,bEa (dL.mk kJ.2.2.1 y8.1)),(186,aX (aB.mk kJ.2.2.2.1 kJ.2.2.2.2.1 kJ.2.2.2.2.2)),(459,[.trc 2 (rX.map jK)]),(458,[.trc 2 (kJ.1.map fD)]),(457,[.trc 1 ((kJ.2.1.set (x6).toNat y2).map cStr)])]⟩
abbrev aX8:=fun y1 x6 y3 x9 y2 y8 rX kJ (r:aP×aB)=>Jok Tryz.prog 80 17 (BQ ZS ZT r) (cE1 y1 x6 y3 x9 y2 y8 rX kJ)
def bXr (y1:Int×aB) (x6:Int) (y3:Int×aB) (x9:Int) (y2:List UInt8) (vE:List Int) (nL:Int×Int×(List bI)×(((List (List UInt8))×(List dL)))):St:=⟨[(0,.ptr 186 0),(2,.ptr 2 0),(3,.ptr 3 0),(4,.tre 476),(5,vI (QA .i64 (1+y1.1))),(6,vI x6),(7,.ptr 7 0),(8,vI (QA .i64 (1+y3.1))),(9,vI x9)],[(2,[.nil 2]),(3,[.tre 477]),(7,[vS y2,.tre 478]),(186,aX (aB.mk vE nL.1 nL.2.1)),(478,[.trc 2 (nL.2.2.2.2.map jK)]),(477,[.trc 2 (nL.2.2.1.map fD)]),(476,[.trc 1 ((nL.2.2.2.1.set (x6).toNat y2).map cStr)])]⟩
abbrev aWs:=fun y1 x6 y3 x9 y2 vE nL (r:aP×aB)=>Jok Tryz.prog 80 15 (BQ ZS ZT r) (bXr y1 x6 y3 x9 y2 vE nL)

def bUv (y3:aQ×aB) (aY:List Int) (bD:Int) (bG:Int) (J7:List Int) (U4:List (List aA)) (R4:List aA) (L9:List aA) (L6:List (List UInt8)):St:=⟨[(4,.ptr 4 0),(5,.ptr 5 0)],[(4,[.nil 1,.nil 1,.nil 10,.nil 11,.nil 10,.nil 1,vB false,vI 0]),(5,[.tre 463,.tre 464,.tre 465,.tre 466,.tre 467,.tre 468,vB y3.1.distinct,vI y3.1.limit]),(186,aX (aB.mk aY bD bG)),(463,[.trc 1 (J7.map cI)]),(464,[.trc 1 (U4.map (cSl 10 aJ))]),(465,[.trc 10 (R4.map aJ)]),(466,[.trc 11 (y3.1.order.map bV)]),(467,[.trc 10 (L9.map aJ)]),(468,[.trc 1 (L6.map cStr)])]⟩
abbrev cB7:=fun y3 aY bD bG J7 U4 R4 L9 L6 (r:aQ×aB)=>Jok Tryz.prog 39 2 (BQ ZD ZE r) (bUv y3 aY bD bG J7 U4 R4 L9 L6)

theorem bR7 (x:dL) (h:∀ d ∈ jK x,OkD d):okGCol x:=⟨wB _ (eF h 0 1),mX _ (eF h 1 1)⟩
theorem bYs (x:bI) (h:∀ d ∈ fD x,OkD d):okGTable x:=⟨wB _ (eF h 0 1),aDv _ (fun y hy=>bR7 y hy) (eF h 1 1)⟩
theorem bJ2 (x:aP) (h:∀ d ∈ aSs x,OkD d):okGCatalog x:=aDv _ (fun y hy=>bYs y hy) (eF h 0 1)
theorem bI0 (x:bH) (h:∀ d ∈ aCx x,OkD d):okGValue x:=⟨mX _ (eF h 0 1),mX _ (eF h 1 1),wB _ (eF h 2 1)⟩
mutual
theorem bGd:∀ x:aA,(∀ d ∈ aJ x,OkD d)→okGPExpr x
  | ⟨a0,a1,a2,a3,a4,a5,a6,a7⟩,h0=>by
    rw [iE] at h0
    have h:∀ d ∈ iZ ⟨a0,a1,a2,a3,a4,a5,a6,a7⟩,OkD d:=h0
    unfold okGPExpr
    exact ⟨mX _ (eF h 0 1),mX _ (eF h 1 1),trivial,bI0 a3 (eF h 3 3),mX _ (eF h 6 1),mX _ (eF h 7 1),⟨by simpa using (lG (eF h 8 1)).1,aK1 a6 (lG (eF h 8 1)).2⟩,⟨by simpa using (lG (eF h 9 1)).1,bH9 a7 (lG (eF h 9 1)).2⟩⟩
theorem bSw:∀ x:bN,(∀ d ∈ bV x,OkD d)→okGPSort x
  | ⟨a0,a1⟩,h0=>by
    rw [aCj] at h0
    have h:∀ d ∈ vC ⟨a0,a1⟩,OkD d:=h0
    unfold okGPSort
    exact ⟨bGd a0 (by rw [iE]; exact (eF h 0 10)),trivial⟩
theorem bMv:∀ x:aQ,(∀ d ∈ dJ x,OkD d)→okGPlan x
  | ⟨a0,a1,a2,a3,a4,a5,a6,a7⟩,h0=>by
    rw [aAa] at h0
    have h:∀ d ∈ wO ⟨a0,a1,a2,a3,a4,a5,a6,a7⟩,OkD d:=h0
    unfold okGPlan
    exact ⟨aDv _ (fun y hy=>mX _ hy) (eF h 0 1),⟨by simpa using (lG (eF h 1 1)).1,bJg a1 (lG (eF h 1 1)).2⟩,⟨by simpa using (lG (eF h 2 1)).1,aK1 a2 (lG (eF h 2 1)).2⟩,⟨by simpa using (lG (eF h 3 1)).1,bGl a3 (lG (eF h 3 1)).2⟩,⟨by simpa using (lG (eF h 4 1)).1,aK1 a4 (lG (eF h 4 1)).2⟩,aDv _ (fun y hy=>wB _ hy) (eF h 5 1),trivial,mX _ (eF h 7 1)⟩
theorem aK1:∀ l:List aA,(∀ x ∈ l.map aJ,∀ d ∈ x,OkD d)→okLGPExpr l
  | [],_=>by unfold okLGPExpr; trivial
  | x::l,h=>by
    unfold okLGPExpr
    exact ⟨bGd x (h _ (by simp)),aK1 l fun y hy=>h y (QD _ hy)⟩
theorem bGl:∀ l:List bN,(∀ x ∈ l.map bV,∀ d ∈ x,OkD d)→okLGPSort l
  | [],_=>by unfold okLGPSort; trivial
  | x::l,h=>by
    unfold okLGPSort
    exact ⟨bSw x (h _ (by simp)),bGl l fun y hy=>h y (QD _ hy)⟩
theorem bH9:∀ l:List aQ,(∀ x ∈ l.map dJ,∀ d ∈ x,OkD d)→okLGPlan l
  | [],_=>by unfold okLGPlan; trivial
  | x::l,h=>by
    unfold okLGPlan
    exact ⟨bMv x (h _ (by simp)),bH9 l fun y hy=>h y (QD _ hy)⟩
theorem bJg:∀ l:List (List aA),(∀ x ∈ l.map (cSl 10 aJ),∀ d ∈ x,OkD d)→okLLGPExpr l
  | [],_=>by unfold okLLGPExpr; trivial
  | x::l,h=>by
    unfold okLLGPExpr
    have h1:∀ d ∈ cSl 10 aJ x,OkD d:=h _ (by simp)
    exact ⟨⟨by simpa using (lG h1).1,aK1 x (lG h1).2⟩,bJg l fun y hy=>h y (QD _ hy)⟩
end
mutual
theorem aXa:∀ x:aL,(∀ d ∈ bP x,OkD d)→okGExpr x
  | ⟨a0,a1,a2,a3,a4,a5,a6,a7⟩,h0=>by
    rw [sG] at h0
    have h:∀ d ∈ oV ⟨a0,a1,a2,a3,a4,a5,a6,a7⟩,OkD d:=h0
    unfold okGExpr
    exact ⟨mX _ (eF h 0 1),mX _ (eF h 1 1),trivial,bI0 a3 (eF h 3 3),wB _ (eF h 6 1),wB _ (eF h 7 1),⟨by simpa using (lG (eF h 8 1)).1,aM9 a6 (lG (eF h 8 1)).2⟩,⟨by simpa using (lG (eF h 9 1)).1,bI1 a7 (lG (eF h 9 1)).2⟩⟩
theorem bO0:∀ x:dU,(∀ d ∈ kY x,OkD d)→okGItem x
  | ⟨a0,a1,a2,a3⟩,h0=>by
    rw [aQ0] at h0
    have h:∀ d ∈ aBb ⟨a0,a1,a2,a3⟩,OkD d:=h0
    unfold okGItem
    exact ⟨trivial,wB _ (eF h 1 1),aXa a2 (by rw [sG]; exact (eF h 2 10)),wB _ (eF h 12 1)⟩
theorem bW1:∀ x:aV,(∀ d ∈ kT x,OkD d)→okGQuery x
  | ⟨a0,a1,a2,a3,a4,a5⟩,h0=>by
    rw [aQ6] at h0
    have h:∀ d ∈ aAt ⟨a0,a1,a2,a3,a4,a5⟩,OkD d:=h0
    unfold okGQuery
    exact ⟨trivial,⟨by simpa using (lG (eF h 1 1)).1,bEx a1 (lG (eF h 1 1)).2⟩,⟨by simpa using (lG (eF h 2 1)).1,bEd a2 (lG (eF h 2 1)).2⟩,⟨by simpa using (lG (eF h 3 1)).1,aM9 a3 (lG (eF h 3 1)).2⟩,⟨by simpa using (lG (eF h 4 1)).1,bDm a4 (lG (eF h 4 1)).2⟩,mX _ (eF h 5 1)⟩
theorem bV1:∀ x:eH,(∀ d ∈ jX x,OkD d)→okGSortKey x
  | ⟨a0,a1⟩,h0=>by
    rw [aGo] at h0
    have h:∀ d ∈ wP ⟨a0,a1⟩,OkD d:=h0
    unfold okGSortKey
    exact ⟨aXa a0 (by rw [sG]; exact (eF h 0 10)),trivial⟩
theorem bXe:∀ x:bZ,(∀ d ∈ jG x,OkD d)→okGSource x
  | ⟨a0,a1,a2⟩,h0=>by
    rw [aPp] at h0
    have h:∀ d ∈ aBd ⟨a0,a1,a2⟩,OkD d:=h0
    unfold okGSource
    exact ⟨wB _ (eF h 0 1),wB _ (eF h 1 1),⟨by simpa using (lG (eF h 2 1)).1,aM9 a2 (lG (eF h 2 1)).2⟩⟩
theorem aM9:∀ l:List aL,(∀ x ∈ l.map bP,∀ d ∈ x,OkD d)→okLGExpr l
  | [],_=>by unfold okLGExpr; trivial
  | x::l,h=>by
    unfold okLGExpr
    exact ⟨aXa x (h _ (by simp)),aM9 l fun y hy=>h y (QD _ hy)⟩
theorem bEx:∀ l:List dU,(∀ x ∈ l.map kY,∀ d ∈ x,OkD d)→okLGItem l
  | [],_=>by unfold okLGItem; trivial
  | x::l,h=>by
    unfold okLGItem
    exact ⟨bO0 x (h _ (by simp)),bEx l fun y hy=>h y (QD _ hy)⟩
theorem bI1:∀ l:List aV,(∀ x ∈ l.map kT,∀ d ∈ x,OkD d)→okLGQuery l
  | [],_=>by unfold okLGQuery; trivial
  | x::l,h=>by
    unfold okLGQuery
    exact ⟨bW1 x (h _ (by simp)),bI1 l fun y hy=>h y (QD _ hy)⟩
theorem bDm:∀ l:List eH,(∀ x ∈ l.map jX,∀ d ∈ x,OkD d)→okLGSortKey l
  | [],_=>by unfold okLGSortKey; trivial
  | x::l,h=>by
    unfold okLGSortKey
    exact ⟨bV1 x (h _ (by simp)),bDm l fun y hy=>h y (QD _ hy)⟩
theorem bEd:∀ l:List bZ,(∀ x ∈ l.map jG,∀ d ∈ x,OkD d)→okLGSource l
  | [],_=>by unfold okLGSource; trivial
  | x::l,h=>by
    unfold okLGSource
    exact ⟨bXe x (h _ (by simp)),bEd l fun y hy=>h y (QD _ hy)⟩
end
theorem cAz (x:eG) (h:∀ d ∈ aUn x,OkD d):okGRFault x:=⟨mX _ (eF h 0 1),wB _ (eF h 1 1)⟩
theorem cJ1 (x:kR) (h:∀ d ∈ aYi x,OkD d):okGUndoer x:=bJ2 x.c (eF h 0 1)
theorem cGd (x:mJ) (h:∀ d ∈ aV0 x,OkD d):okGForm x:=⟨trivial,trivial,trivial,trivial,mX _ (eF h 4 1),mX _ (eF h 5 1),mX _ (eF h 6 1)⟩
theorem bMn (x:bJ) (h:∀ d ∈ dZ x,OkD d):okGNamed x:=⟨wB _ (eF h 0 1),wB _ (eF h 1 1),mX _ (eF h 2 1)⟩
theorem cHl (x:aB) (h:∀ d ∈ bBr x,OkD d):okGL1Cur x:=⟨aDv _ (fun y hy=>bFi _ hy) (eF h 0 1),mX _ (eF h 1 1),mX _ (eF h 2 1)⟩
theorem cG9 (x:bF) (h:∀ d ∈ nT x,OkD d):okGScope x:=aDv _ (fun y hy=>bMn y hy) (eF h 0 1)
theorem cJb (x:bA) (h:∀ d ∈ aUs x,OkD d):okGResolver x:=⟨bJ2 x.c (eF h 0 1),cAz x.fault (eF h 1 2)⟩
theorem cGp (x:wF) (h:∀ d ∈ bB5 x,OkD d):okGBind x:=⟨mX _ (eF h 0 1),mX _ (eF h 1 1),mX _ (eF h 2 1)⟩
theorem de5 {l:List D} (h:WtC Tryz.prog 5 l):∃ x:Int,l=cU8 x:=(bRc h (k:=.u8) kr)
theorem cEz {l:List D} (h:WtC Tryz.prog 22 l):∃ x:(List Int),l=(cSl 1 cU8) x:=(bUk h (e:=5) (n:=1) (c:=cU8) kr kr fun x hx=>de5 hx)
theorem cBg (p0:List (List bJ)):dN Tryz.prog 45 [.d (.sl 1 (p0.map (cSl 3 dZ)))] [] (fun (y:List (List bJ))=>(.osl 188 107 1 (y.map (cSl 3 dZ)))) (fun (y:List (List bJ))=>[]) (aKg p0):=by
 refine aoB fun r h=>?_;rw [aKg] at h;refine aO (.eqn 4 false 3) (bM1 (sz:=1) (l:=p0) (f:=(cSl 3 dZ)) h kr kr (fun hl h=>oC ?_) fun hl h=>?_);refine aO1 ?_;refine aO (.bsl 5 107 1 []) (eT (l:=([]:List (List bJ))) (f:=(cSl 3 dZ)) (g:=(cSl 3 dZ)) kr (fun _=>rfl) kr (oC ?_));exact aq' 5 (cSl 3 dZ) h fun y1 h=>(rw' (s':=⟨[(2,.osl 188 107 1 (y1.map (cSl 3 dZ)))],[]⟩) (wr [(188,.old 2)] (eo 2 jO) bM) (rb' h))
 subst hl
 refine ⟨oC ?_,oC ?_⟩
 replace h:((appG 24 ([]:List (List bJ)) ([]:List (List bJ)))>>=fun (y2:List (List bJ))=>some y2:Option (List (List bJ)))=some r:=h
 refine aO1 ?_;refine aO (.bsl 5 107 1 []) (eT (l:=([]:List (List bJ))) (f:=(cSl 3 dZ)) (g:=(cSl 3 dZ)) kr (fun _=>rfl) kr (oC ?_));exact aq' 5 (cSl 3 dZ) h fun y2 h=>(rw' (s':=⟨[(2,.osl 188 107 1 (y2.map (cSl 3 dZ)))],[]⟩) (wr [(188,.old 2)] (eo 2 jO) bM) (rb' h));exact bG4 (rw' (s':=⟨[(2,.osl 188 107 1 (([]:List (List bJ)).map (cSl 3 dZ)))],[]⟩) (wr [(188,.new 107 1)] (en jO) bM) (rb' h))
theorem bQ8 (p0:Int):FOk Tryz.prog 141 [vI p0] (fun y=>(vS y)) (aId p0):=by
 intro r h
 rw [aId] at h;injection h with h
 subst h
 exact bPu (ρ:=sh171_ren) sh171 kr kr (.head _) p0
theorem aUi (p0:Int):FOk Tryz.prog 99 [vI p0] (fun y=>(vS y)) (aD4 p0):=by
 refine aoP fun r h=>?_;rw [aD4] at h;exact cs' h (bQ8 _) fun y1 h=>(rp' h)
abbrev ZU (y:List UInt8):V:=(vS y)
theorem bDd (p0:Int) (p1:Int):FOk Tryz.prog 48 [vI p0,vI p1] (fun y=>(vS y)) (aDn p0 p1):=by
 refine aoP fun r h=>?_;rw [aDn] at h;refine cs' h (aUi _) fun y1 h=>?_;refine aO (.bin 7 .add (.c (.d (.s (bs [113])))) 6) (vs ZU h (fun y hy=>uI (a:=[113]) (b:=y1) hy kr kr kr) fun y2 h=>oC ?_);refine aO (.bin 8 .add 7 (.c (.d (.s (bs [95]))))) (vs ZU h (fun y hy=>uI (a:=y2) (b:=[95]) hy kr kr kr) fun y3 h=>oC ?_);refine cs' h (aUi _) fun y4 h=>?_;refine aO (.bin 11 .add 8 10) (vs ZU h (fun y hy=>uI (a:=y3) (b:=y4) hy kr kr kr) fun y5 h=>oC ?_);exact rp' h
abbrev bKq (p1) (p2) (p0):=aB7.mutual_partial_correctness p1 p2 p0 (fun x15 y2=>aY8 p1 x15 p2 y2 p0) (aYs p1 p2 p0) (by intro bPv cIu aLp aYr x15 y2 jW x28 r h;refine Lok.un ?_;refine cd' h ?_ ?_<;>intro h;refine iq' h fun y4 h=>(cs' h (bDd _ _) fun y5 h=>?_);refine dO (.bsl 39 160 3 [38]) (aGr (l:=([bJ.mk y5 y4.name 0]:List bJ)) (f:=dZ) (g:=dZ) kr (fun _=>rfl) (dC ?_));refine aMv 7 [7,32] [] dZ h fun y6 h=>?_;refine dO (.asg 7 40) (aJd (t:=40) (e:=160) (sz:=3) (l:=y6.map dZ) [7,32,40] [] kr kr  rfl (dC ?_));exact lb' (aLp _ _ _ _ _ h) (wr [(7,.old 7)] (es (es (eo 7 eS))) bS);exact lb' (aYr _ _ _ h) (wr [(7,.old 7)] (es (es (eo 7 eS))) bS)) (by intro bPv aLp x7 x15 r h;refine Lok.un ?_;refine cd' h ?_ ?_<;>intro h;refine kH cI h fun y1 h=>(iq' h fun y2 h=>(lq' y2.cols ?_));exact lb' (aLp _ _ _ _ _ h) (wr [(7,.old 7)] (es (es (eo 7 eS))) bS);exact rw' (s':=⟨[(6,.osl 188 160 3 (x7.map dZ))],[]⟩) (wr [(188,.old 6)] (eo 6 jO) bM) (rb' h))
abbrev aLp:=fun p1 x15 p2 y2 p0=>(bKq p1 p2 p0).1 x15 y2
abbrev aYr:=fun p1 p2 p0=>(bKq p1 p2 p0).2
theorem cCr (p0:kR) (p1:Int) (p2:List Int):dN Tryz.prog 46 [A9 p0,vI p1,jI p2] [] Zh Zi (aIt p0 p1 p2):=by
 refine aoB fun r h=>?_;rw [aIt] at h;refine aO (.bsl 12 160 3 []) (eT (l:=([]:List bJ)) (f:=dZ) (g:=dZ) kr (fun _=>rfl) kr (oC ?_));exact lW cI p2 (lb' (aYr _ _ _ _ _ _ h) (wr [(7,.old 7)] (es (es (eo 7 eS))) bS))
abbrev aBp (p0):=yO.mutual_partial_correctness p0 (fun p2 y3 p3=>aT3 p2 y3 p3 p0) (fun p1 p2 p3 r=>bC Tryz.prog 49 [A9 p0,.d (.sl 1 (p1.map (cSl 3 dZ))),vI p2,jA p3] [] (BQ Zl Zm r)) (fun p1 p2 p3=>aX7 p1 p2 p3 p0) (fun p1 p2 p3 r=>bC Tryz.prog 14 [A9 p0,.d (.sl 1 (p1.map (cSl 3 dZ))),vI p2,iC p3] [] (BQ Zf Zg r)) (fun p2 y3 p3=>aT2 p2 y3 p3 p0) (fun p2 y3 p3=>aXw p2 y3 p3 p0) (fun p1 p2 p3 r=>bC Tryz.prog 47 [A9 p0,.d (.sl 1 (p1.map (cSl 3 dZ))),vI p2,gY p3] [] (BQ Zj Zk r)) (fun p1 p2 p3=>aZy p1 p2 p3 p0) (by intro cBk bDw aOn aEz p2 y3 p3 qU bR y4 kx96 r h;refine Lok.un ?_;refine cd' h ?_ ?_<;>intro h;refine iq' h fun y14 h=>(fM ⟨[],[],[],[],[],[],[(216,397),(217,398)],[],[]⟩ [] [] h (aEz _ _ _) fun y15 h=>(iq' h fun y16 h=>?_));refine dO (.bld 113 [fJ,fC,aR,aR,fJ,aR,aR,fC,fC,fC,.nil 10,.nil 6,fC] [(2,10,107),(12,1,112)]) (oL (c:=[vB false,vS [],vI y15.kind,vI y15.op,vB y15.not_,vI y15.value.kind,vI y15.value.num,vS y15.value.text,vS y15.qual,vS y15.name,.tre 397,.tre 398,vS y16]) kr kr rfl (dC ?_));refine dO (.bsl 114 66 13 [113]) (lC (l:=([dU.mk false [] y15 y16]:List dU)) (f:=kY) (g:=aBb) [397,398] kr aQ0 kr rfl (dC ?_));refine dO (.app 115 66 13 176 102 114) (lJ (l:=kx96.2) (m:=([dU.mk false [] y15 y16]:List dU)) (f:=kY) [495] [114] h kr kr kr kr (fun _=>rfl) fun y17 h=>dC ?_);exact lb' (aOn _ _ _ _ _ _ (_,_) _ h) (tw [.rn [(115,495)]] (wr [(9,.old 9)] (es (es (es (es (eo 9 eS))))) bS));refine rw' (s':=⟨[(8,.ptr 8 0)],[(8,[vB p3.distinct,.tre 211,.tre 212,.tre 213,.tre 214,vI p3.limit]),(211,[.trc 13 (kx96.2.map kY)]),(214,[.trc 11 (qU.map jX)]),(212,[.trc 3 (bR.map jG)]),(213,[.trc 10 (y4.map bP)])]⟩) (tw [.rn [(495,211),(496,212),(497,213),(498,214)]] (wr [] eS bS)) ?_;exact rb' h) (by intro bZa bGk aNy aGf p1 p2 p3 r h;refine ao' ?_;refine aO (.bld 21 [aR,aR,fJ,aR,aR,fC,fC,fC,.nil 10,.nil 6] [(0,1,14),(1,1,16),(2,1,18),(3,3,20)]) (gK (c:=[vI p3.kind,vI p3.op,vB p3.not_,vI p3.value.kind,vI p3.value.num,vS p3.value.text,vS [],vS [],.nil 10,.nil 6]) kr kr rfl (oC ?_));refine cd' h ?_ ?_<;>intro h;refine lq' p1 (iq' h fun y1 h=>(iq' h fun y2 h=>?_));refine rw' (s':=⟨[(8,.ptr 8 0)],[(8,[vI p3.kind,vI p3.op,vB p3.not_,vI p3.value.kind,vI p3.value.num,vS p3.value.text,vS y2.qual,vS y2.name,.tre 216,.tre 217]),(217,[.trc 6 (([]:List aV).map kT)]),(216,[.trc 10 (([]:List aL).map bP)])]⟩) (tw [.nb 8 8 216,.nb 8 9 217] (wr [] eS bS)) ?_;exact rb' h;refine cg' ⟨[],[],[],[],[],[],[(210,320)],[],[]⟩ h (aGf _ _ _) fun y3 h=>(lq' p3.sub ?_);exact lb' (aNy _ _ _ _ _ _ _ h) (tw [.rn [(320,448)],.nb 9 9 449] (wr [] eS bS))) (by intro bZa cIy aNy aZo p1 p2 p3 y3 x55 pG r h;refine Lok.un ?_;refine cd' h ?_ ?_<;>intro h;refine iq' h fun y4 h=>(fM ⟨[],[],[],[],[],[],[(211,344),(212,345),(213,346),(214,347)],[],[]⟩ [] [] h (aZo _ _ _) fun y5 h=>?_);refine dO (.bsl 67 41 6 [66]) (lC (l:=([y5]:List aV)) (f:=kT) (g:=aAt) [344,345,346,347] kr aQ6 kr rfl (dC ?_));refine dO (.app 68 41 6 112 60 67) (lJ (l:=pG) (m:=([y5]:List aV)) (f:=kT) [449] [67] h kr kr kr kr (fun _=>rfl) fun y6 h=>dC ?_);exact lb' (aNy _ _ _ _ _ _ _ h) (tw [.rn [(68,449)]] (wr [] eS bS));refine rw' (s':=⟨[(8,.ptr 8 0)],[(8,[vI p3.kind,vI p3.op,vB p3.not_,vI p3.value.kind,vI p3.value.num,vS p3.value.text,vS [],vS [],.tre 216,.tre 217]),(217,[.trc 6 (pG.map kT)]),(216,[.trc 10 (y3.map bP)])]⟩) (tw [.rn [(448,216),(449,217)]] (wr [] eS bS)) ?_;exact rb' h) (by intro bUy bGk aRr aGf p1 p2 p3 r h;refine ao' (fM ⟨[],[],[],[],[],[(188,18)],[],[18],[]⟩ [] [] h (cBg _) fun y1 h=>(fM ⟨[],[],[],[],[],[(188,23)],[],[23],[]⟩ [] [] h (cCr _ _ _) fun y2 h=>?_));refine dO (.bsl 24 107 1 [23]) (aGr (l:=([y2]:List (List bJ))) (f:=(cSl 3 dZ)) (g:=(cSl 3 dZ)) kr (fun _=>rfl) (dC ?_));refine aMv 18 [18] [] (cSl 3 dZ) h fun y3 h=>?_;refine dO (.asg 9 25) (aJd (t:=25) (e:=107) (sz:=1) (l:=y3.map (cSl 3 dZ)) [25] [] kr kr  rfl (dC ?_));refine fM ⟨[],[],[],[],[],[],[(210,276)],[],[]⟩ [] [] h (aGf _ _ _) fun y4 h=>?_;refine dO (.bld 36 [fJ,.nil 13,.nil 3,.nil 10,.nil 11,aR] [(0,1,27),(5,1,29),(3,1,35)]) (oL (c:=[vB p3.distinct,.nil 13,.nil 3,.tre 276,.nil 11,vI p3.limit]) kr kr rfl (dC ?_));refine lW cI p3.tables ?_;exact lb' (aRr _ _ _ _ _ _ _ h) (tw [.rn [(276,427)],.nb 10 2 426] (wr [(9,.old 9)] (es (es (es (es (eo 9 eS))))) bS))) (by intro bUy bX3 bGk aRr aQf aGf p2 y3 p3 y4 x40 bR r h;refine Lok.un ?_;refine cd' h ?_ ?_<;>intro h;refine kH cI h fun y5 h=>(iq' h fun y6 h=>(cs' h (bDd _ _) fun y7 h=>(iq' h fun y8 h=>(fM ⟨[],[],[],[],[],[],[(210,329)],[],[]⟩ [] [] h (aGf _ _ _) fun y9 h=>?_))));refine dO (.bld 66 [fC,fC,.nil 10] [(0,1,53),(1,1,56),(2,1,65)]) (oL (c:=[vS y6.name,vS y7,.tre 329]) kr kr rfl (dC ?_));refine dO (.bsl 67 69 3 [66]) (lC (l:=([bZ.mk y6.name y7 y9]:List bZ)) (f:=jG) (g:=aBd) [329] kr aPp kr rfl (dC ?_));refine dO (.app 68 69 3 56 46 67) (lJ (l:=bR) (m:=([bZ.mk y6.name y7 y9]:List bZ)) (f:=jG) [426] [67] h kr kr kr kr (fun _=>rfl) fun y10 h=>dC ?_);exact lb' (aRr _ _ _ _ _ _ _ h) (tw [.rn [(68,426)]] (wr [(9,.old 9)] (es (es (es (es (eo 9 eS))))) bS));refine lq' p3.order ?_;exact lb' (aQf _ _ _ _ _ (_,_) _ h) (tw [.rn [(426,469),(427,470)],.nb 10 4 471] (wr [(9,.old 9)] (es (es (es (es (eo 9 eS))))) bS))) (by intro cBk bDw bX3 aOn aEz aQf p2 y3 p3 bR y4 kx74 r h;refine Lok.un ?_;refine cd' h ?_ ?_<;>intro h;refine iq' h fun y11 h=>(fM ⟨[],[],[],[],[],[],[(216,356),(217,357)],[],[]⟩ [] [] h (aEz _ _ _) fun y12 h=>?_);refine dO (.bld 88 [aR,aR,fJ,aR,aR,fC,fC,fC,.nil 10,.nil 6,fJ] [(0,10,85),(10,1,87)]) (oL (c:=[vI y12.kind,vI y12.op,vB y12.not_,vI y12.value.kind,vI y12.value.num,vS y12.value.text,vS y12.qual,vS y12.name,.tre 356,.tre 357,vB y11.desc]) kr kr rfl (dC ?_));refine dO (.bsl 89 71 11 [88]) (lC (l:=([eH.mk y12 y11.desc]:List eH)) (f:=jX) (g:=wP) [356,357] kr aGo kr rfl (dC ?_));refine dO (.app 90 71 11 144 79 89) (lJ (l:=kx74.2) (m:=([eH.mk y12 y11.desc]:List eH)) (f:=jX) [471] [89] h kr kr kr kr (fun _=>rfl) fun y13 h=>dC ?_);exact lb' (aQf _ _ _ _ _ (_,_) _ h) (tw [.rn [(90,471)]] (wr [(9,.old 9)] (es (es (es (es (eo 9 eS))))) bS));refine lq' p3.items ?_;exact lb' (aOn _ _ _ _ _ _ (_,_) _ h) (tw [.rn [(469,496),(470,497),(471,498)],.nb 10 1 495] (wr [(9,.old 9)] (es (es (es (es (eo 9 eS))))) bS))) (by intro cAs aQs p1 p2 p3 r h;refine ao' ?_;refine aO (.bsl 12 64 10 []) (iW (l:=([]:List aL)) (f:=bP) (g:=oV) [] kr sG kr rfl (oC ?_));exact lq' p3 (lb' (aQs _ _ _ _ _ _ h) (tw [.rn [(12,415)]] (wr [] eS bS)))) (by intro bDw cAs aEz aQs p1 p2 p3 x15 qB r h;refine Lok.un ?_;refine cd' h ?_ ?_<;>intro h;refine iq' h fun y1 h=>(cg' ⟨[],[],[],[],[],[],[(216,293),(217,294)],[],[]⟩ h (aEz _ _ _) fun y2 h=>?_);refine aO (.bsl 25 64 10 [24]) (iW (l:=([y2]:List aL)) (f:=bP) (g:=oV) [293,294] kr sG kr rfl (oC ?_));refine aO (.app 26 64 10 136 19 25) (oQ (l:=qB) (m:=([y2]:List aL)) (f:=bP) [415] [25] h kr kr kr kr (fun _=>rfl) fun y3 h=>oC ?_);exact lb' (aQs _ _ _ _ _ _ h) (tw [.rn [(26,415)]] (wr [] eS bS));exact rw' (s':=⟨[(8,.tre 210)],[(210,[.trc 10 (qB.map bP)])]⟩) (tw [.rn [(415,210)]] (wr [] eS bS)) (rb' h))
abbrev aOn:=fun p2 y3 p3 p0=>(aBp p0).1 p2 y3 p3
theorem aEz (p0:kR) (p1:List (List bJ)) (p2:Int) (p3:aA):dN Tryz.prog 49 [A9 p0,.d (.sl 1 (p1.map (cSl 3 dZ))),vI p2,jA p3] [] Zl Zm (xZ p0 p1 p2 p3):=fun r h=>(aBp p0).2.1 p1 p2 p3 r h
abbrev aNy:=fun p1 p2 p3 p0=>(aBp p0).2.2.1 p1 p2 p3
theorem aZo (p0:kR) (p1:List (List bJ)) (p2:Int) (p3:aQ):dN Tryz.prog 14 [A9 p0,.d (.sl 1 (p1.map (cSl 3 dZ))),vI p2,iC p3] [] Zf Zg (aCs p0 p1 p2 p3):=fun r h=>(aBp p0).2.2.2.1 p1 p2 p3 r h
abbrev aRr:=fun p2 y3 p3 p0=>(aBp p0).2.2.2.2.1 p2 y3 p3
abbrev aQf:=fun p2 y3 p3 p0=>(aBp p0).2.2.2.2.2.1 p2 y3 p3
theorem aGf (p0:kR) (p1:List (List bJ)) (p2:Int) (p3:List aA):dN Tryz.prog 47 [A9 p0,.d (.sl 1 (p1.map (cSl 3 dZ))),vI p2,gY p3] [] Zj Zk (aB4 p0 p1 p2 p3):=fun r h=>(aBp p0).2.2.2.2.2.2.1 p1 p2 p3 r h
abbrev aQs:=fun p1 p2 p3 p0=>(aBp p0).2.2.2.2.2.2.2 p1 p2 p3
abbrev ZV (y:Bool):V:=(vB y)
theorem cA6 (p0:dL) (kj:List UInt8):dN Tryz.prog 150 [cAh p0,.ptr 186 0] [(186,[vS kj])] ZV (fun (y:Bool)=>[(186,[vS kj])]) (aNh p0 kj):=by
 refine aoB fun r h=>?_;rw [aNh] at h;exact rb' h
abbrev bVn (p0) (kj):=aBu.partial_correctness p0 kj (aSt p0 kj) (by intro cGm aVs x8 r h;refine Lok.un ?_;refine cd' h ?_ ?_<;>intro h;refine iq' h fun y1 h=>(cg' c1_ h (cA6 _ _) fun y2 h=>?_);refine cd' h ?_ ?_<;>intro h;exact rb' h;exact lb' (aVs _ _ h) (wr [] eS bS);exact rb' h)
abbrev aVs:=bVn
theorem bPm (p0:List dL) (kj:List UInt8):dN Tryz.prog 149 [aGt p0,.fn 150 [.ptr 186 0]] [(186,[vS kj])] Z1 (fun (y:Int)=>[(186,[vS kj])]) (aQ7 p0 kj):=by
 refine aoB fun r h=>?_;rw [aQ7] at h;exact lq' p0 (lb' (aVs _ _ _ _ h) (wr [] eS bS))
theorem bUz (p0:bI) (p1:List UInt8):FOk Tryz.prog 111 [aHi p0,vS p1] (fun y=>(vI y)) (aJu p0 p1):=by
 refine aoP fun r h=>?_;rw [aJu] at h;exact cg' ⟨[(186,3)],[],[],[],[],[],[],[],[]⟩ h (bPm _ _) fun y1 h=>(rp' h)
theorem aCv (p0:List UInt8):FOk Tryz.prog 110 [vS p0] (fun y=>(vB y)) (rA p0):=by
 refine aoP fun r h=>?_;rw [rA] at h;exact cZ h fun y1 h=>(rp' h)
abbrev bRi (p0):=Z7.partial_correctness p0 (bA0 p0) (by intro cGi aZa x8 r h;refine Lok.un ?_;refine cd' h ?_ ?_<;>intro h;refine iq' h fun y1 h=>(cs' h (aCv _) fun y2 h=>(bO h fun y3 h=>(bO h fun y4 h=>(gc' h (bUz _ _) fun y5 h=>(bO h fun y6 h=>?_)))));refine cd' h ?_ ?_<;>intro h;exact rp' h;exact lb' (aZa _ _ h) (wr [] eS bS);exact cs' h (aCv _) fun y7 h=>(gD p0.cols (cZ h fun y8 h=>(gD p0.cols (cZ h fun y9 h=>(rp' h))))))
abbrev aZa:=bRi
theorem bWm (p0:bI):FOk Tryz.prog 59 [aHi p0] (fun y=>(vB y)) (aJs p0):=by
 refine aoP fun r h=>?_;rw [aJs] at h;exact lq' p0.cols (lb' (aZa _ _ _ h) (wr [] eS bS))
theorem bQ4 (p0:bI) (kj:List UInt8):dN Tryz.prog 113 [aHi p0,.ptr 186 0] [(186,[vS kj])] ZV (fun (y:Bool)=>[(186,[vS kj])]) (aQr p0 kj):=by
 refine aoB fun r h=>?_;rw [aQr] at h;exact rb' h
abbrev bOf (p0) (kj):=aAe.partial_correctness p0 kj (aS2 p0 kj) (by intro cJ6 bAk x8 r h;refine Lok.un ?_;refine cd' h ?_ ?_<;>intro h;refine iq' h fun y1 h=>(cg' c1_ h (bQ4 _ _) fun y2 h=>?_);refine cd' h ?_ ?_<;>intro h;exact rb' h;exact lb' (bAk _ _ h) (wr [] eS bS);exact rb' h)
abbrev bAk:=bOf
theorem bSf (p0:List bI) (kj:List UInt8):dN Tryz.prog 112 [aUb p0,.fn 113 [.ptr 186 0]] [(186,[vS kj])] Z1 (fun (y:Int)=>[(186,[vS kj])]) (aPv p0 kj):=by
 refine aoB fun r h=>?_;rw [aPv] at h;exact lq' p0 (lb' (bAk _ _ _ _ h) (wr [] eS bS))
theorem aUz (p0:aP) (p1:List UInt8):FOk Tryz.prog 60 [eZ p0,vS p1] (fun y=>(vI y)) (M8 p0 p1):=by
 refine aoP fun r h=>?_;rw [M8] at h;exact cg' ⟨[(186,3)],[],[],[],[],[],[],[],[]⟩ h (bSf _ _) fun y1 h=>(rp' h)
abbrev bQ5 (p0):=aBx.partial_correctness p0 (aXe p0) (by intro cIf bCm x8 r h;refine Lok.un ?_;refine cd' h ?_ ?_<;>intro h;refine iq' h fun y1 h=>(cs' h (bWm _) fun y2 h=>(gc' h (aUz _ _) fun y3 h=>(bO h fun y4 h=>?_)));refine cd' h ?_ ?_<;>intro h;exact rp' h;exact lb' (bCm _ _ h) (wr [] eS bS);exact lq' p0.tables (rp' h))
abbrev bCm:=bQ5
theorem bL9 (p0:aP):FOk Tryz.prog 19 [eZ p0] (fun y=>(vB y)) (aE4 p0):=by
 refine aoP fun r h=>?_;rw [aE4] at h;exact lq' p0.tables (lb' (bCm _ _ _ h) (wr [] eS bS))
theorem bB6 (p0:Int) (p1:Int):FOk Tryz.prog 23 [vI p0,vI p1] (fun y=>(vB y)) (J9 p0 p1):=by
 refine aoP fun r h=>?_;rw [J9] at h;exact cZ h fun y1 h=>(rp' h)
abbrev cBo (p0):=P5.partial_correctness p0 (bCj p0) (by intro cIc aZ8 cK x27 r h;refine Lok.un ?_;refine cd' h ?_ ?_<;>intro h;refine iq' h fun y5 h=>?_;refine aO (.bsl 34 87 10 [33]) (eT (l:=([y5.expr]:List aA)) (f:=aJ) (g:=iZ) kr iE kr (oC ?_));exact aq' 3 aJ h fun y6 h=>(lb' (aZ8 _ _ _ h) (wr [(3,.old 3)] (es (eo 3 eS)) bS));exact aq' 3 aJ h fun y7 h=>(rw' (s':=⟨[(2,.osl 188 87 10 (y7.map aJ))],[]⟩) (wr [(188,.old 2)] (eo 2 jO) bM) (rb' h)))
abbrev aZ8:=cBo
abbrev cAk (p0):=aEl.partial_correctness p0 (bB8 p0) (by intro cGq bAu x3 x12 r h;refine Lok.un ?_;refine cd' h ?_ ?_<;>intro h;exact iq' h fun y1 h=>(aq' 3 aJ h fun y2 h=>(lb' (bAu _ _ _ h) (wr [(3,.old 3)] (es (eo 3 eS)) bS)));exact aq' 3 aJ h fun y3 h=>(lq' p0.order (lb' (aZ8 _ _ _ _ h) (wr [(3,.old 3)] (es (eo 3 eS)) bS))))
abbrev bAu:=cAk
theorem bI7 (p0:aQ):dN Tryz.prog 70 [iC p0] [] Z2 Z3 (aGs p0):=by
 refine aoB fun r h=>?_;rw [aGs] at h;refine aO (.bsl 8 87 10 []) (eT (l:=([]:List aA)) (f:=aJ) (g:=iZ) kr iE kr (oC ?_));exact lq' p0.on_ (lb' (bAu _ _ _ _ h) (wr [(3,.old 3)] (es (eo 3 eS)) bS))
abbrev aJm:=aEj.mutual_partial_correctness aYp (fun p0 r=>bC Tryz.prog 24 [iC p0] [] (PQ (fun y=>(vI y)) r)) (fun p0 r=>bC Tryz.prog 69 [gY p0] [] (PQ (fun y=>(vI y)) r)) aVd (fun p0 r=>bC Tryz.prog 128 [jA p0] [] (PQ (fun y=>(vI y)) r)) (by intro bPq cI7 aO6 aQ5 p0 x3 x12 r h;refine Lok.un ?_;refine cd' h ?_ ?_<;>intro h;exact iq' h fun y2 h=>(cs' h (aQ5 _) fun y3 h=>(lb' (aO6 _ _ _ _ h) (wr [] eS bM)));exact rp' h) (by intro cAn aMf p0 r h;exact ao' (cg' ⟨[],[],[],[],[],[(188,4)],[],[4],[]⟩ h (bI7 _) fun y1 h=>(cs' h (aMf _) fun y2 h=>(rp' h)))) (by intro bPs aOj p0 r h;exact ao' (lq' p0 (lb' (aOj _ _ _ _ h) (wr [] eS bM)))) (by intro bPs cG2 aOj bJ6 p0 x3 x8 r h;refine Lok.un ?_;refine cd' h ?_ ?_<;>intro h;exact iq' h fun y1 h=>(cs' h (bJ6 _) fun y2 h=>(lb' (aOj _ _ _ _ h) (wr [] eS bM)));exact rp' h) (by intro bPq cAn aO6 aMf p0 r h;exact ao' (cs' h (aMf _) fun y1 h=>(lq' p0.sub (lb' (aO6 _ _ _ _ h) (wr [] eS bM)))))
abbrev aO6:=aJm.1
theorem aQ5 (p0:aQ):FOk Tryz.prog 24 [iC p0] (fun y=>(vI y)) (zT p0):=fun r h=>(aJm).2.1 p0 r h
theorem aMf (p0:List aA):FOk Tryz.prog 69 [gY p0] (fun y=>(vI y)) (aHo p0):=fun r h=>(aJm).2.2.1 p0 r h
abbrev aOj:=aJm.2.2.2.1
theorem bJ6 (p0:aA):FOk Tryz.prog 128 [jA p0] (fun y=>(vI y)) (aB5 p0):=fun r h=>(aJm).2.2.2.2 p0 r h
abbrev aIf:=aEq.mutual_partial_correctness aXk (fun p0 r=>bC Tryz.prog 25 [iC p0] [] (PQ (fun y=>(vI y)) r)) (fun p0 r=>bC Tryz.prog 71 [gY p0] [] (PQ (fun y=>(vI y)) r)) bCg (fun p0 r=>bC Tryz.prog 129 [jA p0] [] (PQ (fun y=>(vI y)) r)) (by intro bRd cHt aLw aRn p0 x3 x13 r h;refine Lok.un ?_;refine cd' h ?_ ?_<;>intro h;exact iq' h fun y2 h=>(cs' h (aRn _) fun y3 h=>(lb' (aLw _ _ _ _ h) (wr [] eS bM)));exact rp' h) (by intro cDm aNc p0 r h;exact ao' (cg' ⟨[],[],[],[],[],[(188,4)],[],[4],[]⟩ h (bI7 _) fun y1 h=>(cs' h (aNc _) fun y2 h=>(rp' h)))) (by intro cA3 aMp p0 r h;exact ao' (lq' p0 (lb' (aMp _ _ _ _ h) (wr [] eS bM)))) (by intro cA3 cHj aMp bIv p0 x3 x8 r h;refine Lok.un ?_;refine cd' h ?_ ?_<;>intro h;exact iq' h fun y1 h=>(cs' h (bIv _) fun y2 h=>(lb' (aMp _ _ _ _ h) (wr [] eS bM)));exact rp' h) (by intro bRd cDm aLw aNc p0 r h;exact ao' (cs' h (aNc _) fun y1 h=>(lq' p0.sub (lb' (aLw _ _ _ _ h) (wr [] eS bM)))))
abbrev aLw:=aIf.1
theorem aRn (p0:aQ):FOk Tryz.prog 25 [iC p0] (fun y=>(vI y)) (F3 p0):=fun r h=>(aIf).2.1 p0 r h
theorem aNc (p0:List aA):FOk Tryz.prog 71 [gY p0] (fun y=>(vI y)) (aHf p0):=fun r h=>(aIf).2.2.1 p0 r h
abbrev aMp:=aIf.2.2.2.1
theorem bIv (p0:aA):FOk Tryz.prog 129 [jA p0] (fun y=>(vI y)) (N9 p0):=fun r h=>(aIf).2.2.2.2 p0 r h
theorem bTc (p0:List aA):FOk Tryz.prog 135 [gY p0] (fun y=>(vB y)) (aIa p0):=by
 refine aoP fun r h=>?_;rw [aIa] at h;exact lq' p0 (rp' h)
abbrev bWp (p0):=aAm.partial_correctness p0 (aXf p0) (by intro cI4 aTn x8 r h;refine Lok.un ?_;refine cd' h ?_ ?_<;>intro h;refine iq' h fun y1 h=>?_;refine aO (.callv (some 16) 11 [15]) (J5 (m:=aIa y1) (caps:=[]) (args:=[gY y1]) (v':=(fun y=>(vB y))) h kr kr (bTc _) kr kr (fun _=>rfl) fun y2 h=>oC ?_);refine cd' h ?_ ?_<;>intro h;exact rp' h;exact lb' (aTn _ _ h) (wr [] eS bM);exact rp' h)
abbrev aTn:=bWp
theorem bOv (p0:List (List aA)):FOk Tryz.prog 171 [.d (.sl 1 (p0.map (cSl 10 aJ))),.fn 135 []] (fun y=>(vI y)) (aLo p0):=by
 refine aoP fun r h=>?_;rw [aLo] at h;exact lq' p0 (lb' (aTn _ _ _ h) (wr [] eS bM))
theorem bZw (p0:List (List aA)):FOk Tryz.prog 134 [.d (.sl 1 (p0.map (cSl 10 aJ))),.fn 135 []] (fun y=>(vB y)) (aIo p0):=by
 refine aoP fun r h=>?_;rw [aIo] at h;exact cs' h (bOv _) fun y1 h=>(rp' h)
theorem bYp (p0:List UInt8):FOk Tryz.prog 137 [vS p0] (fun y=>(vB y)) (aKk p0):=by
 refine aoP fun r h=>?_;rw [aKk] at h;exact cs' h (aCv _) fun y1 h=>(rp' h)
abbrev cC3 (p0):=aBt.partial_correctness p0 (bA2 p0) (by intro cI2 aZl x8 r h;refine Lok.un ?_;refine cd' h ?_ ?_<;>intro h;refine iq' h fun y1 h=>?_;refine aO (.callv (some 16) 11 [15]) (J5 (m:=aKk y1) (caps:=[]) (args:=[vS y1]) (v':=(fun y=>(vB y))) h kr kr (bYp _) kr kr (fun _=>rfl) fun y2 h=>oC ?_);refine cd' h ?_ ?_<;>intro h;exact rp' h;exact lb' (aZl _ _ h) (wr [] eS bM);exact rp' h)
abbrev aZl:=cC3
theorem bTs (p0:List (List UInt8)):FOk Tryz.prog 172 [aAg p0,.fn 137 []] (fun y=>(vI y)) (aRe p0):=by
 refine aoP fun r h=>?_;rw [aRe] at h;exact lq' p0 (lb' (aZl _ _ _ h) (wr [] eS bM))
theorem cFs (p0:List (List UInt8)):FOk Tryz.prog 136 [aAg p0,.fn 137 []] (fun y=>(vB y)) (aK6 p0):=by
 refine aoP fun r h=>?_;rw [aK6] at h;exact cs' h (bTs _) fun y1 h=>(rp' h)
theorem cF1 (p0:aQ):FOk Tryz.prog 95 [iC p0] (fun y=>(vB y)) (aIb p0):=by
 refine aoP fun r h=>?_;rw [aIb] at h;refine lW cI p0.tables (aHu cI p0.tables (bO h fun y1 h=>(gD p0.on_ (aHu cI p0.tables (bO h fun y2 h=>(aYq h fun y3 h=>(gD y3 (bO h fun y4 h=>(gD p0.where_ (bO h fun y5 h=>(gD p0.order (bO h fun y6 h=>?_))))))))))));refine cd' h ?_ ?_<;>intro h;exact rp' h;exact lq' p0.items (gD p0.items (cZ h fun y7 h=>(gD p0.names (gD p0.items (cZ h fun y8 h=>(cZ h fun y9 h=>(gc' h (bZw _) fun y10 h=>(cZ h fun y11 h=>(gc' h (cFs _) fun y12 h=>(cZ h fun y13 h=>(rp' h)))))))))))
theorem aIw (p0:Int):FOk Tryz.prog 121 [vI p0] (fun y=>(vB y)) (qQ p0):=by
 refine aoP fun r h=>?_;rw [qQ] at h;exact bO h fun y1 h=>(rp' h)
theorem bPz (p0:bH):FOk Tryz.prog 200 [sF p0] (fun y=>(vB y)) (aI3 p0):=by
 refine aoP fun r h=>?_;rw [aI3] at h;refine cd' h ?_ ?_<;>intro h;exact cZ h fun y1 h=>(rp' h);refine cd' h ?_ ?_<;>intro h;exact rp' h;refine cd' h ?_ ?_<;>intro h;exact cZ h fun y2 h=>(rp' h);refine cd' h ?_ ?_<;>intro h;exact bO h fun y3 h=>(cZ h fun y4 h=>(rp' h));exact rp' h
theorem cFq (p0:bH):FOk Tryz.prog 189 [sF p0] (fun y=>(vB y)) (aH5 p0):=by
 refine aoP fun r h=>?_;rw [aH5] at h;refine cs' h (bPz _) fun y1 h=>?_;refine aO (.g 5 true (.pick 13 9 (kB true) 12)) (gv true y1 ZV h (fun y hy hc=>kE hy (p:=true) (q:=((true&&(y1==true))&&((!decide (p0.kind=1))==false))) (Eq.trans (b:=([true&&(y1==true)]:List Bool).all id) kr (fQ hc rfl)) kr kr kr (fun _=>rfl) (fun hb=>oP hc hb)) fun y2 h=>oC ?_);exact cZ h fun y3 h=>(cZ h fun y4 h=>(rp' h))
theorem bD4 (p0:aL):FOk Tryz.prog 174 [iB p0] (fun y=>(.tup [cE3 y.1,vB y.2])) (D5 p0):=by
 refine aoP fun r h=>?_;rw [D5] at h;refine cd' h ?_ ?_<;>intro h;exact cs' h (cFq _) fun y1 h=>(rp' h);refine cd' h ?_ ?_<;>intro h;refine cs' h (aCv _) fun y2 h=>(gc' h (aCv _) fun y3 h=>?_);refine aO (.g 18 true (.pick 26 22 (kB true) 25)) (gv true y2 ZV h (fun y hy hc=>kE hy (p:=true) (q:=((true&&(y2==true))&&((decide (p0.qual=[]))==false))) (Eq.trans (b:=([true&&(y2==true)]:List Bool).all id) kr (fQ hc rfl)) kr kr kr (fun _=>rfl) (fun hb=>oP hc hb)) fun y4 h=>oC ?_);exact cZ h fun y5 h=>(rp' h);refine cd' h ?_ ?_<;>intro h;exact bO h fun y6 h=>(rp' h);refine cd' h ?_ ?_<;>intro h;exact cZ h fun y7 h=>(rp' h);refine cd' h ?_ ?_<;>intro h;exact rp' h;refine cd' h ?_ ?_<;>intro h;exact rp' h;refine cd' h ?_ ?_<;>intro h;exact rp' h;refine cd' h ?_ ?_<;>intro h;exact rp' h;refine cd' h ?_ ?_<;>intro h;exact rp' h;exact rp' h
theorem bVx (p0:aA):FOk Tryz.prog 140 [jA p0] (fun y=>(vB y)) (aGl p0):=by
 refine aoP fun r h=>?_;rw [aGl] at h;refine cs' h (bD4 _) fun y1 h=>?_;refine aO (.g 17 true (.pick 24 20 (kB true) 23)) (gv true y1.2 ZV h (fun y hy hc=>kE hy (p:=true) (q:=((true&&(y1.2==true))&&(y1.1.op==false))) (Eq.trans (b:=([true&&(y1.2==true)]:List Bool).all id) kr (fQ hc rfl)) kr kr kr (fun _=>rfl) (fun hb=>oP hc hb)) fun y2 h=>oC ?_);refine cZ h fun y3 h=>?_;refine aO (.g 26 true (.pick 33 29 (kB true) 32)) (gv true y3 ZV h (fun y hy hc=>kE hy (p:=true) (q:=((true&&(y3==true))&&(y1.1.not_==false))) (Eq.trans (b:=([true&&(y3==true)]:List Bool).all id) kr (fQ hc rfl)) kr kr kr (fun _=>rfl) (fun hb=>oP hc hb)) fun y4 h=>oC ?_);refine cZ h fun y5 h=>?_;refine aO (.g 35 true (.pick 43 38 (kB true) 42)) (gv true y5 ZV h (fun y hy hc=>kE hy (p:=true) (q:=((true&&(y5==true))&&(y1.1.value==false))) (Eq.trans (b:=([true&&(y5==true)]:List Bool).all id) kr (fQ hc rfl)) kr kr kr (fun _=>rfl) (fun hb=>oP hc hb)) fun y6 h=>oC ?_);refine cZ h fun y7 h=>?_;refine aO (.g 48 false (.pick 56 52 55 (kB false))) (gv (true&&(y7==true)) y1.1.name ZV h (fun y hy hc=>kE hy (p:=(((true&&(y7==true))&&(y1.1.name==false))&&((decide (p0.up=0))==true))) (q:=true) (Eq.trans (b:=([(true&&(y7==true))&&(y1.1.name==false)]:List Bool).all id) kr (fQ hc rfl)) kr kr kr (fun hb=>uO hc hb) (fun _=>rfl)) fun y8 h=>oC ?_);refine aO (.g 45 true (.pick 57 48 (kB true) 56)) (gv true y7 ZV h (fun y hy hc=>kE hy (p:=true) (q:=((true&&(y7==true))&&(y1.1.name==false))) (Eq.trans (b:=([true&&(y7==true)]:List Bool).all id) kr (fQ hc rfl)) kr kr kr (fun _=>rfl) (fun hb=>oP hc hb)) fun y9 h=>oC ?_);exact cZ h fun y10 h=>(gD p0.kids (cZ h fun y11 h=>(gD p0.kids (cZ h fun y12 h=>(gD p0.sub (cZ h fun y13 h=>(rp' h)))))))
theorem bB1 (p0:Int) (p1:Int) (p2:Int):FOk Tryz.prog 185 [vI p0,vI p1,vI p2] (fun y=>(vB y)) (aDb p0 p1 p2):=by
 refine aoP fun r h=>?_;rw [aDb] at h;refine bO h fun y1 h=>?_;refine aO (.g 14 true (.pick 21 18 (kB true) 20)) (gv true y1 ZV h (fun y hy hc=>kE hy (p:=true) (q:=((true&&(y1==true))&&((decide (p2=p0))==false))) (Eq.trans (b:=([true&&(y1==true)]:List Bool).all id) kr (fQ hc rfl)) kr kr kr (fun _=>rfl) (fun hb=>oP hc hb)) fun y2 h=>oC ?_);exact cZ h fun y3 h=>(rp' h)
theorem aI6 (x8 x9 r) (h:aAr x8 x9=some r):bVp x8 x9 r:=by
 rw [aAr] at h;refine Jok.un ?_;refine cd' h ?_ ?_<;>intro h;exact rp' h;exact rp' h
theorem bHp (p0:Int):FOk Tryz.prog 199 [vI p0] (fun y=>(vB y)) (aKu p0):=by
 refine aoP fun r h=>?_;rw [aKu] at h;exact cZ h fun y1 h=>(rp' h)
theorem bGs (p0:Int) (p1:Int):FOk Tryz.prog 186 [vI p0,vI p1] (fun y=>(.tup [vI y.1,vB y.2])) (aF6 p0 p1):=by
 refine aoP fun r h=>?_;rw [aF6] at h;refine cs' h (bHp _) fun y1 h=>(gc' h (bHp _) fun y2 h=>(bO h fun y3 h=>?_));refine cd' h ?_ ?_<;>intro h;exact rp' h;refine cd' h ?_ ?_<;>intro h;exact rp' h;refine bO h fun y4 h=>?_;refine cd' h ?_ ?_<;>intro h;exact rp' h;exact rp' h
theorem cFf (p0:Int) (p1:Int) (p2:Int):FOk Tryz.prog 160 [vI p0,vI p1,vI p2] (fun y=>(.tup [vI y.1,vB y.2])) (aIq p0 p1 p2):=by
 refine aoP fun r h=>?_;rw [aIq] at h;refine bO h fun y1 h=>?_;refine cd' h ?_ ?_<;>intro h;exact jn' (aI6 _ _ _ h) (wr [] eS bM);refine cd' h ?_ ?_<;>intro h;exact cs' h (aIw _) fun y2 h=>(gc' h (aIw _) fun y3 h=>(cZ h fun y4 h=>(jn' (aI6 _ _ _ h) (wr [] eS bM))));refine cd' h ?_ ?_<;>intro h;exact cs' h (bGs _ _) fun y5 h=>(jn' (aI6 _ _ _ h) (wr [] eS bM));refine cd' h ?_ ?_<;>intro h;exact cs' h (bB1 _ _ _) fun y6 h=>(jn' (aI6 _ _ _ h) (wr [] eS bM));exact cs' h (bB1 _ _ _) fun y7 h=>(jn' (aI6 _ _ _ h) (wr [] eS bM))
theorem bZ8 (p0:List Int):dN Tryz.prog 162 [jI p0] [] Zd Ze (aKz p0):=by
 refine aoB fun r h=>?_;rw [aKz] at h;refine aO (.eqn 4 false 3) (bM1 (sz:=1) (l:=p0) (f:=cI) h kr kr (fun hl h=>oC ?_) fun hl h=>?_);refine aO1 ?_;refine aO (.bsl 5 3 1 []) (eT (l:=([]:List Int)) (f:=cI) (g:=cI) kr (fun _=>rfl) kr (oC ?_));exact aq' 5 cI h fun y1 h=>(rw' (s':=⟨[(2,.osl 188 3 1 (y1.map cI))],[]⟩) (wr [(188,.old 2)] (eo 2 jO) bM) (rb' h))
 subst hl
 refine ⟨oC ?_,oC ?_⟩
 replace h:((appG 8 ([]:List Int) ([]:List Int))>>=fun (y2:List Int)=>some y2:Option (List Int))=some r:=h
 refine aO1 ?_;refine aO (.bsl 5 3 1 []) (eT (l:=([]:List Int)) (f:=cI) (g:=cI) kr (fun _=>rfl) kr (oC ?_));exact aq' 5 cI h fun y2 h=>(rw' (s':=⟨[(2,.osl 188 3 1 (y2.map cI))],[]⟩) (wr [(188,.old 2)] (eo 2 jO) bM) (rb' h));exact bG4 (rw' (s':=⟨[(2,.osl 188 3 1 (([]:List Int).map cI))],[]⟩) (wr [(188,.new 3 1)] (en jO) bM) (rb' h))
abbrev cFu (p0):=aBf.partial_correctness p0 (aYv p0) (by intro cIe aUy x4 x11 r h;refine Lok.un ?_;refine cd' h ?_ ?_<;>intro h;refine kH cI h fun y1 h=>(cs' h (bGs _ _) fun y2 h=>?_);refine cd' h ?_ ?_<;>intro h;exact rp' h;exact lb' (aUy _ _ _ h) (wr [] eS bM);exact rp' h)
abbrev aUy:=cFu
theorem bQw (p0:List Int):FOk Tryz.prog 161 [jI p0] (fun y=>(.tup [vI y.1,vB y.2])) (aK9 p0):=by
 refine aoP fun r h=>?_;rw [aK9] at h;exact lW cI p0 (lb' (aUy _ _ _ _ h) (wr [] eS bM))
theorem bLz (p1 p2 x40 r) (h:X5 p1 p2 x40=some r):bZ4 p1 p2 x40 r:=by
 rw [X5] at h;refine Jok.un ?_;refine cd' h ?_ ?_<;>intro h;exact rp' h;refine cg' ⟨[],[],[],[],[],[(188,45)],[],[45],[]⟩ h (bZ8 _) fun y6 h=>(aq' 45 cI h fun y7 h=>(cs' h (bQw _) fun y8 h=>?_));refine cd' h ?_ ?_<;>intro h;exact rp' h;exact rp' h
theorem bZx (p0:Int) (p1:Int):FOk Tryz.prog 159 [vI p0,vI p1] (fun y=>(.tup [vI y.1,vB y.2])) (aHx p0 p1):=by
 refine aoP fun r h=>?_;rw [aHx] at h;refine gc' h (aIw _) fun y1 h=>(cZ h fun y2 h=>?_);refine cd' h ?_ ?_<;>intro h;exact rp' h;refine gc' h (bB1 _ _ _) fun y3 h=>(cZ h fun y4 h=>?_);refine cd' h ?_ ?_<;>intro h;exact rp' h;exact rp' h
theorem bLc (p0:aA) (p1:List Int) (p2:List Int):FOk Tryz.prog 124 [jA p0,jI p1,jI p2] (fun y=>(.tup [vI y.1,vB y.2])) (qM p0 p1 p2):=by
 refine aoP fun r h=>?_;rw [qM] at h;refine cd' h ?_ ?_<;>intro h;exact rp' h;refine cd' h ?_ ?_<;>intro h;exact kH cI h fun y1 h=>(cs' h (bZx _ _) fun y2 h=>(rp' h));refine cd' h ?_ ?_<;>intro h;exact kH cI h fun y3 h=>(kH cI h fun y4 h=>(cs' h (cFf _ _ _) fun y5 h=>(rp' h)));refine cd' h ?_ ?_<;>intro h;exact jn' (bLz _ _ _ _ h) (wr [] eS bM);exact jn' (bLz _ _ _ _ h) (wr [] eS bM)
abbrev ZW (y:List (List Int)):V:=(.osl 188 27 1 (y.map (cSl 1 cI)))
theorem bHl (p0:List Int) (p1:List (List Int)):dN Tryz.prog 97 [jI p0,.d (.sl 1 (p1.map (cSl 1 cI)))] [] ZW (fun (y:List (List Int))=>[]) (aHd p0 p1):=by
 refine aoB fun r h=>?_;rw [aHd] at h;refine aO (.bsl 6 27 1 [5]) (eT (l:=([p0]:List (List Int))) (f:=(cSl 1 cI)) (g:=(cSl 1 cI)) kr (fun _=>rfl) kr (oC ?_));exact aq' 6 (cSl 1 cI) h fun y1 h=>(rw' (s':=⟨[(4,.osl 188 27 1 (y1.map (cSl 1 cI)))],[]⟩) (wr [(188,.old 4)] (eo 4 jO) bM) (rb' h))
abbrev bZd (p0):=X3.partial_correctness p0 (bCn p0) (by intro cHe aT7 x3 x10 r h;refine Lok.un ?_;refine cd' h ?_ ?_<;>intro h;refine iq' h fun y1 h=>?_;refine aO (.bsl 17 3 1 [16]) (eT (l:=([y1.type]:List Int)) (f:=cI) (g:=cI) kr (fun _=>rfl) kr (oC ?_));exact aq' 3 cI h fun y2 h=>(lb' (aT7 _ _ _ h) (wr [(3,.old 3)] (eo 3 eS) bM));exact rw' (s':=⟨[(2,.osl 188 3 1 (x3.map cI))],[]⟩) (wr [(188,.old 2)] (eo 2 jO) bM) (rb' h))
abbrev aT7:=bZd
theorem bQs (p0:bI):dN Tryz.prog 133 [aHi p0] [] Zd Ze (aL2 p0):=by
 refine aoB fun r h=>?_;rw [aL2] at h;refine aO (.bsl 6 3 1 []) (eT (l:=([]:List Int)) (f:=cI) (g:=cI) kr (fun _=>rfl) kr (oC ?_));exact lq' p0.cols (lb' (aT7 _ _ _ _ h) (wr [(3,.old 3)] (eo 3 eS) bM))
abbrev bVq (p1) (p0):=Y7.partial_correctness p1 p0 (aY1 p1 p0) (by intro cHm bBi x6 x12 r h;refine Lok.un ?_;refine cd' h ?_ ?_<;>intro h;refine kH cI h fun y1 h=>(gD p0.tables (bO h fun y2 h=>?_));refine cd' h ?_ ?_<;>intro h;exact rw' (s':=⟨[(4,.osl 188 3 1 (([]:List Int).map cI)),(5,vB false)],[]⟩) (wr [(188,.new 3 1)] (en eS) bM) (rb' h);exact iq' h fun y3 h=>(cg' ⟨[],[],[],[],[],[(188,31)],[],[31],[]⟩ h (bQs _) fun y4 h=>(aq' 6 cI h fun y5 h=>(lb' (bBi _ _ _ h) (wr [(6,.old 6)] (es (eo 6 eS)) bS))));exact rw' (s':=⟨[(4,.osl 188 3 1 (x6.map cI)),(5,vB true)],[]⟩) (wr [(188,.old 4)] (eo 4 eS) bM) (rb' h))
abbrev bBi:=bVq
theorem bIt (p0:aP) (p1:List Int):dN Tryz.prog 94 [eZ p0,jI p1] [] Za Zc (aGj p0 p1):=by
 refine aoB fun r h=>?_;rw [aGj] at h;refine aO (.bsl 9 3 1 []) (eT (l:=([]:List Int)) (f:=cI) (g:=cI) kr (fun _=>rfl) kr (oC ?_));exact lW cI p1 (lb' (bBi _ _ _ _ _ h) (wr [(6,.old 6)] (es (eo 6 eS)) bS))
abbrev wG (p0):=wW.mutual_partial_correctness p0 (fun y9 p2=>bBw y9 p2 p0) (fun p1 p2 r=>bC Tryz.prog 98 [eZ p0,.d (.sl 1 (p1.map (cSl 1 cI))),jA p2] [] (PQ (fun y=>(.tup [vI y.1,vB y.2])) r)) (fun p1 p2=>aZv p1 p2 p0) (fun p1 x8 p2=>aS0 p1 x8 p2 p0) (fun p1 p2 r=>bC Tryz.prog 44 [eZ p0,.d (.sl 1 (p1.map (cSl 1 cI))),iC p2] [] (BQ Za Zc r)) (fun p1 y1 p2=>aZ3 p1 y1 p2 p0) (fun y9 p2=>bBc y9 p2 p0) (fun p1 p2 r=>bC Tryz.prog 96 [eZ p0,.d (.sl 1 (p1.map (cSl 1 cI))),gY p2] [] (PQ (fun y=>(vB y)) r)) (fun p0n ka r=>bC Tryz.prog 138 [gY p0n,.fn 139 [.ptr 186 0,.ptr 187 0]] [(186,fK p0),(187,[.d (.sl 1 (ka.map (cSl 1 cI)))])] (BQ ZV (fun (y:Bool)=>[(186,fK p0),(187,[.d (.sl 1 (ka.map (cSl 1 cI)))])]) r)) (fun p0n ka r=>bC Tryz.prog 173 [gY p0n,.fn 139 [.ptr 186 0,.ptr 187 0]] [(186,fK p0),(187,[.d (.sl 1 (ka.map (cSl 1 cI)))])] (BQ Z1 (fun (y:Int)=>[(186,fK p0),(187,[.d (.sl 1 (ka.map (cSl 1 cI)))])]) r)) (fun p0n=>bAe p0n p0) (fun p0n ka r=>bC Tryz.prog 139 [jA p0n,.ptr 186 0,.ptr 187 0] [(186,fK p0),(187,[.d (.sl 1 (ka.map (cSl 1 cI)))])] (BQ ZV (fun (y:Bool)=>[(186,fK p0),(187,[.d (.sl 1 (ka.map (cSl 1 cI)))])]) r)) (by intro cA8 bCi aM2 Z4 y9 p2 x19 x95 r h;refine Lok.un ?_;refine cd' h ?_ ?_<;>intro h;refine iq' h fun y13 h=>(cs' h (Z4 _ _) fun y14 h=>?_);refine cd' h ?_ ?_<;>intro h;exact rw' (s':=⟨[(6,.osl 188 3 1 (([]:List Int).map cI)),(7,vB false)],[]⟩) (wr [(188,.new 3 1)] (en eS) bM) (rb' h);refine aO (.bsl 110 3 1 [109]) (eT (l:=([y14.1]:List Int)) (f:=cI) (g:=cI) kr (fun _=>rfl) kr (oC ?_));exact aq' 19 cI h fun y15 h=>(lb' (aM2 _ _ _ _ _ h) (wr [(14,.old 14),(19,.old 19)] (es (eo 14 (eo 19 eS))) bS));exact rw' (s':=⟨[(6,.osl 188 3 1 (x19.map cI)),(7,vB true)],[]⟩) (wr [(188,.old 6)] (eo 6 eS) bM) (rb' h)) (by intro cCn aPm p1 p2 r h;refine ao' (cs' h (bVx _) fun y1 h=>?_);refine cd' h ?_ ?_<;>intro h;exact rp' h;refine cd' h ?_ ?_<;>intro h;refine dO (.g 27 false (.len 31 30)) (aQl (p:=true) (b:=(decide (p2.up<0))) (v':=(vI (ln p1))) kr rfl rfl (fun hc=>aKq (sz:=1) (l:=p1) (f:=(cSl 1 cI)) (Eq.trans (b:=([true&&((decide (p2.up<0))==false)]:List Bool).all id) kr (fQ hc rfl)) kr) (dC ?_));refine bO h fun y2 h=>(bO h fun y3 h=>?_);refine dO (.g 39 false (.ia 45 1 42 44)) (M5 (p:=true) (b:=y3) (m:=idx p1 p2.up) (dflt:=default) (v':=fun y=>(.rp [.sl 1 (y.map cI)])) h kr rfl rfl (fun y hy hc=>F8 (l:=p1) (f:=(cSl 1 cI)) (g:=(cSl 1 cI)) (k:=.i64) hy (fun _=>rfl) (Eq.trans (b:=([true&&(y3==false),true&&(y3==false)]:List Bool).all id) kr (fQ hc (fQ hc rfl))) kr kr) fun y4 h=>dC ?_);refine dO (.g 39 false (.len 47 46)) (aQl (p:=true) (b:=y3) (v':=(vI (ln y4))) kr rfl rfl (fun hc=>aKq (sz:=1) (l:=y4) (f:=cI) (Eq.trans (b:=([true&&(y3==false)]:List Bool).all id) kr (fQ hc rfl)) kr) (dC ?_));refine bO h fun y5 h=>?_;refine cd' h ?_ ?_<;>intro h;exact rp' h;exact kH (cSl 1 cI) h fun y6 h=>(kH cI h fun y7 h=>(rp' h));refine aO (.bsl 59 3 1 []) (eT (l:=([]:List Int)) (f:=cI) (g:=cI) kr (fun _=>rfl) kr (oC ?_));refine aO (.bsl 60 3 1 []) (eT (l:=([]:List Int)) (f:=cI) (g:=cI) kr (fun _=>rfl) kr (oC ?_));refine lq' p2.kids ?_;exact lb' (aPm _ _ _ _ _ h) (wr [(8,.old 8),(9,.old 9)] (es (es (es (eo 8 (eo 9 eS))))) bS)) (by intro bCi cCn bUw Z4 aPm aPu p1 p2 x8 x64 r h;refine Lok.un ?_;refine cd' h ?_ ?_<;>intro h;refine iq' h fun y8 h=>(cs' h (Z4 _ _) fun y9 h=>?_);refine cd' h ?_ ?_<;>intro h;exact rp' h;refine aO (.bsl 79 3 1 [78]) (eT (l:=([y9.1]:List Int)) (f:=cI) (g:=cI) kr (fun _=>rfl) kr (oC ?_));refine aq' 8 cI h fun y10 h=>?_;exact lb' (aPm _ _ _ _ _ h) (wr [(8,.old 8),(9,.old 9)] (es (es (es (eo 8 (eo 9 eS))))) bS);refine lq' p2.sub ?_;exact lb' (aPu _ _ _ _ _ _ h) (wr [(8,.old 8),(9,.old 9)] (es (es (es (eo 8 (eo 9 eS))))) bS)) (by intro bUw cHk aPu bAo p1 x8 p2 x9 x85 r h;refine Lok.un ?_;refine cd' h ?_ ?_<;>intro h;refine iq' h fun y11 h=>(cg' ⟨[],[],[],[],[],[(188,208)],[],[208],[]⟩ h (bAo _ _) fun y12 h=>(aHu cI y12.1 ?_));refine aO (.g 98 false (.pick 106 102 105 (kB false))) (gv true (!y12.2) ZV h (fun y hy hc=>kE hy (p:=((true&&((!y12.2)==false))&&((decide (p2.kind=8))==true))) (q:=true) (Eq.trans (b:=([true&&((!y12.2)==false)]:List Bool).all id) kr (fQ hc rfl)) kr kr kr (fun hb=>uO hc hb) (fun _=>rfl)) fun y13 h=>oC ?_);refine bO h fun y14 h=>?_;refine cd' h ?_ ?_<;>intro h;exact rp' h;exact lb' (aPu _ _ _ _ _ _ h) (wr [(8,.old 8),(9,.old 9)] (es (es (es (eo 8 (eo 9 eS))))) bS);exact cs' h (bLc _ _ _) fun y15 h=>(rp' h)) (by intro bXj aMk p1 p2 r h;refine ao' (cg' ⟨[],[],[],[],[],[(188,199)],[],[199],[]⟩ h (bIt _ _) fun y1 h=>(gc' h (cF1 _) fun y2 h=>(bO h fun y3 h=>?_)));refine cd' h ?_ ?_<;>intro h;exact rw' (s':=⟨[(6,.osl 188 3 1 (([]:List Int).map cI)),(7,vB false)],[]⟩) (wr [(188,.new 3 1)] (en eS) bM) (rb' h);exact lq' p2.on_ (lb' (aMk _ _ _ _ _ h) (wr [(8,.old 8)] (es (es (es (eo 8 eS)))) bS))) (by intro bXj bYy cIj aMk aNt aU6 p1 y1 p2 x41 r h;refine Lok.un ?_;refine cd' h ?_ ?_<;>intro h;refine iq' h fun y4 h=>?_;refine dO (.slc 52 1 49 none (some 51) none) (aIi (m:=rF p2.tables 0 (QA .i64 (x41+1))) (v':=fun y=>(jI y)) h rfl rfl (fun y hy=>aP2 (l:=p2.tables) (f:=cI) (lo:=0) (hi:=(QA .i64 (x41+1))) hy kr kr ⟨kr,.i64,kr⟩ rfl) fun y5 h=>dC ?_);refine fM ⟨[],[],[],[],[],[(188,204)],[],[204],[]⟩ [] [] h (bIt _ _) fun y6 h=>?_;refine dO (.asg 12 54) (aUh kr  rfl (dC ?_));refine fM ⟨[],[],[],[],[],[(188,59)],[],[59],[]⟩ [] [] h (bHl _ _) fun y7 h=>(cs' h (aU6 _ _) fun y8 h=>?_);refine cd' h ?_ ?_<;>intro h;exact rw' (s':=⟨[(6,.osl 188 3 1 (([]:List Int).map cI)),(7,vB false)],[]⟩) (wr [(188,.new 3 1)] (en eS) bM) (rb' h);exact lb' (aMk _ _ _ _ _ h) (wr [(8,.old 8)] (es (es (es (eo 8 eS)))) bS);refine cg' ⟨[],[],[],[],[],[(188,66)],[],[66],[]⟩ h (bHl _ _) fun y9 h=>(cs' h (aU6 _ _) fun y10 h=>?_);refine cd' h ?_ ?_<;>intro h;exact rw' (s':=⟨[(6,.osl 188 3 1 (([]:List Int).map cI)),(7,vB false)],[]⟩) (wr [(188,.new 3 1)] (en eS) bM) (rb' h);exact lq' p2.order (lb' (aNt _ _ _ _ h) (wr [(14,.old 14)] (es (es (eo 14 eS))) bS))) (by intro cA8 bCi bYy aM2 Z4 aNt y9 p2 x76 r h;refine Lok.un ?_;refine cd' h ?_ ?_<;>intro h;refine iq' h fun y11 h=>(cs' h (Z4 _ _) fun y12 h=>?_);refine cd' h ?_ ?_<;>intro h;exact rw' (s':=⟨[(6,.osl 188 3 1 (([]:List Int).map cI)),(7,vB false)],[]⟩) (wr [(188,.new 3 1)] (en eS) bM) (rb' h);exact lb' (aNt _ _ _ _ h) (wr [(14,.old 14)] (es (es (eo 14 eS))) bS);refine aO (.bsl 91 3 1 []) (eT (l:=([]:List Int)) (f:=cI) (g:=cI) kr (fun _=>rfl) kr (oC ?_));exact lq' p2.items (lb' (aM2 _ _ _ _ _ h) (wr [(14,.old 14),(19,.old 19)] (es (eo 14 (eo 19 eS))) bS))) (by intro cHw bKh p1 p2 r h;exact ao' (cg' ⟨[(186,3),(187,4)],[],[],[],[],[],[],[],[]⟩ h (bKh _ _) fun y1 h=>(rp' h))) (by intro cId bEr p0n ka r h;exact ao' (cg' ⟨[(186,186),(187,187)],[],[],[],[],[],[],[],[]⟩ h (bEr _ _) fun y1 h=>(rb' h))) (by intro bNc aPe p0n ka r h;exact ao' (lq' p0n (lb' (aPe _ _ _ _ h) (wr [] eS bS)))) (by intro bNc cH0 aPe bK8 p0n ka x8 r h;refine Lok.un ?_;refine cd' h ?_ ?_<;>intro h;refine iq' h fun y1 h=>(cg' ⟨[(186,186),(187,187)],[],[],[],[],[],[],[],[]⟩ h (bK8 _ _) fun y2 h=>?_);refine cd' h ?_ ?_<;>intro h;exact rb' h;exact lb' (aPe _ _ _ _ h) (wr [] eS bS);exact rb' h) (by intro bCi Z4 p0n ka r h;exact ao' (cs' h (Z4 _ _) fun y1 h=>(gc' h (aIw _) fun y2 h=>(bO h fun y3 h=>(rb' h)))))
abbrev aM2:=fun y9 p2 p0=>(wG p0).1 y9 p2
theorem Z4 (p0:aP) (p1:List (List Int)) (p2:aA):FOk Tryz.prog 98 [eZ p0,.d (.sl 1 (p1.map (cSl 1 cI))),jA p2] (fun y=>(.tup [vI y.1,vB y.2])) (rO p0 p1 p2):=fun r h=>(wG p0).2.1 p1 p2 r h
abbrev aPm:=fun p1 p2 p0=>(wG p0).2.2.1 p1 p2
abbrev aPu:=fun p1 x8 p2 p0=>(wG p0).2.2.2.1 p1 x8 p2
theorem bAo (p0:aP) (p1:List (List Int)) (p2:aQ):dN Tryz.prog 44 [eZ p0,.d (.sl 1 (p1.map (cSl 1 cI))),iC p2] [] Za Zc (E8 p0 p1 p2):=fun r h=>(wG p0).2.2.2.2.1 p1 p2 r h
abbrev aMk:=fun p1 y1 p2 p0=>(wG p0).2.2.2.2.2.1 p1 y1 p2
abbrev aNt:=fun y9 p2 p0=>(wG p0).2.2.2.2.2.2.1 y9 p2
theorem aU6 (p0:aP) (p1:List (List Int)) (p2:List aA):FOk Tryz.prog 96 [eZ p0,.d (.sl 1 (p1.map (cSl 1 cI))),gY p2] (fun y=>(vB y)) (A8 p0 p1 p2):=fun r h=>(wG p0).2.2.2.2.2.2.2.1 p1 p2 r h
theorem bKh (p0:List aA) (c0:aP) (ka:List (List Int)):dN Tryz.prog 138 [gY p0,.fn 139 [.ptr 186 0,.ptr 187 0]] [(186,fK c0),(187,[.d (.sl 1 (ka.map (cSl 1 cI)))])] ZV (fun (y:Bool)=>[(186,fK c0),(187,[.d (.sl 1 (ka.map (cSl 1 cI)))])]) (aJy p0 c0 ka):=fun r h=>(wG c0).2.2.2.2.2.2.2.2.1 p0 ka r h
theorem bEr (p0:List aA) (c0:aP) (ka:List (List Int)):dN Tryz.prog 173 [gY p0,.fn 139 [.ptr 186 0,.ptr 187 0]] [(186,fK c0),(187,[.d (.sl 1 (ka.map (cSl 1 cI)))])] Z1 (fun (y:Int)=>[(186,fK c0),(187,[.d (.sl 1 (ka.map (cSl 1 cI)))])]) (aJo p0 c0 ka):=fun r h=>(wG c0).2.2.2.2.2.2.2.2.2.1 p0 ka r h
abbrev aPe:=fun p0 c0=>(wG c0).2.2.2.2.2.2.2.2.2.2.1 p0
theorem bK8 (p0:aA) (p1:aP) (ka:List (List Int)):dN Tryz.prog 139 [jA p0,.ptr 186 0,.ptr 187 0] [(186,fK p1),(187,[.d (.sl 1 (ka.map (cSl 1 cI)))])] ZV (fun (y:Bool)=>[(186,fK p1),(187,[.d (.sl 1 (ka.map (cSl 1 cI)))])]) (aK2 p0 p1 ka):=fun r h=>(wG p1).2.2.2.2.2.2.2.2.2.2.2 p0 ka r h
theorem bOq (p0:aP) (p1:aQ):FOk Tryz.prog 13 [eZ p0,iC p1] (fun y=>(vB y)) (aCr p0 p1):=by
 refine aoP fun r h=>?_;rw [aCr] at h;refine cs' h (bL9 _) fun y1 h=>(gc' h (aQ5 _) fun y2 h=>(gc' h (aRn _) fun y3 h=>(gc' h (bB6 _ _) fun y4 h=>(bO h fun y5 h=>?_))));refine cd' h ?_ ?_<;>intro h;exact rp' h;exact cg' ⟨[],[],[],[],[],[(188,200)],[],[200],[]⟩ h (bAo _ _ _) fun y6 h=>(rp' h)
theorem cCd (p0:aP) (p1:aQ):FOk Tryz.prog 6 [eZ p0,iC p1] (fun y=>(.tup [gM y.1,vB y.2])) (aR0 p0 p1):=by
 refine aoP fun r h=>?_;rw [aR0] at h;refine cs' h (bOq _ _) fun y1 h=>?_;refine cd' h ?_ ?_<;>intro h;refine aO (.bld 10 [fJ,.nil 13,.nil 3,.nil 10,.nil 11,aR] []) (gK (c:=[vB false,.nil 13,.nil 3,.nil 10,.nil 11,vI 0]) kr kr rfl (oC ?_));refine rw' (s':=⟨[(4,.ptr 4 0),(5,vB false)],[(4,nC (aV.mk false ([]:List dU) ([]:List bZ) ([]:List aL) ([]:List eH) 0))]⟩) (wr [] eS (jP (c0:=[vB false,.nil 13,.nil 3,.nil 10,.nil 11,vI 0]) kr (dW (mG kr kr) (dW (mF kr kr) (dW (mF kr kr) (dW (mF kr kr) (dW (mF kr kr) (dW (mG kr kr) jN)))))) bM)) ?_;exact rp' h;refine cg' ⟨[],[],[],[],[],[],[(211,272),(212,273),(213,274),(214,275)],[],[]⟩ h (aZo _ _ _ _) fun y2 h=>?_;refine rw' (s':=⟨[(4,.ptr 4 0),(5,vB true)],[(4,nC y2)]⟩) (tw [.frz [272,273,274,275]] (wr [] eS bS)) ?_;exact rp' h
theorem aS8 (p0:List UInt8):FOk Tryz.prog 117 [vS p0] (fun y=>(vB y)) (Z5 p0):=by
 refine aoP fun r h=>?_;rw [Z5] at h;exact gc' h (aCv _) fun y1 h=>(bO h fun y2 h=>(rp' h))
abbrev cFn (p0):=X9.partial_correctness p0 (bC2 p0) (by intro cIv aTr qZ x46 r h;refine Lok.un ?_;refine cd' h ?_ ?_<;>intro h;refine iq' h fun y9 h=>?_;refine aO (.bsl 53 64 10 [52]) (eT (l:=([y9.expr]:List aL)) (f:=bP) (g:=oV) kr sG kr (oC ?_));exact aq' 3 bP h fun y10 h=>(lb' (aTr _ _ _ h) (wr [(3,.old 3)] (eo 3 eS) bM));exact rw' (s':=⟨[(2,.osl 188 64 10 (qZ.map bP))],[]⟩) (wr [(188,.old 2)] (eo 2 jO) bM) (rb' h))
abbrev aTr:=cFn
abbrev bP0 (p0):=aAk.partial_correctness p0 (aYc p0) (by intro cJ3 aTe cK x30 r h;refine Lok.un ?_;refine cd' h ?_ ?_<;>intro h;exact iq' h fun y5 h=>(aq' 3 bP h fun y6 h=>(lb' (aTe _ _ _ h) (wr [(3,.old 3)] (es (eo 3 eS)) bS)));exact aq' 3 bP h fun y7 h=>(lq' p0.order (lb' (aTr _ _ _ _ h) (wr [(3,.old 3)] (eo 3 eS) bM))))
abbrev aTe:=bP0
abbrev bKb (p0):=aGk.mutual_partial_correctness p0 (aWu p0) (bBp p0) (by intro cIr bA6 x14 fH r h;exact Jok.un (lb' (bA6 _ _ _ h) (wr [(3,.old 3)] (es (eo 3 eS)) bS))) (by intro cHc aWt x3 x14 r h;refine Lok.un ?_;refine cd' h ?_ ?_<;>intro h;refine iq' h fun y1 h=>?_;refine cd' h ?_ ?_<;>intro h;refine aO (.bsl 24 64 10 [23]) (eT (l:=([y1.expr]:List aL)) (f:=bP) (g:=oV) kr sG kr (oC ?_));exact aq' 3 bP h fun y2 h=>(jn' (aWt _ _ _ h) (wr [(3,.old 3)] (es (eo 3 eS)) bS));exact jn' (aWt _ _ _ h) (wr [(3,.old 3)] (es (eo 3 eS)) bS);exact lq' p0.from_ (lb' (aTe _ _ _ _ h) (wr [(3,.old 3)] (es (eo 3 eS)) bS)))
abbrev aWt:=fun p0=>(bKb p0).1
abbrev bA6:=fun p0=>(bKb p0).2
theorem bC8 (p0:aV):dN Tryz.prog 115 [gM p0] [] Zp Zq (aCe p0):=by
 refine aoB fun r h=>?_;rw [aCe] at h;refine aO (.bsl 10 64 10 []) (eT (l:=([]:List aL)) (f:=bP) (g:=oV) kr sG kr (oC ?_));exact lq' p0.items (lb' (bA6 _ _ _ _ h) (wr [(3,.old 3)] (es (eo 3 eS)) bS))
abbrev rG:=aFj.mutual_partial_correctness aXz (fun p0 p1 r=>bC Tryz.prog 153 [iB p0,iB p1] [] (PQ (fun y=>(vB y)) r)) (fun p0 p1 r=>bC Tryz.prog 180 [oI p0,oI p1,.fn 181 []] [] (PQ (fun y=>(vB y)) r)) bBq (fun p0 p1 r=>bC Tryz.prog 181 [gM p0,gM p1] [] (PQ (fun y=>(vB y)) r)) (fun p0 p1 r=>bC Tryz.prog 197 [yS p0,yS p1,.fn 194 []] [] (PQ (fun y=>(vB y)) r)) aTp (fun p0 p1 r=>bC Tryz.prog 194 [X4 p0,X4 p1] [] (PQ (fun y=>(vB y)) r)) (fun p0 p1 r=>bC Tryz.prog 179 [gI p0,gI p1] [] (PQ (fun y=>(vB y)) r)) (fun p0 p1 r=>bC Tryz.prog 191 [gI p0,gI p1,.fn 153 []] [] (PQ (fun y=>(vB y)) r)) (fun p0 p1 r=>bC Tryz.prog 196 [lK p0,lK p1,.fn 193 []] [] (PQ (fun y=>(vB y)) r)) aZ7 (fun p0 p1 r=>bC Tryz.prog 193 [O1 p0,O1 p1] [] (PQ (fun y=>(vB y)) r)) (fun p0 p1 r=>bC Tryz.prog 195 [oO p0,oO p1,.fn 192 []] [] (PQ (fun y=>(vB y)) r)) bBs (fun p0 p1 r=>bC Tryz.prog 192 [G9 p0,G9 p1] [] (PQ (fun y=>(vB y)) r)) (by intro bWa bCu aMc aD9 p1 p0 x17 r h;refine Lok.un ?_;refine cd' h ?_ ?_<;>intro h;refine iq' h fun y1 h=>(iq' h fun y2 h=>?_);refine aO (.callv (some 29) 26 [27,28]) (J5 (m:=bCu y1 y2) (caps:=[]) (args:=[iB y1,iB y2]) (v':=(fun y=>(vB y))) h kr kr (aD9 _ _) kr kr (fun _=>rfl) fun y3 h=>oC ?_);refine cd' h ?_ ?_<;>intro h;exact rp' h;exact lb' (aMc _ _ _ _ h) (wr [] eS bM);exact rp' h) (by intro cGc bJx bG6 aFc p0 p1 r h;exact ao' (cZ h fun y1 h=>(cZ h fun y2 h=>(cZ h fun y3 h=>(cZ h fun y4 h=>(cZ h fun y5 h=>(gc' h (aFc _ _) fun y6 h=>(cZ h fun y7 h=>(gc' h (bG6 _ _) fun y8 h=>(cZ h fun y9 h=>(rp' h))))))))))) (by intro bVo aNm p0 p1 r h;refine ao' (lq' p0 (lq' p1 ?_));refine cd' h ?_ ?_<;>intro h;exact rp' h;exact lq' p0 (lb' (aNm _ _ _ _ h) (wr [] eS bM))) (by intro bVo bWu aNm bJv p1 p0 x17 r h;refine Lok.un ?_;refine cd' h ?_ ?_<;>intro h;refine iq' h fun y1 h=>(iq' h fun y2 h=>?_);refine aO (.callv (some 29) 26 [27,28]) (J5 (m:=bWu y1 y2) (caps:=[]) (args:=[gM y1,gM y2]) (v':=(fun y=>(vB y))) h kr kr (bJv _ _) kr kr (fun _=>rfl) fun y3 h=>oC ?_);refine cd' h ?_ ?_<;>intro h;exact rp' h;exact lb' (aNm _ _ _ _ h) (wr [] eS bM);exact rp' h) (by intro cGu bJx cIp cJf bLr aFc bEw bKm p0 p1 r h;refine ao' (cZ h fun y1 h=>(gc' h (bKm _ _) fun y2 h=>(cZ h fun y3 h=>(gc' h (bEw _ _) fun y4 h=>(cZ h fun y5 h=>(gc' h (aFc _ _) fun y6 h=>(cZ h fun y7 h=>?_)))))));exact gc' h (bLr _ _) fun y8 h=>(cZ h fun y9 h=>(rp' h))) (by intro cA9 aR3 p0 p1 r h;refine ao' (lq' p0 (lq' p1 ?_));refine cd' h ?_ ?_<;>intro h;exact rp' h;exact lq' p0 (lb' (aR3 _ _ _ _ h) (wr [] eS bM))) (by intro cA9 cEx aR3 bJj p1 p0 x17 r h;refine Lok.un ?_;refine cd' h ?_ ?_<;>intro h;refine iq' h fun y1 h=>(iq' h fun y2 h=>?_);refine aO (.callv (some 29) 26 [27,28]) (J5 (m:=cEx y1 y2) (caps:=[]) (args:=[X4 y1,X4 y2]) (v':=(fun y=>(vB y))) h kr kr (bJj _ _) kr kr (fun _=>rfl) fun y3 h=>oC ?_);refine cd' h ?_ ?_<;>intro h;exact rp' h;exact lb' (aR3 _ _ _ _ h) (wr [] eS bM);exact rp' h) (by intro bCu aD9 p0 p1 r h;exact ao' (gc' h (aD9 _ _) fun y1 h=>(cZ h fun y2 h=>(rp' h)))) (by intro cHn bLg p0 p1 r h;exact ao' (cs' h (bLg _ _) fun y1 h=>(rp' h))) (by intro bWa aMc p0 p1 r h;refine ao' (lq' p0 (lq' p1 ?_));refine cd' h ?_ ?_<;>intro h;exact rp' h;exact lq' p0 (lb' (aMc _ _ _ _ h) (wr [] eS bM))) (by intro bYx aR1 p0 p1 r h;refine ao' (lq' p0 (lq' p1 ?_));refine cd' h ?_ ?_<;>intro h;exact rp' h;exact lq' p0 (lb' (aR1 _ _ _ _ h) (wr [] eS bM))) (by intro bYx bMt aR1 bH3 p1 p0 x17 r h;refine Lok.un ?_;refine cd' h ?_ ?_<;>intro h;refine iq' h fun y1 h=>(iq' h fun y2 h=>?_);refine aO (.callv (some 29) 26 [27,28]) (J5 (m:=bMt y1 y2) (caps:=[]) (args:=[O1 y1,O1 y2]) (v':=(fun y=>(vB y))) h kr kr (bH3 _ _) kr kr (fun _=>rfl) fun y3 h=>oC ?_);refine cd' h ?_ ?_<;>intro h;exact rp' h;exact lb' (aR1 _ _ _ _ h) (wr [] eS bM);exact rp' h) (by intro bJx aFc p0 p1 r h;exact ao' (cZ h fun y1 h=>(gc' h (aFc _ _) fun y2 h=>(cZ h fun y3 h=>(rp' h))))) (by intro bUu aNe p0 p1 r h;refine ao' (lq' p0 (lq' p1 ?_));refine cd' h ?_ ?_<;>intro h;exact rp' h;exact lq' p0 (lb' (aNe _ _ _ _ h) (wr [] eS bM))) (by intro bUu bQt aNe bL5 p1 p0 x17 r h;refine Lok.un ?_;refine cd' h ?_ ?_<;>intro h;refine iq' h fun y1 h=>(iq' h fun y2 h=>?_);refine aO (.callv (some 29) 26 [27,28]) (J5 (m:=bQt y1 y2) (caps:=[]) (args:=[G9 y1,G9 y2]) (v':=(fun y=>(vB y))) h kr kr (bL5 _ _) kr kr (fun _=>rfl) fun y3 h=>oC ?_);refine cd' h ?_ ?_<;>intro h;exact rp' h;exact lb' (aNe _ _ _ _ h) (wr [] eS bM);exact rp' h) (by intro bCu aD9 p0 p1 r h;exact ao' (cZ h fun y1 h=>(cZ h fun y2 h=>(gc' h (aD9 _ _) fun y3 h=>(cZ h fun y4 h=>(rp' h))))))
abbrev aMc:=rG.1
theorem aD9 (p0:aL) (p1:aL):FOk Tryz.prog 153 [iB p0,iB p1] (fun y=>(vB y)) (aDi p0 p1):=fun r h=>(rG).2.1 p0 p1 r h
theorem bG6 (p0:List aV) (p1:List aV):FOk Tryz.prog 180 [oI p0,oI p1,.fn 181 []] (fun y=>(vB y)) (aL6 p0 p1):=fun r h=>(rG).2.2.1 p0 p1 r h
abbrev aNm:=rG.2.2.2.1
theorem bJv (p0:aV) (p1:aV):FOk Tryz.prog 181 [gM p0,gM p1] (fun y=>(vB y)) (aTa p0 p1):=fun r h=>(rG).2.2.2.2.1 p0 p1 r h
theorem bLr (p0:List eH) (p1:List eH):FOk Tryz.prog 197 [yS p0,yS p1,.fn 194 []] (fun y=>(vB y)) (aWf p0 p1):=fun r h=>(rG).2.2.2.2.2.1 p0 p1 r h
abbrev aR3:=rG.2.2.2.2.2.2.1
theorem bJj (p0:eH) (p1:eH):FOk Tryz.prog 194 [X4 p0,X4 p1] (fun y=>(vB y)) (aXv p0 p1):=fun r h=>(rG).2.2.2.2.2.2.2.1 p0 p1 r h
theorem aFc (p0:List aL) (p1:List aL):FOk Tryz.prog 179 [gI p0,gI p1] (fun y=>(vB y)) (aDc p0 p1):=fun r h=>(rG).2.2.2.2.2.2.2.2.1 p0 p1 r h
theorem bLg (p0:List aL) (p1:List aL):FOk Tryz.prog 191 [gI p0,gI p1,.fn 153 []] (fun y=>(vB y)) (aNf p0 p1):=fun r h=>(rG).2.2.2.2.2.2.2.2.2.1 p0 p1 r h
theorem bEw (p0:List bZ) (p1:List bZ):FOk Tryz.prog 196 [lK p0,lK p1,.fn 193 []] (fun y=>(vB y)) (aRz p0 p1):=fun r h=>(rG).2.2.2.2.2.2.2.2.2.2.1 p0 p1 r h
abbrev aR1:=rG.2.2.2.2.2.2.2.2.2.2.2.1
theorem bH3 (p0:bZ) (p1:bZ):FOk Tryz.prog 193 [O1 p0,O1 p1] (fun y=>(vB y)) (aZ2 p0 p1):=fun r h=>(rG).2.2.2.2.2.2.2.2.2.2.2.2.1 p0 p1 r h
theorem bKm (p0:List dU) (p1:List dU):FOk Tryz.prog 195 [oO p0,oO p1,.fn 192 []] (fun y=>(vB y)) (aW8 p0 p1):=fun r h=>(rG).2.2.2.2.2.2.2.2.2.2.2.2.2.1 p0 p1 r h
abbrev aNe:=rG.2.2.2.2.2.2.2.2.2.2.2.2.2.2.1
theorem bL5 (p0:dU) (p1:dU):FOk Tryz.prog 192 [G9 p0,G9 p1] (fun y=>(vB y)) (aVm p0 p1):=fun r h=>(rG).2.2.2.2.2.2.2.2.2.2.2.2.2.2.2 p0 p1 r h
theorem bY1 (p0:aL):FOk Tryz.prog 118 [iB p0] (fun y=>(vB y)) (aFz p0):=by
 refine aoP fun r h=>?_;rw [aFz] at h;exact cs' h (aD9 _ _) fun y1 h=>(rp' h)
abbrev vW:=aL8.mutual_partial_correctness (fun p0 r=>bC Tryz.prog 184 [gM p0] [] (PQ (fun y=>(vB y)) r)) (fun p0 r=>bC Tryz.prog 63 [gM p0] [] (PQ (fun y=>(vB y)) r)) aUl bC4 (fun p0 r=>bC Tryz.prog 119 [gI p0] [] (PQ (fun y=>(vB y)) r)) (fun p0 r=>bC Tryz.prog 154 [gI p0,.fn 155 []] [] (PQ (fun y=>(vB y)) r)) (fun p0 r=>bC Tryz.prog 182 [gI p0,.fn 155 []] [] (PQ (fun y=>(vI y)) r)) bAq (fun p0 r=>bC Tryz.prog 155 [iB p0] [] (PQ (fun y=>(vB y)) r)) (fun p0 r=>bC Tryz.prog 156 [iB p0] [] (PQ (fun y=>(vB y)) r)) (fun p0 r=>bC Tryz.prog 183 [oI p0,.fn 184 []] [] (PQ (fun y=>(vB y)) r)) (fun p0 r=>bC Tryz.prog 198 [oI p0,.fn 184 []] [] (PQ (fun y=>(vI y)) r)) aUd (by intro cHv aS3 p0 r h;exact ao' (cs' h (aS3 _) fun y1 h=>(rp' h))) (by intro bMi aQ1 p0 r h;refine ao' (lq' p0.items (gD p0.items (bO h fun y1 h=>(gD p0.from_ (bO h fun y2 h=>(gD p0.from_ (bO h fun y3 h=>(gD p0.where_ (bO h fun y4 h=>(gD p0.order (bO h fun y5 h=>(bO h fun y6 h=>?_))))))))))));refine cd' h ?_ ?_<;>intro h;exact rp' h;exact lq' p0.items (lb' (aQ1 _ _ _ h) (wr [] eS bS))) (by intro bMi bTh aQ1 aMt p0 x49 r h;refine Lok.un ?_;refine cd' h ?_ ?_<;>intro h;refine iq' h fun y7 h=>(gc' h (aS8 _) fun y8 h=>?_);refine aO (.g 55 true (.pick 64 60 (kB true) 63)) (gv true y7.star ZV h (fun y hy hc=>kE hy (p:=true) (q:=((true&&(y7.star==true))&&((!y8)==false))) (Eq.trans (b:=([true&&(y7.star==true)]:List Bool).all id) kr (fQ hc rfl)) kr kr kr (fun _=>rfl) (fun hb=>oP hc hb)) fun y9 h=>oC ?_);refine gc' h (bY1 _) fun y10 h=>?_;refine aO (.g 55 true (.pick 70 65 (kB true) 69)) (gv true y7.star ZV h (fun y hy hc=>kE hy (p:=true) (q:=((true&&(y7.star==true))&&(y9==false))) (Eq.trans (b:=([true&&(y7.star==true)]:List Bool).all id) kr (fQ hc rfl)) kr kr kr (fun _=>rfl) (fun hb=>oP hc hb)) fun y11 h=>oC ?_);refine cZ h fun y12 h=>(gc' h (aS8 _) fun y13 h=>?_);refine aO (.g 76 true (.pick 85 80 (kB true) 84)) (gv (true&&(y12==false)) (!y7.star) ZV h (fun y hy hc=>kE hy (p:=true) (q:=(((true&&(y12==false))&&((!y7.star)==true))&&((!decide (y7.qual=[]))==false))) (Eq.trans (b:=([(true&&(y12==false))&&((!y7.star)==true)]:List Bool).all id) kr (fQ hc rfl)) kr kr kr (fun _=>rfl) (fun hb=>oP hc hb)) fun y14 h=>oC ?_);refine aO (.g 72 false (.pick 86 76 85 (kB false))) (gv true y12 ZV h (fun y hy hc=>kE hy (p:=((true&&(y12==false))&&((!y7.star)==true))) (q:=true) (Eq.trans (b:=([true&&(y12==false)]:List Bool).all id) kr (fQ hc rfl)) kr kr kr (fun hb=>uO hc hb) (fun _=>rfl)) fun y15 h=>oC ?_);refine bO h fun y16 h=>?_;refine cd' h ?_ ?_<;>intro h;exact rp' h;exact lb' (aQ1 _ _ _ h) (wr [] eS bS);exact lq' p0.from_ (lb' (aMt _ _ _ h) (wr [] eS bS))) (by intro bTh bSx aMt aMu p0 x92 r h;refine Lok.un ?_;refine cd' h ?_ ?_<;>intro h;refine iq' h fun y17 h=>(cs' h (aCv _) fun y18 h=>(gc' h (aS8 _) fun y19 h=>(bO h fun y20 h=>(gD y17.on_ (bO h fun y21 h=>(gD y17.on_ ?_))))));refine aO (.g 113 false (.pick 121 116 120 (kB false))) (gv true y21 ZV h (fun y hy hc=>kE hy (p:=((true&&(y21==false))&&((decide (x92=0))==true))) (q:=true) (Eq.trans (b:=([true&&(y21==false)]:List Bool).all id) kr (fQ hc rfl)) kr kr kr (fun hb=>uO hc hb) (fun _=>rfl)) fun y22 h=>oC ?_);refine bO h fun y23 h=>?_;refine cd' h ?_ ?_<;>intro h;exact rp' h;exact lb' (aMt _ _ _ h) (wr [] eS bS);exact cg' ⟨[],[],[],[],[],[(188,125)],[],[125],[]⟩ h (bC8 _) fun y24 h=>(cs' h (aMu _) fun y25 h=>(rp' h))) (by intro cH7 bJa p0 r h;exact ao' (cs' h (bJa _) fun y1 h=>(rp' h))) (by intro cHo bJ5 p0 r h;exact ao' (cs' h (bJ5 _) fun y1 h=>(rp' h))) (by intro cDe aN2 p0 r h;exact ao' (lq' p0 (lb' (aN2 _ _ _ h) (wr [] eS bM)))) (by intro cDe bWg aN2 bEh p0 x8 r h;refine Lok.un ?_;refine cd' h ?_ ?_<;>intro h;refine iq' h fun y1 h=>?_;refine aO (.callv (some 16) 11 [15]) (J5 (m:=bWg y1) (caps:=[]) (args:=[iB y1]) (v':=(fun y=>(vB y))) h kr kr (bEh _) kr kr (fun _=>rfl) fun y2 h=>oC ?_);refine cd' h ?_ ?_<;>intro h;exact rp' h;exact lb' (aN2 _ _ _ h) (wr [] eS bM);exact rp' h) (by intro cH4 bEv p0 r h;exact ao' (cs' h (bEv _) fun y1 h=>(rp' h))) (by intro bSx cG8 aMu bJ1 p0 r h;refine ao' (cs' h (bD4 _) fun y1 h=>?_);refine aO (.g 12 false (.pick 20 16 19 (kB false))) (gv true (!y1.2) ZV h (fun y hy hc=>kE hy (p:=((true&&((!y1.2)==false))&&((!y1.1.op)==true))) (q:=true) (Eq.trans (b:=([true&&((!y1.2)==false)]:List Bool).all id) kr (fQ hc rfl)) kr kr kr (fun hb=>uO hc hb) (fun _=>rfl)) fun y2 h=>oC ?_);refine bO h fun y3 h=>?_;refine aO (.g 22 false (.pick 29 26 28 (kB false))) (gv true y3 ZV h (fun y hy hc=>kE hy (p:=((true&&(y3==false))&&((!y1.1.not_)==true))) (q:=true) (Eq.trans (b:=([true&&(y3==false)]:List Bool).all id) kr (fQ hc rfl)) kr kr kr (fun hb=>uO hc hb) (fun _=>rfl)) fun y4 h=>oC ?_);refine bO h fun y5 h=>?_;refine aO (.g 31 false (.pick 40 35 39 (kB false))) (gv true y5 ZV h (fun y hy hc=>kE hy (p:=((true&&(y5==false))&&((!y1.1.value)==true))) (q:=true) (Eq.trans (b:=([true&&(y5==false)]:List Bool).all id) kr (fQ hc rfl)) kr kr kr (fun hb=>uO hc hb) (fun _=>rfl)) fun y6 h=>oC ?_);refine bO h fun y7 h=>?_;refine aO (.g 46 true (.pick 54 50 (kB true) 53)) (gv (true&&(y7==false)) (!y1.1.name) ZV h (fun y hy hc=>kE hy (p:=true) (q:=(((true&&(y7==false))&&((!y1.1.name)==true))&&((!decide (p0.qual=[]))==false))) (Eq.trans (b:=([(true&&(y7==false))&&((!y1.1.name)==true)]:List Bool).all id) kr (fQ hc rfl)) kr kr kr (fun _=>rfl) (fun hb=>oP hc hb)) fun y8 h=>oC ?_);refine aO (.g 42 false (.pick 55 46 54 (kB false))) (gv true y7 ZV h (fun y hy hc=>kE hy (p:=((true&&(y7==false))&&((!y1.1.name)==true))) (q:=true) (Eq.trans (b:=([true&&(y7==false)]:List Bool).all id) kr (fQ hc rfl)) kr kr kr (fun hb=>uO hc hb) (fun _=>rfl)) fun y9 h=>oC ?_);refine bO h fun y10 h=>?_;refine cd' h ?_ ?_<;>intro h;exact rp' h;refine lq' p0.kids (gD p0.kids (bO h fun y11 h=>(gD p0.sub (bO h fun y12 h=>?_))));refine cd' h ?_ ?_<;>intro h;exact rp' h;exact cs' h (aMu _) fun y13 h=>(gc' h (bJ1 _) fun y14 h=>(cZ h fun y15 h=>(rp' h)))) (by intro cHg bFt p0 r h;exact ao' (cs' h (bFt _) fun y1 h=>(rp' h))) (by intro bMh aMr p0 r h;exact ao' (lq' p0 (lb' (aMr _ _ _ h) (wr [] eS bM)))) (by intro bSc bMh bEi aMr p0 x8 r h;refine Lok.un ?_;refine cd' h ?_ ?_<;>intro h;refine iq' h fun y1 h=>?_;refine aO (.callv (some 16) 11 [15]) (J5 (m:=bSc y1) (caps:=[]) (args:=[gM y1]) (v':=(fun y=>(vB y))) h kr kr (bEi _) kr kr (fun _=>rfl) fun y2 h=>oC ?_);refine cd' h ?_ ?_<;>intro h;exact rp' h;exact lb' (aMr _ _ _ h) (wr [] eS bM);exact rp' h)
theorem bEi (p0:aV):FOk Tryz.prog 184 [gM p0] (fun y=>(vB y)) (aL8 p0):=fun r h=>(vW).1 p0 r h
theorem aS3 (p0:aV):FOk Tryz.prog 63 [gM p0] (fun y=>(vB y)) (aCz p0):=fun r h=>(vW).2.1 p0 r h
abbrev aQ1:=vW.2.2.1
abbrev aMt:=vW.2.2.2.1
theorem aMu (p0:List aL):FOk Tryz.prog 119 [gI p0] (fun y=>(vB y)) (Y4 p0):=fun r h=>(vW).2.2.2.2.1 p0 r h
theorem bJa (p0:List aL):FOk Tryz.prog 154 [gI p0,.fn 155 []] (fun y=>(vB y)) (aRq p0):=fun r h=>(vW).2.2.2.2.2.1 p0 r h
theorem bJ5 (p0:List aL):FOk Tryz.prog 182 [gI p0,.fn 155 []] (fun y=>(vI y)) (aPn p0):=fun r h=>(vW).2.2.2.2.2.2.1 p0 r h
abbrev aN2:=vW.2.2.2.2.2.2.2.1
theorem bEh (p0:aL):FOk Tryz.prog 155 [iB p0] (fun y=>(vB y)) (aNo p0):=fun r h=>(vW).2.2.2.2.2.2.2.2.1 p0 r h
theorem bEv (p0:aL):FOk Tryz.prog 156 [iB p0] (fun y=>(vB y)) (wY p0):=fun r h=>(vW).2.2.2.2.2.2.2.2.2.1 p0 r h
theorem bJ1 (p0:List aV):FOk Tryz.prog 183 [oI p0,.fn 184 []] (fun y=>(vB y)) (aCb p0):=fun r h=>(vW).2.2.2.2.2.2.2.2.2.2.1 p0 r h
theorem bFt (p0:List aV):FOk Tryz.prog 198 [oI p0,.fn 184 []] (fun y=>(vI y)) (aIg p0):=fun r h=>(vW).2.2.2.2.2.2.2.2.2.2.2.1 p0 r h
abbrev aMr:=vW.2.2.2.2.2.2.2.2.2.2.2.2
abbrev aF5:=aAy.mutual_partial_correctness aTd (fun p0 r=>bC Tryz.prog 61 [gM p0] [] (PQ (fun y=>(vI y)) r)) (fun p0 r=>bC Tryz.prog 114 [gI p0] [] (PQ (fun y=>(vI y)) r)) bCf (fun p0 r=>bC Tryz.prog 151 [iB p0] [] (PQ (fun y=>(vI y)) r)) aWg (by intro cFm cJg aRm aXh p0 fH x23 r h;refine Lok.un ?_;refine cd' h ?_ ?_<;>intro h;exact iq' h fun y4 h=>(cs' h (aXh _) fun y5 h=>(lb' (aRm _ _ _ _ h) (wr [] eS bM)));exact rp' h) (by intro cIa bGc p0 r h;exact ao' (cg' ⟨[],[],[],[],[],[(188,4)],[],[4],[]⟩ h (bC8 _) fun y1 h=>(cs' h (bGc _) fun y2 h=>(rp' h)))) (by intro bRj aMz p0 r h;exact ao' (lq' p0 (lb' (aMz _ _ _ _ h) (wr [] eS bM)))) (by intro bRj bZ3 aMz aPt p0 x3 x8 r h;refine Lok.un ?_;refine cd' h ?_ ?_<;>intro h;exact iq' h fun y1 h=>(cs' h (aPt _) fun y2 h=>(lb' (aMz _ _ _ _ h) (wr [] eS bM)));exact rp' h) (by intro bYg aQg p0 r h;exact ao' (lq' p0.kids (lb' (aQg _ _ _ _ h) (wr [] eS bS)))) (by intro cFm bZ3 bYg aRm aPt aQg p0 x3 x11 r h;refine Lok.un ?_;refine cd' h ?_ ?_<;>intro h;exact iq' h fun y1 h=>(cs' h (aPt _) fun y2 h=>(lb' (aQg _ _ _ _ h) (wr [] eS bS)));exact lq' p0.sub (lb' (aRm _ _ _ _ h) (wr [] eS bM)))
abbrev aRm:=aF5.1
theorem aXh (p0:aV):FOk Tryz.prog 61 [gM p0] (fun y=>(vI y)) (aA0 p0):=fun r h=>(aF5).2.1 p0 r h
theorem bGc (p0:List aL):FOk Tryz.prog 114 [gI p0] (fun y=>(vI y)) (aO4 p0):=fun r h=>(aF5).2.2.1 p0 r h
abbrev aMz:=aF5.2.2.2.1
theorem aPt (p0:aL):FOk Tryz.prog 151 [iB p0] (fun y=>(vI y)) (wZ p0):=fun r h=>(aF5).2.2.2.2.1 p0 r h
abbrev aQg:=aF5.2.2.2.2.2
abbrev aKi:=aE9.mutual_partial_correctness aVl (fun p0 r=>bC Tryz.prog 62 [gM p0] [] (PQ (fun y=>(vI y)) r)) (fun p0 r=>bC Tryz.prog 116 [gI p0] [] (PQ (fun y=>(vI y)) r)) aZp (fun p0 r=>bC Tryz.prog 152 [iB p0] [] (PQ (fun y=>(vI y)) r)) (by intro bTk cG6 aNb bAv p0 x3 x13 r h;refine Lok.un ?_;refine cd' h ?_ ?_<;>intro h;exact iq' h fun y2 h=>(cs' h (bAv _) fun y3 h=>(lb' (aNb _ _ _ _ h) (wr [] eS bM)));exact rp' h) (by intro bUx aOr p0 r h;exact ao' (cg' ⟨[],[],[],[],[],[(188,4)],[],[4],[]⟩ h (bC8 _) fun y1 h=>(cs' h (aOr _) fun y2 h=>(rp' h)))) (by intro bS5 aRk p0 r h;exact ao' (lq' p0 (lb' (aRk _ _ _ _ h) (wr [] eS bM)))) (by intro bS5 cH1 aRk bEu p0 x3 x8 r h;refine Lok.un ?_;refine cd' h ?_ ?_<;>intro h;exact iq' h fun y1 h=>(cs' h (bEu _) fun y2 h=>(lb' (aRk _ _ _ _ h) (wr [] eS bM)));exact rp' h) (by intro bTk bUx aNb aOr p0 r h;exact ao' (cs' h (aOr _) fun y1 h=>(lq' p0.sub (lb' (aNb _ _ _ _ h) (wr [] eS bM)))))
abbrev aNb:=aKi.1
theorem bAv (p0:aV):FOk Tryz.prog 62 [gM p0] (fun y=>(vI y)) (Y8 p0):=fun r h=>(aKi).2.1 p0 r h
theorem aOr (p0:List aL):FOk Tryz.prog 116 [gI p0] (fun y=>(vI y)) (aEt p0):=fun r h=>(aKi).2.2.1 p0 r h
abbrev aRk:=aKi.2.2.2.1
theorem bEu (p0:aL):FOk Tryz.prog 152 [iB p0] (fun y=>(vI y)) (xN p0):=fun r h=>(aKi).2.2.2.2 p0 r h
theorem bS8 (p0:aV):FOk Tryz.prog 20 [gM p0] (fun y=>(vB y)) (aCc p0):=by
 refine aoP fun r h=>?_;rw [aCc] at h;exact cs' h (aXh _) fun y1 h=>(cs' h (bAv _) fun y2 h=>(cs' h (bB6 _ _) fun y3 h=>(gc' h (aS3 _) fun y4 h=>(cZ h fun y5 h=>(rp' h)))))
theorem uK (p0:bA):dN Tryz.prog 22 [.ptr 186 0] [(186,dI p0)] ZV (fun (y:Bool)=>[(186,dI p0)]) (qE p0):=by
 refine aoB fun r h=>?_;rw [qE] at h;exact rb' h
theorem bK5 (y4 X0 yX F5 r) (h:aL9 y4 X0 yX F5=some r):bUl y4 X0 yX F5 r:=by
 rw [aL9] at h;refine Jok.un (cg' ⟨[(186,21)],[],[],[],[],[],[],[],[]⟩ h (uK _) fun y11 h=>?_);refine cd' h ?_ ?_<;>intro h;refine dO (.bld 43 [.nil 1,.nil 1,.nil 10,.nil 11,.nil 10,.nil 1,fJ,aR] []) (oL (c:=[.nil 1,.nil 1,.nil 10,.nil 11,.nil 10,.nil 1,vB false,vI 0]) kr kr rfl (dC ?_));refine rw' (s':=⟨[(4,.ptr 4 0),(5,.ptr 5 0)],[(4,mK (aQ.mk ([]:List Int) ([]:List (List aA)) ([]:List aA) ([]:List bN) ([]:List aA) ([]:List (List UInt8)) false 0)),(5,bIx (eG.mk yX F5))]⟩) (wr [] eS (jP (c0:=[.nil 1,.nil 1,.nil 10,.nil 11,.nil 10,.nil 1,vB false,vI 0]) kr (dW (mF kr kr) (dW (mF kr kr) (dW (mF kr kr) (dW (mF kr kr) (dW (mF kr kr) (dW (mF kr kr) (dW (mG kr kr) (dW (mG kr kr) jN)))))))) bS)) ?_;exact rp' h;exact rp' h
theorem H7 (p0:bA) (p1:Int) (p2:List UInt8):dN Tryz.prog 26 [.ptr 186 0,vI p1,vS p2] [(186,dI p0)] (fun (y:bA)=>(.tup [])) (fun (y:bA)=>[(186,dI y)]) (xV p0 p1 p2):=by
 refine aoB fun r h=>?_;rw [xV] at h;refine cd' h ?_ ?_<;>intro h;exact rb' h;exact rb' h
abbrev ZY (y:List bF):V:=(.osl 188 119 1 (y.map nT))
theorem bHb (p0:bF) (p1:List bF):dN Tryz.prog 64 [uZ p0,gZ p1] [] ZY (fun (y:List bF)=>[]) (aGm p0 p1):=by
 refine aoB fun r h=>?_;rw [aGm] at h;refine aO (.bsl 6 119 1 [5]) (eT (l:=([p0]:List bF)) (f:=nT) (g:=nT) kr (fun _=>rfl) kr (oC ?_));exact aq' 6 nT h fun y1 h=>(rw' (s':=⟨[(4,.osl 188 119 1 (y1.map nT))],[]⟩) (wr [(188,.old 4)] (eo 4 jO) bM) (rb' h))
theorem cDv (p0:List UInt8) (p1:List UInt8):FOk Tryz.prog 123 [vS p0,vS p1] (fun y=>(vS y)) (aU3 p0 p1):=by
 refine aoP fun r h=>?_;rw [aU3] at h;refine cd' h ?_ ?_<;>intro h;exact rp' h;refine aO (.bin 9 .add 8 (.c (.d (.s (bs [46]))))) (vs ZU h (fun y hy=>uI (a:=p0) (b:=[46]) hy kr kr kr) fun y1 h=>oC ?_);refine aO (.bin 11 .add 9 10) (vs ZU h (fun y hy=>uI (a:=y1) (b:=p1) hy kr kr kr) fun y2 h=>oC ?_);exact rp' h
abbrev bK9 (p1) (p2) (p0):=aCq.mutual_partial_correctness p1 p2 p0 (aSv p1 p2 p0) (aV3 p1 p2 p0) (by intro cGv aXl x14 uD r h;exact Jok.un (lb' (aXl _ _ _ h) (wr [(7,.old 7)] (es (es (eo 7 eS))) bM))) (by intro cGr aTv x7 x14 r h;refine Lok.un ?_;refine cd' h ?_ ?_<;>intro h;refine iq' h fun y1 h=>?_;refine aO (.g 23 true (.pick 31 26 (kB true) 30)) (gv true (decide (y1.name=p2)) ZV h (fun y hy hc=>kE hy (p:=true) (q:=((true&&((decide (y1.name=p2))==true))&&((decide (p1=[]))==false))) (Eq.trans (b:=([true&&((decide (y1.name=p2))==true)]:List Bool).all id) kr (fQ hc rfl)) kr kr kr (fun _=>rfl) (fun hb=>oP hc hb)) fun y2 h=>oC ?_);refine cZ h fun y3 h=>?_;refine cd' h ?_ ?_<;>intro h;refine aO (.bsl 35 3 1 [34]) (eT (l:=([x14]:List Int)) (f:=cI) (g:=cI) kr (fun _=>rfl) kr (oC ?_));exact aq' 7 cI h fun y4 h=>(jn' (aTv _ _ _ h) (wr [(7,.old 7)] (es (es (eo 7 eS))) bM));exact jn' (aTv _ _ _ h) (wr [(7,.old 7)] (es (es (eo 7 eS))) bM);exact rw' (s':=⟨[(6,.osl 188 3 1 (x7.map cI))],[]⟩) (wr [(188,.old 6)] (eo 6 jO) bM) (rb' h))
abbrev aTv:=fun p1 p2 p0=>(bK9 p1 p2 p0).1
abbrev aXl:=fun p1 p2 p0=>(bK9 p1 p2 p0).2
theorem bQa (p0:bF) (p1:List UInt8) (p2:List UInt8):dN Tryz.prog 158 [uZ p0,vS p1,vS p2] [] Zd Ze (aDw p0 p1 p2):=by
 refine aoB fun r h=>?_;rw [aDw] at h;refine aO (.bsl 10 3 1 []) (eT (l:=([]:List Int)) (f:=cI) (g:=cI) kr (fun _=>rfl) kr (oC ?_));exact lq' p0.names (lb' (aXl _ _ _ _ _ _ h) (wr [(7,.old 7)] (es (es (eo 7 eS))) bM))
abbrev bYi (p1) (p2) (p0):=Y5.partial_correctness p1 p2 p0 (aUx p1 p2 p0) (by intro cGx aSd x13 r h;refine Lok.un ?_;refine cd' h ?_ ?_<;>intro h;refine iq' h fun y1 h=>(cg' ⟨[],[],[],[],[],[(188,21)],[],[21],[]⟩ h (bQa _ _ _) fun y2 h=>(lW cI y2 ?_));refine cd' h ?_ ?_<;>intro h;exact lb' (aSd _ _ h) (wr [] eS bS);refine cd' h ?_ ?_<;>intro h;exact kH cI h fun y3 h=>(kH cI h fun y4 h=>(iq' h fun y5 h=>(rp' h)));exact rp' h;exact rp' h)
abbrev aSd:=bYi
theorem cCf (p0:List bF) (p1:List UInt8) (p2:List UInt8):FOk Tryz.prog 122 [gZ p0,vS p1,vS p2] (fun y=>(.tup [bJy y.1,vI y.2])) (aI0 p0 p1 p2):=by
 refine aoP fun r h=>?_;rw [aI0] at h;exact lq' p0 (lb' (aSd _ _ _ _ _ h) (wr [] eS bS))
theorem bKa (p0:bZ):FOk Tryz.prog 157 [O1 p0] (fun y=>(vS y)) (aH0 p0):=by
 refine aoP fun r h=>?_;rw [aH0] at h;refine cd' h ?_ ?_<;>intro h;exact rp' h;exact rp' h
end Go.Proofs.YtiofikmhbpbejaaGreatDoor
