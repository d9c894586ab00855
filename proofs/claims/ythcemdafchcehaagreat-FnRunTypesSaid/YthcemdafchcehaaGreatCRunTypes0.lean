/- That the code computes these functions (printed by a program). -/
import Derived.Test.YthcemdafchcehaaGreatAbW
import Derived.Test.YthcemdafchcehaaGreatAbQ
import Derived.KernelRfl
import Derived.Test.YthcemdafchcehaaGreatAbG2
import Derived.Test.YthcemdafchcehaaGreatAbC3
import Derived.Test.YthcemdafchcehaaGreatAbX6
import Derived.Test.YthcemdafchcehaaGreatAbX5
import Derived.Test.YthcemdafchcehaaGreatAbX3
import Derived.Test.YthcemdafchcehaaGreatAbX2
import Derived.Test.YthcemdafchcehaaGreatFRunTypes
import Derived.Test.YthcemdafchcehaaGreatProg
namespace Go.Proofs.YthcemdafchcehaaGreat
open Go Go.RowKit Go.Ab
open Go.IntKind renaming wrap→QA
open _root_.Int renaming fdiv→QB
open _root_.List renaming map_nil→QC,map_cons→QD,mem_cons_of_mem→QE,cons_append→QF,nil_append→QG,length_map→QH
attribute [local irreducible] avc cZ aop dgo jK vY uF wkK V4 stz bBp bG eff bI.st Cf.ok Cf.way Cf.put Cf.putS Cf.putD Cf.A Cf.W Cf.to Cf.reg Cf.withS GQ Q3 vT A8 sF Lok Jok Cf.kr Cf.ll Cf.dw Cf.stt Cf.z Cf.zW
def cI (n:Int):List D:=[.i .i64 n]
def cU8 (n:Int):List D:=[.i .u8 n]
def cHu (n:Int):List D:=[.i .u64 n]
def cH3 (n:Int):List D:=[.i .i32 n]
def cH8 (n:Int):List D:=[.i .u32 n]
def cB (b:Bool):List D:=[.b b]
def cStr (s:List UInt8):List D:=[.s (bs s)]
def cSl {α:Type} (sz:Nat) (f:α→List D) (l:List α):List D:=[.sl sz (l.map f)]
def kV (x:gG):List D:=[.s (bs x.name),.i .i64 x.type]
def bRh (x:gG):V:=.agg (kV x)
def bP7 (x:gG):List V:=(kV x).map V.d
def lM (x:eD):List D:=[.s (bs x.name),.sl 2 (x.cols.map kV)]
def aG0 (x:eD):V:=.agg (lM x)
def aLt (x:eD):List V:=(lM x).map V.d
def rU (x:aP):List D:=[.sl 2 (x.tables.map lM)]
def dD (x:aP):V:=.agg (rU x)
def dN (x:aP):List V:=(rU x).map V.d
def aB (x:aA):List D:=[.i .i64 x.kind,.i .i64 x.num,.s (bs x.text)]
def bN (x:aA):V:=.agg (aB x)
def vR (x:aA):List V:=(aB x).map V.d
def jY (x:fP):List D:=[.sl 1 (x.rows.map (cSl 3 aB))]
def cGv (x:fP):V:=.agg (jY x)
def cGu (x:fP):List V:=(jY x).map V.d
def qW (x:GDb):List D:=[.sl 1 (x.tables.map jY)]
def iL (x:GDb):V:=.agg (qW x)
def mR (x:GDb):List V:=(qW x).map V.d
mutual
def aV:aJ→List D
  | ⟨a0,a1,a2,a3,a4,a5,a6,a7⟩=>[.i .i64 a0]++[.i .i64 a1]++[.b a2]++aB a3++[.i .i64 a4]++[.i .i64 a5]++[.sl 10 (aAb a6)]++[.sl 8 (aHh a7)]
def jF:dI→List D
  | ⟨a0,a1⟩=>aV a0++[.b a1]
def eU:aQ→List D
  | ⟨a0,a1,a2,a3,a4,a5,a6,a7⟩=>[.sl 1 (a0.map cI)]++[.sl 1 (aJv a1)]++[.sl 10 (aAb a2)]++[.sl 11 (aJc a3)]++[.sl 10 (aAb a4)]++[.sl 1 (a5.map cStr)]++[.b a6]++[.i .i64 a7]
def aAb:List aJ→List (List D)
  | []=>[]
  | x::l=>aV x::aAb l
def aJc:List dI→List (List D)
  | []=>[]
  | x::l=>jF x::aJc l
def aHh:List aQ→List (List D)
  | []=>[]
  | x::l=>eU x::aHh l
def aJv:List (List aJ)→List (List D)
  | []=>[]
  | x::l=>[.sl 10 (aAb x)]::aJv l
end
theorem aIp:∀ l:List aJ,aAb l=l.map aV
  | []=>by simp only [aAb,QC]
  | x::l=>by simp only [aAb,QD,aIp l]
theorem aQ3:∀ l:List dI,aJc l=l.map jF
  | []=>by simp only [aJc,QC]
  | x::l=>by simp only [aJc,QD,aQ3 l]
theorem aPa:∀ l:List aQ,aHh l=l.map eU
  | []=>by simp only [aHh,QC]
  | x::l=>by simp only [aHh,QD,aPa l]
theorem aNp:∀ l:List (List aJ),aJv l=l.map (cSl 10 aV)
  | []=>by simp only [aJv,QC]
  | x::l=>by simp only [aJv,QD,aNp l,cSl,aIp]
def jG (x:aJ):List D:=[.i .i64 x.kind,.i .i64 x.op,.b x.not_,.i .i64 x.value.kind,.i .i64 x.value.num,.s (bs x.value.text),.i .i64 x.up,.i .i64 x.at_,.sl 10 (x.kids.map aV),.sl 8 (x.sub.map eU)]
def aB2 (x:dI):List D:=[.i .i64 x.expr.kind,.i .i64 x.expr.op,.b x.expr.not_,.i .i64 x.expr.value.kind,.i .i64 x.expr.value.num,.s (bs x.expr.value.text),.i .i64 x.expr.up,.i .i64 x.expr.at_,.sl 10 (x.expr.kids.map aV),.sl 8 (x.expr.sub.map eU),.b x.desc]
def J8 (x:aQ):List D:=[.sl 1 (x.tables.map cI),.sl 1 (x.on_.map (cSl 10 aV)),.sl 10 (x.where_.map aV),.sl 11 (x.order.map jF),.sl 10 (x.items.map aV),.sl 1 (x.names.map cStr),.b x.distinct,.i .i64 x.limit]
theorem nG (x:aJ):aV x=jG x:=by
  obtain ⟨a0,a1,a2,a3,a4,a5,a6,a7⟩:=x
  simp only [aV,jG,aIp,aQ3,aPa,aNp,QF,QG,aB]
theorem aWy (x:dI):jF x=aB2 x:=by
  obtain ⟨a0,a1⟩:=x
  simp only [jF,aB2,aIp,aQ3,aPa,aNp,nG,jG,QF,QG]
theorem aI5 (x:aQ):eU x=J8 x:=by
  obtain ⟨a0,a1,a2,a3,a4,a5,a6,a7⟩:=x
  simp only [eU,J8,aIp,aQ3,aPa,aNp,QF,QG]
def iQ (x:aJ):V:=.agg (jG x)
def vX (x:aJ):List V:=(jG x).map V.d
def cG5 (x:dI):V:=.agg (aB2 x)
def cFk (x:dI):List V:=(aB2 x).map V.d
def fO (x:aQ):V:=.agg (J8 x)
def lJ (x:aQ):List V:=(J8 x).map V.d
mutual
def qR:eP→List D
  | ⟨a0,a1,a2,a3,a4,a5,a6,a7⟩=>[.i .i64 a0]++[.i .i64 a1]++[.b a2]++aB a3++[.s (bs a4)]++[.s (bs a5)]++[.sl 10 (aBj a6)]++[.sl 6 (aGc a7)]
def aBh:qA→List D
  | ⟨a0,a1,a2,a3⟩=>[.b a0]++[.s (bs a1)]++qR a2++[.s (bs a3)]
def wX:jL→List D
  | ⟨a0,a1,a2,a3,a4,a5⟩=>[.b a0]++[.sl 13 (aJo a1)]++[.sl 3 (aGz a2)]++[.sl 10 (aBj a3)]++[.sl 11 (aKb a4)]++[.i .i64 a5]
def aBw:pU→List D
  | ⟨a0,a1⟩=>qR a0++[.b a1]
def aBi:qC→List D
  | ⟨a0,a1,a2⟩=>[.s (bs a0)]++[.s (bs a1)]++[.sl 10 (aBj a2)]
def aBj:List eP→List (List D)
  | []=>[]
  | x::l=>qR x::aBj l
def aJo:List qA→List (List D)
  | []=>[]
  | x::l=>aBh x::aJo l
def aGc:List jL→List (List D)
  | []=>[]
  | x::l=>wX x::aGc l
def aKb:List pU→List (List D)
  | []=>[]
  | x::l=>aBw x::aKb l
def aGz:List qC→List (List D)
  | []=>[]
  | x::l=>aBi x::aGz l
end
theorem aEs:∀ l:List eP,aBj l=l.map qR
  | []=>by simp only [aBj,QC]
  | x::l=>by simp only [aBj,QD,aEs l]
theorem aE3:∀ l:List qA,aJo l=l.map aBh
  | []=>by simp only [aJo,QC]
  | x::l=>by simp only [aJo,QD,aE3 l]
theorem aE5:∀ l:List jL,aGc l=l.map wX
  | []=>by simp only [aGc,QC]
  | x::l=>by simp only [aGc,QD,aE5 l]
theorem aFt:∀ l:List pU,aKb l=l.map aBw
  | []=>by simp only [aKb,QC]
  | x::l=>by simp only [aKb,QD,aFt l]
theorem aDu:∀ l:List qC,aGz l=l.map aBi
  | []=>by simp only [aGz,QC]
  | x::l=>by simp only [aGz,QD,aDu l]
def W9 (x:eP):List D:=[.i .i64 x.kind,.i .i64 x.op,.b x.not_,.i .i64 x.value.kind,.i .i64 x.value.num,.s (bs x.value.text),.s (bs x.qual),.s (bs x.name),.sl 10 (x.kids.map qR),.sl 6 (x.sub.map wX)]
def aI1 (x:qA):List D:=[.b x.star,.s (bs x.qual),.i .i64 x.expr.kind,.i .i64 x.expr.op,.b x.expr.not_,.i .i64 x.expr.value.kind,.i .i64 x.expr.value.num,.s (bs x.expr.value.text),.s (bs x.expr.qual),.s (bs x.expr.name),.sl 10 (x.expr.kids.map qR),.sl 6 (x.expr.sub.map wX),.s (bs x.as_)]
def aG3 (x:jL):List D:=[.b x.distinct,.sl 13 (x.items.map aBh),.sl 3 (x.from_.map aBi),.sl 10 (x.where_.map qR),.sl 11 (x.order.map aBw),.i .i64 x.limit]
def aIr (x:pU):List D:=[.i .i64 x.expr.kind,.i .i64 x.expr.op,.b x.expr.not_,.i .i64 x.expr.value.kind,.i .i64 x.expr.value.num,.s (bs x.expr.value.text),.s (bs x.expr.qual),.s (bs x.expr.name),.sl 10 (x.expr.kids.map qR),.sl 6 (x.expr.sub.map wX),.b x.desc]
def aKi (x:qC):List D:=[.s (bs x.table),.s (bs x.as_),.sl 10 (x.on_.map qR)]
theorem aDr (x:eP):qR x=W9 x:=by
  obtain ⟨a0,a1,a2,a3,a4,a5,a6,a7⟩:=x
  simp only [qR,W9,aEs,aE3,aE5,aFt,aDu,QF,QG,aB]
theorem bNh (x:qA):aBh x=aI1 x:=by
  obtain ⟨a0,a1,a2,a3⟩:=x
  simp only [aBh,aI1,aEs,aE3,aE5,aFt,aDu,aDr,W9,QF,QG]
theorem bE0 (x:jL):wX x=aG3 x:=by
  obtain ⟨a0,a1,a2,a3,a4,a5⟩:=x
  simp only [wX,aG3,aEs,aE3,aE5,aFt,aDu,QF,QG]
theorem bPg (x:pU):aBw x=aIr x:=by
  obtain ⟨a0,a1⟩:=x
  simp only [aBw,aIr,aEs,aE3,aE5,aFt,aDu,aDr,W9,QF,QG]
theorem bWw (x:qC):aBi x=aKi x:=by
  obtain ⟨a0,a1,a2⟩:=x
  simp only [aBi,aKi,aEs,aE3,aE5,aFt,aDu,QF,QG]
def bH0 (x:eP):V:=.agg (W9 x)
def bSg (x:eP):List V:=(W9 x).map V.d
def cG2 (x:qA):V:=.agg (aI1 x)
def cFl (x:qA):List V:=(aI1 x).map V.d
def cG9 (x:jL):V:=.agg (aG3 x)
def cFy (x:jL):List V:=(aG3 x).map V.d
def cI2 (x:pU):V:=.agg (aIr x)
def cIs (x:pU):List V:=(aIr x).map V.d
def cH0 (x:qC):V:=.agg (aKi x)
def cJ2 (x:qC):List V:=(aKi x).map V.d
def aSw (x:kG):List D:=[.b x.op,.b x.not_,.b x.value,.b x.name,.i .i64 x.least,.i .i64 x.most,.i .i64 x.subs]
def aYn (x:kG):V:=.agg (aSw x)
def cFv (x:kG):List V:=(aSw x).map V.d
def aNo (x:bP):D:=.fn 47 [rU x.c0,qW x.c1,(cSl 1 (cSl 3 aB)) x.c2,jG x.c3]
def iE (x:bP):List D:=[aNo x]
def vK (x:mX):List D:=[aNo x.eval,.b x.desc]
def cI4 (x:mX):V:=.agg (vK x)
def cGe (x:mX):List V:=(vK x).map V.d
def bGm (x:aAk):D:=.fn 49 [(cSl 1 iE) x.c0]
def cGr (x:aAk):List D:=[bGm x]
def tY (x:eQ):List D:=[.sl 1 (x.tables.map (cSl 1 (cSl 3 aB))),.sl 1 (x.on_.map (cSl 1 iE)),.sl 1 (x.where_.map iE),.sl 2 (x.order.map vK),bGm x.items,.b x.distinct,.i .i64 x.limit]
def G8 (x:eQ):V:=.agg (tY x)
def aBa (x:eQ):List V:=(tY x).map V.d
def aWm (x:nR):D:=.fn 46 [rU x.c0,qW x.c1,(cSl 1 (cSl 3 aB)) x.c2]
def cJ4 (x:nR):List D:=[aWm x]
def bA (x:aU):List D:=[.sl 3 (x.row.map aB),.sl 3 (x.keys.map aB)]
def jV (x:aU):V:=.agg (bA x)
def aM2 (x:aU):List V:=(bA x).map V.d
def lU (x:eY):D:=.fn 136 [tY x.c0]
def cG4 (x:eY):List D:=[lU x]
def aS7 (x:oW):List D:=[.i .i64 x.kind,.i .i64 x.op,.b x.not_,.i .i64 x.value.kind,.i .i64 x.value.num,.s (bs x.value.text),.sl 3 (x.kids.map aB),.sl 1 (x.rows.map (cSl 3 aB))]
def bJi (x:oW):V:=.agg (aS7 x)
def bZ5 (x:oW):List V:=(aS7 x).map V.d
def aXi (x:aL):List D:=[.sl 1 (x.b.map cU8),.i .i64 x.i,.i .i64 x.h]
def cIg (x:aL):V:=.agg (aXi x)
def aZ (x:aL):List V:=(aXi x).map V.d
instance:Enc (List aA):=⟨cSl 3 aB,cSl 3 aB,(fun _=>rfl)⟩
instance:Enc aA:=⟨aB,aB,(fun _=>rfl)⟩
instance:Enc fP:=⟨jY,jY,(fun _=>rfl)⟩
instance:Enc eD:=⟨lM,lM,(fun _=>rfl)⟩
instance:Enc gG:=⟨kV,kV,(fun _=>rfl)⟩
instance:Enc (List aJ):=⟨cSl 10 aV,cSl 10 aV,(fun _=>rfl)⟩
instance:Enc dI:=⟨jF,aB2,aWy⟩
instance:Enc aJ:=⟨aV,jG,nG⟩
instance:Enc aQ:=⟨eU,J8,aI5⟩
instance:Enc (List UInt8):=⟨cStr,cStr,(fun _=>rfl)⟩
instance:Enc mX:=⟨vK,vK,(fun _=>rfl)⟩
instance:Enc (List (List aA)):=⟨cSl 1 (cSl 3 aB),cSl 1 (cSl 3 aB),(fun _=>rfl)⟩
instance:Enc eP:=⟨qR,W9,aDr⟩
instance:Enc jL:=⟨wX,aG3,bE0⟩
theorem kr {p:Prop} (h:p:=by kernel_rfl):p:=h
def fU (l:List Int):V:=.d (.sl 1 (l.map cI))
def eT (l:List aA):V:=.d (.sl 3 (l.map aB))
def bA3 (l:List eD):V:=.d (.sl 2 (l.map lM))
def aPd (l:List gG):V:=.d (.sl 2 (l.map kV))
def uT (l:List dI):V:=.d (.sl 11 (l.map jF))
def fM (l:List aJ):V:=.d (.sl 10 (l.map aV))
def aOz (l:List aQ):V:=.d (.sl 8 (l.map eU))
def aOe (l:List (List UInt8)):V:=.d (.sl 1 (l.map cStr))
def aRb (l:List mX):V:=.d (.sl 2 (l.map vK))
def yL (l:List bP):V:=.d (.sl 1 (l.map iE))
def bMx (l:List fP):V:=.d (.sl 1 (l.map jY))
def aDe (l:List Int):V:=.d (.sl 1 (l.map cU8))
def mM:V:=(.d (.s (bs [])))
def bJ:V:=(.d (.i .i64 0))
def mG:V:=(.d (.b false))

def cB5 (y3:(List (List aA))×Int) (y12:(List Int)×Bool) (y2:aP×GDb×aQ) (x12:Int):St:=⟨[(5,.ptr 5 0),(6,.d (.sl 1 (y3.1.map (cSl 3 aB)))),(10,.osl 10 3 1 (y12.1.map cI)),(12,vI x12)],[(5,lJ y2.2.2)]⟩
abbrev aR5:=fun y3 y12 y2 x12 r=>Lok Tryz.prog 3 0 (PQ (fun y=>(vB y)) r) (cB5 y3 y12 y2 x12)
def bVu (p1:List Int) (p0:List aA) (x14:Int):St:=⟨[(1,fU p1),(12,eT p0),(13,vI (p0.length:Int)),(14,vI x14)],[]⟩
abbrev aYm:=fun p1 p0 x14 r=>Lok Tryz.prog 11 0 (PQ (fun y=>(vB y)) r) (bVu p1 p0 x14)



def bOb (p0:aP) (p1:GDb) (x5:Int):St:=⟨[(2,.ptr 2 0),(3,.ptr 3 0),(5,vI x5)],[(2,dN p0),(3,mR p1)]⟩
abbrev aVg:=fun p0 p1 x5 r=>Lok Tryz.prog 9 0 (PQ (fun y=>(vB y)) r) (bOb p0 p1 x5)
def bPd (x5:Int) (p0:aP) (p1:GDb) (x6:Int):St:=⟨[(2,.ptr 2 0),(3,.ptr 3 0),(5,vI x5),(6,vI x6)],[(2,dN p0),(3,mR p1)]⟩
abbrev aTd:=fun x5 p0 p1 x6 r=>Lok Tryz.prog 9 1 (PQ (fun y=>(vB y)) r) (bPd x5 p0 p1 x6)
def bQf (p0:List aA) (p1:List Int) (x5:Int):St:=⟨[(0,eT p0),(1,fU p1),(5,vI x5)],[]⟩
abbrev aRu:=fun p0 p1 x5 r=>Lok Tryz.prog 12 0 (PQ (fun y=>(vB y)) r) (bQf p0 p1 x5)



def bKt (p0:eD) (x3:List Int) (x4:Int):St:=⟨[(1,.ptr 1 0),(3,.osl 3 3 1 (x3.map cI)),(4,vI x4)],[(1,aLt p0)]⟩
abbrev Z1 (y:List Int):V:=(.osl 243 3 1 (y.map cI))
abbrev Z2 (y:List Int):List (Nat×List V):=[]
abbrev aQy:=fun p0 x3 x4 (r:List Int)=>Lok Tryz.prog 23 0 (BQ Z1 Z2 r) (bKt p0 x3 x4)
def cCe (p0:aP) (x3:Int):St:=⟨[(1,.ptr 1 0),(3,vI x3)],[(1,dN p0)]⟩
abbrev aZj:=fun p0 x3 r=>Lok Tryz.prog 20 0 (PQ (fun y=>(vB y)) r) (cCe p0 x3)
def bKf (x3:Int) (p0:aP) (y1:eD) (x5:Int):St:=⟨[(1,.ptr 1 0),(3,vI x3),(4,.ptr 4 0),(5,vI x5)],[(1,dN p0),(4,aLt y1)]⟩
abbrev aS6:=fun x3 p0 y1 x5 r=>Lok Tryz.prog 20 1 (PQ (fun y=>(vB y)) r) (bKf x3 p0 y1 x5)
def cCj (p1:List UInt8) (p0:aP) (x5:Int):St:=⟨[(1,vS p1),(2,.ptr 2 0),(5,vI x5)],[(2,dN p0)]⟩
abbrev aQv:=fun p1 p0 x5 r=>Lok Tryz.prog 59 0 (PQ (fun y=>(vI y)) r) (cCj p1 p0 x5)
def bQe (p1:List UInt8) (p0:eD) (x5:Int):St:=⟨[(1,vS p1),(2,.ptr 2 0),(5,vI x5)],[(2,aLt p0)]⟩
abbrev aY8:=fun p1 p0 x5 r=>Lok Tryz.prog 61 0 (PQ (fun y=>(vI y)) r) (bQe p1 p0 x5)



def cBy (p0:aP) (x8:Int):St:=⟨[(1,.ptr 1 0),(6,bA3 p0.tables),(7,vI (p0.tables.length:Int)),(8,vI x8)],[(1,dN p0)]⟩
abbrev aRx:=fun p0 x8 r=>Lok Tryz.prog 38 0 (PQ (fun y=>(vB y)) r) (cBy p0 x8)

def bTi (p0:List eD) (c0_0:List UInt8) (x8:Int):St:=⟨[(0,bA3 p0),(1,.fn 116 [.ptr 241 0]),(7,vI (p0.length:Int)),(8,vI x8)],[(241,[vS c0_0])]⟩
abbrev Z3 (y:Int):V:=(vI y)
abbrev aYt:=fun p0 c0_0 x8 r=>Lok Tryz.prog 115 0 (BQ Z3 (fun (y:Int)=>[(241,[vS c0_0])]) r) (bTi p0 c0_0 x8)

def cEs (p0:eD) (x8:Int):St:=⟨[(1,.ptr 1 0),(6,aPd p0.cols),(7,vI (p0.cols.length:Int)),(8,vI x8)],[(1,aLt p0)]⟩
abbrev aV8:=fun p0 x8 r=>Lok Tryz.prog 81 0 (PQ (fun y=>(vB y)) r) (cEs p0 x8)

def cCz (p0:List gG) (c0_0:List UInt8) (x8:Int):St:=⟨[(0,aPd p0),(1,.fn 155 [.ptr 241 0]),(7,vI (p0.length:Int)),(8,vI x8)],[(241,[vS c0_0])]⟩
abbrev aSo:=fun p0 c0_0 x8 r=>Lok Tryz.prog 154 0 (BQ Z3 (fun (y:Int)=>[(241,[vS c0_0])]) r) (cCz p0 c0_0 x8)


def bS4 (p1:List (List Int)) (y1:(List Int)×Bool) (p2:aQ) (p0:aP) (x41:Int):St:=⟨[(1,.d (.sl 1 (p1.map (cSl 1 cI)))),(3,.ptr 3 0),(5,.ptr 5 0),(8,.osl 8 3 1 (y1.1.map cI)),(39,.d (.sl 1 (p2.on_.map (cSl 10 aV)))),(40,vI (p2.on_.length:Int)),(41,vI x41)],[(3,dN p0),(5,lJ p2)]⟩
abbrev Za (y:(List Int)×Bool):V:=(.tup [.osl 243 3 1 (y.1.map cI),vB y.2])
abbrev Zc (y:(List Int)×Bool):List (Nat×List V):=[]
abbrev aU7:=fun p1 y1 p2 p0 x41 (r:(List Int)×Bool)=>Lok Tryz.prog 42 0 (BQ Za Zc r) (bS4 p1 y1 p2 p0 x41)
def cEw (y9:List (List Int)) (p2:aQ) (p0:aP) (x76:Int):St:=⟨[(3,.ptr 3 0),(5,.ptr 5 0),(14,.osl 14 30 1 (y9.map (cSl 1 cI))),(74,uT p2.order),(75,vI (p2.order.length:Int)),(76,vI x76)],[(3,dN p0),(5,lJ p2)]⟩
abbrev aSs:=fun y9 p2 p0 x76 (r:(List Int)×Bool)=>Lok Tryz.prog 42 1 (BQ Za Zc r) (cEw y9 p2 p0 x76)
def bO9 (y9:List (List Int)) (p2:aQ) (p0:aP) (x19:List Int) (x95:Int):St:=⟨[(3,.ptr 3 0),(14,.osl 14 30 1 (y9.map (cSl 1 cI))),(19,.osl 19 3 1 (x19.map cI)),(93,fM p2.items),(94,vI (p2.items.length:Int)),(95,vI x95)],[(3,dN p0)]⟩
abbrev aZb:=fun y9 p2 p0 x19 x95 (r:(List Int)×Bool)=>Lok Tryz.prog 42 2 (BQ Za Zc r) (bO9 y9 p2 p0 x19 x95)
def bVb (p1:List (List Int)) (p2:aJ) (p0:aP) (x8:List Int) (x64:Int):St:=⟨[(1,.d (.sl 1 (p1.map (cSl 1 cI)))),(3,.ptr 3 0),(5,.ptr 5 0),(8,.osl 8 3 1 (x8.map cI)),(9,.osl 9 3 1 (([]:List Int).map cI)),(62,fM p2.kids),(63,vI (p2.kids.length:Int)),(64,vI x64)],[(3,dN p0),(5,vX p2)]⟩
abbrev aRw:=fun p1 p2 p0 x8 x64 (r:Int×Bool)=>Lok Tryz.prog 90 0 (PQ (fun y=>(.tup [vI y.1,vB y.2])) r) (bVb p1 p2 p0 x8 x64)
def cFd (p1:List (List Int)) (x8:List Int) (p2:aJ) (p0:aP) (x9:List Int) (x85:Int):St:=⟨[(1,.d (.sl 1 (p1.map (cSl 1 cI)))),(3,.ptr 3 0),(5,.ptr 5 0),(8,.osl 8 3 1 (x8.map cI)),(9,.osl 9 3 1 (x9.map cI)),(83,aOz p2.sub),(84,vI (p2.sub.length:Int)),(85,vI x85)],[(3,dN p0),(5,vX p2)]⟩
abbrev aT4:=fun p1 x8 p2 p0 x9 x85 (r:Int×Bool)=>Lok Tryz.prog 90 1 (PQ (fun y=>(.tup [vI y.1,vB y.2])) r) (cFd p1 x8 p2 p0 x9 x85)
def bT4 (p1:List Int) (p2:List Int) (x40:Bool):St:=⟨[(1,fU p1),(2,fU p2),(40,vB x40)],[]⟩
abbrev bLx:=fun p1 p2 x40 (r:Int×Bool)=>Jok Tryz.prog 127 9 (PQ (fun y=>(.tup [vI y.1,vB y.2])) r) (bT4 p1 p2 x40)




def bTb (p0:List Int) (x4:Int) (x11:Int):St:=⟨[(4,vI x4),(9,fU p0),(10,vI (p0.length:Int)),(11,vI x11)],[]⟩
abbrev aTh:=fun p0 x4 x11 (r:Int×Bool)=>Lok Tryz.prog 162 0 (PQ (fun y=>(.tup [vI y.1,vB y.2])) r) (bTb p0 x4 x11)


def cBf (x8:Int) (x9:Bool):St:=⟨[(8,vI x8),(9,vB x9)],[]⟩
abbrev bZ8:=fun x8 x9 (r:Int×Bool)=>Jok Tryz.prog 161 2 (PQ (fun y=>(.tup [vI y.1,vB y.2])) r) (cBf x8 x9)





def bWf (p0:List (List UInt8)) (x8:Int):St:=⟨[(0,aOe p0),(1,.fn 122 []),(7,vI (p0.length:Int)),(8,vI x8)],[]⟩
abbrev aUc:=fun p0 x8 r=>Lok Tryz.prog 157 0 (PQ (fun y=>(vI y)) r) (bWf p0 x8)


def bN9 (p0:List (List aJ)) (x8:Int):St:=⟨[(0,.d (.sl 1 (p0.map (cSl 10 aV)))),(1,.fn 120 []),(7,vI (p0.length:Int)),(8,vI x8)],[]⟩
abbrev aW9:=fun p0 x8 r=>Lok Tryz.prog 156 0 (PQ (fun y=>(vI y)) r) (bN9 p0 x8)

def bL6 (p1:List Int) (p0:aP) (x6:List Int) (x12:Int):St:=⟨[(2,.ptr 2 0),(6,.osl 6 3 1 (x6.map cI)),(10,fU p1),(11,vI (p1.length:Int)),(12,vI x12)],[(2,dN p0)]⟩
abbrev aWq:=fun p1 p0 x6 x12 (r:(List Int)×Bool)=>Lok Tryz.prog 86 0 (BQ Za Zc r) (bL6 p1 p0 x6 x12)
def bZn (p0:eD) (x3:List Int) (x10:Int):St:=⟨[(3,.osl 3 3 1 (x3.map cI)),(8,aPd p0.cols),(9,vI (p0.cols.length:Int)),(10,vI x10)],[]⟩
abbrev aYz:=fun p0 x3 x10 (r:List Int)=>Lok Tryz.prog 43 0 (BQ Z1 Z2 r) (bZn p0 x3 x10)



def bPa (p0:List aJ) (c0:aP) (c1_0:List (List Int)) (x8:Int):St:=⟨[(0,fM p0),(1,.fn 124 [.ptr 241 0,.ptr 242 0]),(7,vI (p0.length:Int)),(8,vI x8)],[(241,dN c0),(242,[.d (.sl 1 (c1_0.map (cSl 1 cI)))])]⟩
abbrev bAc:=fun p0 c0 c1_0 x8 r=>Lok Tryz.prog 158 0 (BQ Z3 (fun (y:Int)=>[(241,dN c0),(242,[.d (.sl 1 (c1_0.map (cSl 1 cI)))])]) r) (bPa p0 c0 c1_0 x8)



def cFe (p0:aQ) (x3:List aJ) (x12:Int):St:=⟨[(1,.ptr 1 0),(3,.osl 3 56 10 (x3.map aV)),(10,.d (.sl 1 (p0.on_.map (cSl 10 aV)))),(11,vI (p0.on_.length:Int)),(12,vI x12)],[(1,lJ p0)]⟩
abbrev Zd (y:List aJ):V:=(.osl 243 56 10 (y.map aV))
abbrev Ze (y:List aJ):List (Nat×List V):=[]
abbrev aTf:=fun p0 x3 x12 (r:List aJ)=>Lok Tryz.prog 84 0 (BQ Zd Ze r) (cFe p0 x3 x12)
def bRi (p0:aQ) (fC:List aJ) (x27:Int):St:=⟨[(1,.ptr 1 0),(3,.osl 3 56 10 (fC.map aV)),(25,uT p0.order),(26,vI (p0.order.length:Int)),(27,vI x27)],[(1,lJ p0)]⟩
abbrev aWl:=fun p0 fC x27 (r:List aJ)=>Lok Tryz.prog 84 1 (BQ Zd Ze r) (bRi p0 fC x27)
def bS6 (p0:List aJ) (x3:Int) (x8:Int):St:=⟨[(3,vI x3),(6,fM p0),(7,vI (p0.length:Int)),(8,vI x8)],[]⟩
abbrev aT7:=fun p0 x3 x8 r=>Lok Tryz.prog 85 0 (PQ (fun y=>(vI y)) r) (bS6 p0 x3 x8)
def cAb (p0:aJ) (x3:Int) (x13:Int):St:=⟨[(3,vI x3),(11,aOz p0.sub),(12,vI (p0.sub.length:Int)),(13,vI x13)],[]⟩
abbrev aU1:=fun p0 x3 x13 r=>Lok Tryz.prog 118 0 (PQ (fun y=>(vI y)) r) (cAb p0 x3 x13)

def bZp (p0:List aJ) (x3:Int) (x8:Int):St:=⟨[(3,vI x3),(6,fM p0),(7,vI (p0.length:Int)),(8,vI x8)],[]⟩
abbrev bAf:=fun p0 x3 x8 r=>Lok Tryz.prog 83 0 (PQ (fun y=>(vI y)) r) (bZp p0 x3 x8)
def bPb (p0:aJ) (x3:Int) (x12:Int):St:=⟨[(3,vI x3),(10,aOz p0.sub),(11,vI (p0.sub.length:Int)),(12,vI x12)],[]⟩
abbrev aZp:=fun p0 x3 x12 r=>Lok Tryz.prog 117 0 (PQ (fun y=>(vI y)) r) (bPb p0 x3 x12)
def cAt (p3:aQ) (p0:aP) (p1:GDb) (p2:List (List aA)) (x40:Int) (eH:List (List (List aA))):St:=⟨[(4,.ptr 4 0),(5,.ptr 5 0),(6,.ptr 6 0),(7,.ptr 7 0),(10,.ptr 10 0),(38,fU p3.tables),(39,vI (p3.tables.length:Int)),(40,vI x40)],[(4,dN p0),(5,mR p1),(6,[.d (.sl 1 (p2.map (cSl 3 aB)))]),(7,lJ p3),(10,[.osl 62 39 1 (eH.map (cSl 1 (cSl 3 aB))),.nil 1,.nil 1,.nil 2,.nf,vB p3.distinct,vI p3.limit])]⟩
abbrev aUt:=fun p3 p0 p1 p2 x40 eH (r:(List (List aA))×Int)=>Lok Tryz.prog 18 0 (PQ (fun y=>(.tup [.d (.sl 1 (y.1.map (cSl 3 aB))),vI y.2])) r) (cAt p3 p0 p1 p2 x40 eH)
def bWy (p0:aP) (p1:GDb) (p2:List (List aA)) (p3:aQ) (eH:List (List (List aA))) (x69:Int) (gU:List (List bP)):St:=⟨[(7,.ptr 7 0),(10,.ptr 10 0),(13,.d (aWm (nR.mk p0 p1 p2))),(67,.d (.sl 1 (p3.on_.map (cSl 10 aV)))),(68,vI (p3.on_.length:Int)),(69,vI x69)],[(7,lJ p3),(10,[.osl 62 39 1 (eH.map (cSl 1 (cSl 3 aB))),.osl 79 89 1 (gU.map (cSl 1 iE)),.nil 1,.nil 2,.nf,vB p3.distinct,vI p3.limit])]⟩
abbrev aWp:=fun p0 p1 p2 p3 eH x69 gU (r:(List (List aA))×Int)=>Lok Tryz.prog 18 1 (PQ (fun y=>(.tup [.d (.sl 1 (y.1.map (cSl 3 aB))),vI y.2])) r) (bWy p0 p1 p2 p3 eH x69 gU)
def bQy (p0:aP) (p1:GDb) (p2:List (List aA)) (p3:aQ) (eH:List (List (List aA))) (gU:List (List bP)) (ky9:(List bP)×Int×(List mX)):St:=⟨[(7,.ptr 7 0),(10,.ptr 10 0),(13,.d (aWm (nR.mk p0 p1 p2))),(88,uT p3.order),(89,vI (p3.order.length:Int)),(90,vI ky9.2.1)],[(7,lJ p3),(10,[.osl 62 39 1 (eH.map (cSl 1 (cSl 3 aB))),.osl 79 89 1 (gU.map (cSl 1 iE)),.osl 85 98 1 (ky9.1.map iE),.osl 107 100 2 (ky9.2.2.map vK),.nf,vB p3.distinct,vI p3.limit])]⟩
abbrev aR9:=fun p0 p1 p2 p3 eH gU ky9 (r:(List (List aA))×Int)=>Lok Tryz.prog 18 2 (PQ (fun y=>(.tup [.d (.sl 1 (y.1.map (cSl 3 aB))),vI y.2])) r) (bQy p0 p1 p2 p3 eH gU ky9)
def bS8 (p1:aP) (p2:GDb) (p3:List (List aA)) (p0:List aJ) (x6:List bP) (x12:Int):St:=⟨[(1,.rp [.sl 2 (p1.tables.map lM)]),(2,.rp [.sl 1 (p2.tables.map jY)]),(3,.rp [.sl 1 (p3.map (cSl 3 aB))]),(6,.osl 6 98 1 (x6.map iE)),(10,fM p0),(11,vI (p0.length:Int)),(12,vI x12)],[]⟩
abbrev Zf (y:List bP):V:=(.osl 243 98 1 (y.map iE))
abbrev aX6:=fun p1 p2 p3 p0 x6 x12 (r:List bP)=>Lok Tryz.prog 46 0 (BQ Zf (fun (y:List bP)=>[]) r) (bS8 p1 p2 p3 p0 x6 x12)
def cE2 (y2:(List (List aA))×Int) (p0:eQ) (x6:List (List aA)) (x31:Int):St:=⟨[(1,.ptr 1 0),(6,.osl 6 47 1 (x6.map (cSl 3 aB))),(29,.osl 4 47 1 (y2.1.map (cSl 3 aB))),(30,vI (y2.1.length:Int)),(31,vI x31)],[(1,aBa p0)]⟩
abbrev aT5:=fun y2 p0 x6 x31 (r:(List (List aA))×Int)=>Lok Tryz.prog 51 0 (PQ (fun y=>(.tup [.d (.sl 1 (y.1.map (cSl 3 aB))),vI y.2])) r) (cE2 y2 p0 x6 x31)
def bM9 (p0:eQ) (uR:List (List aA)):St:=⟨[(1,.ptr 1 0),(6,.osl 6 47 1 (uR.map (cSl 3 aB)))],[(1,aBa p0)]⟩
abbrev bUw:=fun p0 uR (r:(List (List aA))×Int)=>Jok Tryz.prog 51 20 (PQ (fun y=>(.tup [.d (.sl 1 (y.1.map (cSl 3 aB))),vI y.2])) r) (bM9 p0 uR)
def bLv (U4:List (List aA)):St:=⟨[(6,.d (.sl 1 (U4.map (cSl 3 aB))))],[]⟩
abbrev cB4:=fun U4 (r:(List (List aA))×Int)=>Jok Tryz.prog 51 22 (PQ (fun y=>(.tup [.d (.sl 1 (y.1.map (cSl 3 aB))),vI y.2])) r) (bLv U4)
def bO1 (p1:List (List aA)) (p0:eQ) (x20:Int) (iC:List aU):St:=⟨[(2,.ptr 2 0),(6,.tre 347),(18,.d (.sl 1 (p1.map (cSl 3 aB)))),(19,vI (p1.length:Int)),(20,vI x20)],[(2,aBa p0),(347,[.trs 2 (iC.map bA)])]⟩
abbrev Zh (y:(List (List aA))×Int):V:=(.tup [.osl 243 47 1 (y.1.map (cSl 3 aB)),vI y.2])
abbrev Zi (y:(List (List aA))×Int):List (Nat×List V):=[]
abbrev aT9:=fun p1 p0 x20 iC (r:(List (List aA))×Int)=>Lok Tryz.prog 95 0 (BQ Zh Zi r) (bO1 p1 p0 x20 iC)
def bZq (y1:List aA) (p1:List (List aA)) (x20:Int) (p0:eQ) (iC:List aU) (x9:List aA) (x28:Int):St:=⟨[(2,.ptr 2 0),(6,.tre 357),(8,eT y1),(9,.osl 9 53 3 (x9.map aB)),(18,.d (.sl 1 (p1.map (cSl 3 aB)))),(19,vI (p1.length:Int)),(20,vI x20),(26,aRb p0.order),(27,vI (p0.order.length:Int)),(28,vI x28)],[(2,aBa p0),(357,[.trs 2 (iC.map bA)])]⟩
abbrev aWe:=fun y1 p1 x20 p0 iC x9 x28 (r:(List (List aA))×Int)=>Lok Tryz.prog 95 1 (BQ Zh Zi r) (bZq y1 p1 x20 p0 iC x9 x28)
def bUb (y2:List aU) (x14:List (List aA)) (x60:Int):St:=⟨[(14,.osl 14 47 1 (x14.map (cSl 3 aB))),(58,.tre 373),(59,vI (y2.length:Int)),(60,vI x60)],[(373,[.trs 2 (y2.map bA)])]⟩
abbrev aUg:=fun y2 x14 x60 (r:(List (List aA))×Int)=>Lok Tryz.prog 95 2 (BQ Zh Zi r) (bUb y2 x14 x60)

def bYj (p2:List (List aA)) (p3:aJ) (p0:aP) (p1:GDb) (x81:Int) (gM:List aA):St:=⟨[(2,.d (.sl 1 (p2.map (cSl 3 aB)))),(4,.ptr 4 0),(5,.ptr 5 0),(7,.ptr 7 0),(8,.ptr 8 0),(10,.ptr 10 0),(79,fM p3.kids),(80,vI (p3.kids.length:Int)),(81,vI x81)],[(4,dN p0),(5,mR p1),(7,vX p3),(8,[vI 0,vI 0,vS []]),(10,[vI p3.kind,vI p3.op,vB p3.not_,vI p3.value.kind,vI p3.value.num,vS p3.value.text,.osl 101 53 3 (gM.map aB),.nil 1])]⟩
abbrev aXm:=fun p2 p3 p0 p1 x81 gM (r:aA×Int)=>Lok Tryz.prog 48 0 (PQ (fun y=>(.tup [bN y.1,vI y.2])) r) (bYj p2 p3 p0 p1 x81 gM)
def bVh (p2:List (List aA)) (p3:aJ) (p0:aP) (p1:GDb) (gM:List aA) (oM:Int) (qP:List (List aA)):St:=⟨[(2,.d (.sl 1 (p2.map (cSl 3 aB)))),(4,.ptr 4 0),(5,.ptr 5 0),(8,.ptr 8 0),(10,.ptr 10 0),(105,aOz p3.sub),(106,vI (p3.sub.length:Int)),(107,vI oM)],[(4,dN p0),(5,mR p1),(8,[vI 0,vI 0,vS []]),(10,[vI p3.kind,vI p3.op,vB p3.not_,vI p3.value.kind,vI p3.value.num,vS p3.value.text,.osl 101 53 3 (gM.map aB),.d (.sl 1 (qP.map (cSl 3 aB)))])]⟩
abbrev aQj:=fun p2 p3 p0 p1 gM oM qP (r:aA×Int)=>Lok Tryz.prog 48 1 (PQ (fun y=>(.tup [bN y.1,vI y.2])) r) (bVh p2 p3 p0 p1 gM oM qP)

def bZy (jR:Int):St:=⟨[(2,.ptr 2 0),(3,.ptr 3 0)],[(2,[vI 0,vI 0,vS []]),(3,vR (aA.mk 3 jR []))]⟩
abbrev cEo:=fun jR r=>Jok Tryz.prog 131 2 (PQ (fun y=>(bN y)) r) (bZy jR)


def bQc (p0:Int) (p1:aA) (p2:aA) (x15:Int):St:=⟨[(0,vI p0),(4,.ptr 4 0),(5,.ptr 5 0),(6,.ptr 6 0),(13,.osl 13 53 3 (([p1,p2]:List aA).map aB)),(14,vI (([p1,p2]:List aA).length:Int)),(15,vI x15)],[(4,vR p1),(5,vR p2),(6,[vI 0,vI 0,vS []])]⟩
abbrev bA6:=fun p0 p1 p2 x15 (r:aA×Int)=>Lok Tryz.prog 165 0 (PQ (fun y=>(.tup [bN y.1,vI y.2])) r) (bQc p0 p1 p2 x15)
def bLr (x8:Int) (x9:Bool):St:=⟨[(6,.ptr 6 0),(8,vI x8),(9,vB x9)],[(6,[vI 0,vI 0,vS []])]⟩
abbrev bKu:=fun x8 x9 (r:aA×Int)=>Jok Tryz.prog 164 2 (PQ (fun y=>(.tup [bN y.1,vI y.2])) r) (bLr x8 x9)








def bVi (p0:List Int) (x8:Int):St:=⟨[(3,vI 0),(6,fU p0),(7,vI (p0.length:Int)),(8,vI x8)],[]⟩
abbrev aUq:=fun p0 x8 r=>Lok Tryz.prog 174 0 (PQ (fun y=>(vI y)) r) (bVi p0 x8)




def bR7 (p0:oW) (x4:List aA) (x42:Int):St:=⟨[(1,.ptr 1 0),(2,.ptr 2 0),(4,.osl 4 53 3 (x4.map aB)),(40,.d (.sl 1 (p0.rows.map (cSl 3 aB)))),(41,vI (p0.rows.length:Int)),(42,vI x42)],[(1,bZ5 p0),(2,[vI 0,vI 0,vS []])]⟩
abbrev aU0:=fun p0 x4 x42 (r:aA×Int)=>Lok Tryz.prog 132 0 (PQ (fun y=>(.tup [bN y.1,vI y.2])) r) (bR7 p0 x4 x42)

def bV3 (p1:List aA) (p0:aA) (x14:Int) (jC:Int) (jA:Int) (jD:List UInt8):St:=⟨[(2,.ptr 2 0),(4,.ptr 4 0),(6,.ptr 6 0),(12,eT p1),(13,vI (p1.length:Int)),(14,vI x14)],[(2,vR p0),(4,[vI 0,vI 0,vS []]),(6,vR (aA.mk jC jA jD))]⟩
abbrev aSh:=fun p1 p0 x14 jC jA jD (r:aA×Int)=>Lok Tryz.prog 170 0 (PQ (fun y=>(.tup [bN y.1,vI y.2])) r) (bV3 p1 p0 x14 jC jA jD)


def bLb (p0:Int) (T9:Int):St:=⟨[(2,.ptr 2 0),(4,.ptr 4 0)],[(2,[vB false,vB false,vB false,vB false,vI 0,vI 0,vI 0]),(4,[vI p0,vI T9,vB false,vI 0,vI 0,vS [],vS [],vS [120],.nil 10,.nil 6])]⟩
abbrev bPk:=fun p0 T9 (r:kG×Bool)=>Jok Tryz.prog 128 2 (PQ (fun y=>(.tup [aYn y.1,vB y.2])) r) (bLb p0 T9)

def cCc (p1:Int) (p2:eY) (x7:Int) (x8:Int) (bD:List aU):St:=⟨[(0,.tre 244),(1,vI p1),(2,.d (lU p2)),(6,vI 20),(7,vI x7),(8,vI x8)],[(244,[.trs 2 (bD.map bA)])]⟩
abbrev Zk (y:List aU):List (Nat×List V):=[(244,[.trs 2 (y.map bA)])]
abbrev Zj (y:List aU):V:=(.tup [])
abbrev aUe:=fun p1 p2 x7 x8 bD (r:List aU)=>Lok Tryz.prog 173 0 (BQ Zj Zk r) (cCc p1 p2 x7 x8 bD)
def bKa (p1:Int) (p2:eY) (x6:Int) (qI:List aU):St:=⟨[(0,.tre 244),(1,vI p1),(2,.d (lU p2)),(6,vI x6)],[(244,[.trs 2 (qI.map bA)])]⟩
abbrev aYu:=fun p1 p2 x6 qI (r:List aU)=>Lok Tryz.prog 173 1 (BQ Zj Zk r) (bKa p1 p2 x6 qI)
def bRt (p1:Int) (p2:eY) (x6:Int) (nL:Int) (oD:Int) (pG:List aU):St:=⟨[(0,.tre 244),(1,vI p1),(2,.d (lU p2)),(6,vI x6),(7,vI nL),(8,vI oD)],[(244,[.trs 2 (pG.map bA)])]⟩
abbrev aSc:=fun p1 p2 x6 nL oD pG (r:List aU)=>Lok Tryz.prog 173 2 (BQ Zj Zk r) (bRt p1 p2 x6 nL oD pG)
def bZl (p1:Int) (p2:eY) (x6:Int) (rQ:List aU):St:=⟨[(0,.tre 244),(1,vI p1),(2,.d (lU p2)),(6,vI x6)],[(244,[.trs 2 (rQ.map bA)])]⟩
abbrev aTw:=fun p1 p2 x6 rQ (r:List aU)=>Jok Tryz.prog 173 16 (BQ Zj Zk r) (bZl p1 p2 x6 rQ)
def bOl (p1:Int) (p4:eY) (p0:List aU) (x10:Int) (x11:Int):St:=⟨[(0,.tre 244),(1,vI p1),(4,.d (lU p4)),(10,vI x10),(11,vI x11)],[(244,[.trs 2 (p0.map bA)])]⟩
abbrev aTe:=fun p1 p4 p0 x10 x11 (r:List aU)=>Lok Tryz.prog 196 0 (BQ Zj Zk r) (bOl p1 p4 p0 x10 x11)
def bO0 (p2:Int) (p4:eY) (p0:List aU) (x14:Int) (x15:Int):St:=⟨[(0,.tre 244),(2,vI p2),(4,.d (lU p4)),(14,vI x14),(15,vI x15)],[(244,[.trs 2 (p0.map bA)])]⟩
abbrev bAk:=fun p2 p4 p0 x14 x15 (r:List aU)=>Lok Tryz.prog 196 2 (BQ Zj Zk r) (bO0 p2 p4 p0 x14 x15)
def bU9 (p1:Int) (p2:Int) (p3:Int) (p4:eY) (p0:List aU) (x20:Int) (x21:Int):St:=⟨[(0,.tre 244),(1,vI p1),(2,vI p2),(3,vI p3),(4,.d (lU p4)),(18,vI (QA .i64 (QB (QA .u64 (QA .i64 (p1+p3))) (2 ^ 1)))),(19,vI (QA .i64 ((QA .i64 (QB (QA .u64 (QA .i64 (p1+p3))) (2 ^ 1)))+p2))),(20,vI x20),(21,vI x21)],[(244,[.trs 2 (p0.map bA)])]⟩
abbrev aQr:=fun p1 p2 p3 p4 p0 x20 x21 (r:List aU)=>Jok Tryz.prog 196 31 (BQ Zj Zk r) (bU9 p1 p2 p3 p4 p0 x20 x21)
def bZt (x10:Int) (x13:Int) (bD:List aU):St:=⟨[(0,.tre 244),(10,vI x10),(13,vI x13)],[(244,[.trs 2 (bD.map bA)])]⟩
abbrev aYc:=fun x10 x13 bD (r:List aU)=>Lok Tryz.prog 196 1 (BQ Zj Zk r) (bZt x10 x13 bD)
def bLs (x14:Int) (x17:Int) (iR:List aU):St:=⟨[(0,.tre 244),(14,vI x14),(17,vI x17)],[(244,[.trs 2 (iR.map bA)])]⟩
abbrev aV6:=fun x14 x17 iR (r:List aU)=>Lok Tryz.prog 196 3 (BQ Zj Zk r) (bLs x14 x17 iR)
def bM5 (p1:Int) (p2:Int) (p3:Int) (p4:eY) (p0:List aU) (dF:Int) (iV:Int):St:=⟨[(0,.tre 244),(1,vI p1),(2,vI p2),(3,vI p3),(4,.d (lU p4)),(18,vI (QA .i64 (QB (QA .u64 (QA .i64 (p1+p3))) (2 ^ 1)))),(19,vI (QA .i64 ((QA .i64 (QB (QA .u64 (QA .i64 (p1+p3))) (2 ^ 1)))+p2))),(20,vI dF),(21,vI iV),(22,vI (QA .i64 ((QA .i64 ((QA .i64 (QB (QA .u64 (QA .i64 (p1+p3))) (2 ^ 1)))+p2)) - 1)))],[(244,[.trs 2 (p0.map bA)])]⟩
abbrev aWw:=fun p1 p2 p3 p4 p0 dF iV (r:List aU)=>Lok Tryz.prog 196 4 (BQ Zj Zk r) (bM5 p1 p2 p3 p4 p0 dF iV)
def bWx (p1:Int) (p3:Int) (p4:eY) (dF:Int) (p2:Int) (pV:List aU):St:=⟨[(0,.tre 244),(1,vI p1),(3,vI p3),(4,.d (lU p4)),(18,vI (QA .i64 (QB (QA .u64 (QA .i64 (p1+p3))) (2 ^ 1)))),(20,vI dF),(24,vI (QA .i64 ((QA .i64 ((QA .i64 (QB (QA .u64 (QA .i64 (p1+p3))) (2 ^ 1)))+p2)) - dF)))],[(244,[.trs 2 (pV.map bA)])]⟩
abbrev aWf:=fun p1 p3 p4 dF p2 pV (r:List aU)=>Jok Tryz.prog 196 42 (BQ Zj Zk r) (bWx p1 p3 p4 dF p2 pV)
def bUc (p3:Int) (p4:eY) (p1:Int) (p2:Int) (dF:Int) (pX:List aU):St:=⟨[(0,.tre 244),(3,vI p3),(4,.d (lU p4)),(18,vI (QA .i64 (QB (QA .u64 (QA .i64 (p1+p3))) (2 ^ 1)))),(24,vI (QA .i64 ((QA .i64 ((QA .i64 (QB (QA .u64 (QA .i64 (p1+p3))) (2 ^ 1)))+p2)) - dF)))],[(244,[.trs 2 (pX.map bA)])]⟩
abbrev aWh:=fun p3 p4 p1 p2 dF pX (r:List aU)=>Jok Tryz.prog 196 44 (BQ Zj Zk r) (bUc p3 p4 p1 p2 dF pX)
def bUu (p2:Int) (p4:eY) (x10:Int) (x11:Int) (bD:List aU):St:=⟨[(0,.tre 244),(2,vI p2),(4,.d (lU p4)),(10,vI x10),(11,vI x11)],[(244,[.trs 2 (bD.map bA)])]⟩
abbrev aZi:=fun p2 p4 x10 x11 bD (r:List aU)=>Lok Tryz.prog 200 0 (BQ Zj Zk r) (bUu p2 p4 x10 x11 bD)
def bKc (p1:Int) (p2:Int) (p3:Int) (x10:Int) (bD:List aU):St:=⟨[(0,.tre 244),(1,vI p1),(2,vI p2),(3,vI p3),(10,vI x10)],[(244,[.trs 2 (bD.map bA)])]⟩
abbrev aW8:=fun p1 p2 p3 x10 bD (r:List aU)=>Lok Tryz.prog 201 0 (BQ Zj Zk r) (bKc p1 p2 p3 x10 bD)
def bR6 (p2:eQ) (p0:aU) (p1:aU) (x12:Int):St:=⟨[(3,.ptr 3 0),(4,.ptr 4 0),(10,aRb p2.order),(11,vI (p2.order.length:Int)),(12,vI x12)],[(3,aM2 p0),(4,aM2 p1)]⟩
abbrev aQi:=fun p2 p0 p1 x12 r=>Lok Tryz.prog 136 0 (PQ (fun y=>(vI y)) r) (bR6 p2 p0 p1 x12)
def bR3 (p2:eQ) (x12:Int) (p0:aU) (p1:aU) (x8:Int):St:=⟨[(3,.ptr 3 0),(4,.ptr 4 0),(8,vI x8),(10,aRb p2.order),(11,vI (p2.order.length:Int)),(12,vI x12)],[(3,aM2 p0),(4,aM2 p1)]⟩
abbrev aYv:=fun p2 x12 p0 p1 x8 r=>Jok Tryz.prog 136 8 (PQ (fun y=>(vI y)) r) (bR3 p2 x12 p0 p1 x8)
def bMi (p1:Int) (p2:Int) (p3:eY) (x8:Int) (bD:List aU):St:=⟨[(0,.tre 244),(1,vI p1),(2,vI p2),(3,.d (lU p3)),(8,vI x8)],[(244,[.trs 2 (bD.map bA)])]⟩
abbrev aXk:=fun p1 p2 p3 x8 bD (r:List aU)=>Lok Tryz.prog 195 0 (BQ Zj Zk r) (bMi p1 p2 p3 x8 bD)
def bO2 (p1:Int) (p2:Int) (p3:eY) (x8:Int) (x9:Int) (fE:List aU):St:=⟨[(0,.tre 244),(1,vI p1),(2,vI p2),(3,.d (lU p3)),(8,vI x8),(9,vI x9)],[(244,[.trs 2 (fE.map bA)])]⟩
abbrev aXd:=fun p1 p2 p3 x8 x9 fE (r:List aU)=>Lok Tryz.prog 195 1 (BQ Zj Zk r) (bO2 p1 p2 p3 x8 x9 fE)
def cAh (p0:eQ) (x4:List (List aA)) (x19:Int):St:=⟨[(1,.ptr 1 0),(4,.d (.sl 1 (x4.map (cSl 3 aB)))),(17,.d (.sl 1 (p0.tables.map (cSl 1 (cSl 3 aB))))),(18,vI (p0.tables.length:Int)),(19,vI x19)],[(1,aBa p0)]⟩
abbrev aW6:=fun p0 x4 x19 (r:(List (List aA))×Int)=>Lok Tryz.prog 94 0 (PQ (fun y=>(.tup [.d (.sl 1 (y.1.map (cSl 3 aB))),vI y.2])) r) (cAh p0 x4 x19)
def cEn (x19:Int) (y1:List (List aA)) (p0:eQ) (x4:List (List aA)) (x7:List (List aA)) (x27:Int):St:=⟨[(1,.ptr 1 0),(5,vI x19),(6,.d (.sl 1 (y1.map (cSl 3 aB)))),(7,.osl 7 47 1 (x7.map (cSl 3 aB))),(17,.d (.sl 1 (p0.tables.map (cSl 1 (cSl 3 aB))))),(18,vI (p0.tables.length:Int)),(19,vI x19),(25,.d (.sl 1 (x4.map (cSl 3 aB)))),(26,vI (x4.length:Int)),(27,vI x27)],[(1,aBa p0)]⟩
abbrev aY2:=fun x19 y1 p0 x4 x7 x27 (r:(List (List aA))×Int)=>Lok Tryz.prog 94 1 (PQ (fun y=>(.tup [.d (.sl 1 (y.1.map (cSl 3 aB))),vI y.2])) r) (cEn x19 y1 p0 x4 x7 x27)
def bNw (x19:Int) (y1:List (List aA)) (y3:List aA) (p0:eQ) (x4:List (List aA)) (x27:Int) (mO:(List (List aA))×Int):St:=⟨[(1,.ptr 1 0),(5,vI x19),(6,.d (.sl 1 (y1.map (cSl 3 aB)))),(7,.osl 7 47 1 (mO.1.map (cSl 3 aB))),(9,eT y3),(17,.d (.sl 1 (p0.tables.map (cSl 1 (cSl 3 aB))))),(18,vI (p0.tables.length:Int)),(19,vI x19),(25,.d (.sl 1 (x4.map (cSl 3 aB)))),(26,vI (x4.length:Int)),(27,vI x27),(31,.d (.sl 1 (y1.map (cSl 3 aB)))),(32,vI (y1.length:Int)),(33,vI mO.2)],[(1,aBa p0)]⟩
abbrev aYr:=fun x19 y1 y3 p0 x4 x27 mO (r:(List (List aA))×Int)=>Lok Tryz.prog 94 2 (PQ (fun y=>(.tup [.d (.sl 1 (y.1.map (cSl 3 aB))),vI y.2])) r) (bNw x19 y1 y3 p0 x4 x27 mO)
def bUt (p0:List (List aA)) (x3:Int) (x11:Int):St:=⟨[(0,.d (.sl 1 (p0.map (cSl 3 aB)))),(3,vI x3),(9,.d (.sl 1 (p0.map (cSl 3 aB)))),(10,vI (p0.length:Int)),(11,vI x11)],[]⟩
abbrev Zl (y:List aA):V:=(.osl 243 53 3 (y.map aB))
abbrev Zm (y:List aA):List (Nat×List V):=[]
abbrev aRj:=fun p0 x3 x11 (r:List aA)=>Lok Tryz.prog 133 0 (BQ Zl Zm r) (bUt p0 x3 x11)
def bN1 (p0:List (List aA)) (x3:Int) (y1:List aA) (x11:Int):St:=⟨[(0,.d (.sl 1 (p0.map (cSl 3 aB)))),(3,vI (QA .i64 (x3+(y1.length:Int)))),(9,.d (.sl 1 (p0.map (cSl 3 aB)))),(10,vI (p0.length:Int)),(11,vI x11)],[]⟩
abbrev aSt:=fun p0 x3 y1 x11 (r:List aA)=>Jok Tryz.prog 133 6 (BQ Zl Zm r) (bN1 p0 x3 y1 x11)
def bTo (p0:List (List aA)) (x6:List aA) (x27:Int):St:=⟨[(6,.osl 6 53 3 (x6.map aB)),(25,.d (.sl 1 (p0.map (cSl 3 aB)))),(26,vI (p0.length:Int)),(27,vI x27)],[]⟩
abbrev aUp:=fun p0 x6 x27 (r:List aA)=>Lok Tryz.prog 133 1 (BQ Zl Zm r) (bTo p0 x6 x27)

def bT8 (p1:List bP) (x0:List (List aA)) (x15:Int):St:=⟨[(0,.d (.sl 1 (x0.map (cSl 3 aB)))),(13,yL p1),(14,vI (p1.length:Int)),(15,vI x15)],[]⟩
abbrev aV5:=fun p1 x0 x15 (r:(List (List aA))×Int)=>Lok Tryz.prog 134 0 (PQ (fun y=>(.tup [.d (.sl 1 (y.1.map (cSl 3 aB))),vI y.2])) r) (bT8 p1 x0 x15)
def bZ3 (y1:bP) (p1:List bP) (x15:Int) (x0:List (List aA)) (x8:List (List aA)) (x22:Int):St:=⟨[(7,.d (aNo y1)),(8,.osl 8 47 1 (x8.map (cSl 3 aB))),(13,yL p1),(14,vI (p1.length:Int)),(15,vI x15),(20,.d (.sl 1 (x0.map (cSl 3 aB)))),(21,vI (x0.length:Int)),(22,vI x22)],[]⟩
abbrev aZ3:=fun y1 p1 x15 x0 x8 x22 (r:(List (List aA))×Int)=>Lok Tryz.prog 134 1 (PQ (fun y=>(.tup [.d (.sl 1 (y.1.map (cSl 3 aB))),vI y.2])) r) (bZ3 y1 p1 x15 x0 x8 x22)
def cCk (y1:bP) (p1:List bP) (x15:Int) (x0:List (List aA)) (x22:Int) (qX:List (List aA)):St:=⟨[(7,.d (aNo y1)),(8,.osl 8 47 1 (qX.map (cSl 3 aB))),(13,yL p1),(14,vI (p1.length:Int)),(15,vI x15),(20,.d (.sl 1 (x0.map (cSl 3 aB)))),(21,vI (x0.length:Int)),(22,vI x22)],[]⟩
abbrev aVk:=fun y1 p1 x15 x0 x22 qX (r:(List (List aA))×Int)=>Jok Tryz.prog 134 12 (PQ (fun y=>(.tup [.d (.sl 1 (y.1.map (cSl 3 aB))),vI y.2])) r) (cCk y1 p1 x15 x0 x22 qX)


def bMq (p1:List aA) (p0:List bP) (x6:List aA) (x14:Int):St:=⟨[(1,eT p1),(6,.osl 6 53 3 (x6.map aB)),(12,yL p0),(13,vI (p0.length:Int)),(14,vI x14)],[]⟩
abbrev Zn (y:(List aA)×Int):V:=(.tup [.osl 243 53 3 (y.1.map aB),vI y.2])
abbrev Zo (y:(List aA)×Int):List (Nat×List V):=[]
abbrev aU5:=fun p1 p0 x6 x14 (r:(List aA)×Int)=>Lok Tryz.prog 50 0 (BQ Zn Zo r) (bMq p1 p0 x6 x14)
def bTz (p0:List (List aA)) (x3:List (List aA)) (x9:Int):St:=⟨[(3,.osl 3 47 1 (x3.map (cSl 3 aB))),(7,.d (.sl 1 (p0.map (cSl 3 aB)))),(8,vI (p0.length:Int)),(9,vI x9)],[]⟩
abbrev Zp (y:List (List aA)):V:=(.osl 243 47 1 (y.map (cSl 3 aB)))
abbrev Zq (y:List (List aA)):List (Nat×List V):=[]
abbrev aZc:=fun p0 x3 x9 (r:List (List aA))=>Lok Tryz.prog 96 0 (BQ Zp Zq r) (bTz p0 x3 x9)
def bVs (p0:List (List aA)) (x9:Int) (qQ:List (List aA)):St:=⟨[(3,.osl 3 47 1 (qQ.map (cSl 3 aB))),(7,.d (.sl 1 (p0.map (cSl 3 aB)))),(8,vI (p0.length:Int)),(9,vI x9)],[]⟩
abbrev aZk:=fun p0 x9 qQ (r:List (List aA))=>Jok Tryz.prog 96 6 (BQ Zp Zq r) (bVs p0 x9 qQ)

def cDu (p0:List (List aA)) (c0_0:List aA) (x8:Int):St:=⟨[(0,.d (.sl 1 (p0.map (cSl 3 aB)))),(1,.fn 138 [.ptr 241 0]),(7,vI (p0.length:Int)),(8,vI x8)],[(241,[eT c0_0])]⟩
abbrev aYy:=fun p0 c0_0 x8 r=>Lok Tryz.prog 91 0 (BQ Z3 (fun (y:Int)=>[(241,[.d (.sl 3 (c0_0.map aB))])]) r) (cDu p0 c0_0 x8)

def cBx (p0:List aA) (p1:List aA) (x13:Int):St:=⟨[(0,eT p0),(1,eT p1),(12,vI (p0.length:Int)),(13,vI x13)],[]⟩
abbrev aVp:=fun p0 p1 x13 r=>Lok Tryz.prog 139 0 (PQ (fun y=>(vB y)) r) (cBx p0 p1 x13)

def cD4 (p1:GDb) (p0:aP) (x23:Int):St:=⟨[(2,.ptr 2 0),(21,bMx p1.tables),(22,vI (p1.tables.length:Int)),(23,vI x23)],[(2,dN p0)]⟩
abbrev aX9:=fun p1 p0 x23 r=>Lok Tryz.prog 17 0 (PQ (fun y=>(vB y)) r) (cD4 p1 p0 x23)

def cCd (p0:List (List aA)) (c0_0:List Int) (x8:Int):St:=⟨[(0,.d (.sl 1 (p0.map (cSl 3 aB)))),(1,.fn 45 [.ptr 241 0]),(7,vI (p0.length:Int)),(8,vI x8)],[(241,[fU c0_0])]⟩
abbrev aT2:=fun p0 c0_0 x8 r=>Lok Tryz.prog 91 0 (BQ Z3 (fun (y:Int)=>[(241,[.d (.sl 1 (c0_0.map cI))])]) r) (cCd p0 c0_0 x8)

def cBm (p0:List Int) (x3:Int) (x4:Int):St:=⟨[(0,aDe p0),(3,vI x3),(4,vI x4)],[]⟩
abbrev aVz:=fun p0 x3 x4 r=>Lok Tryz.prog 31 0 (BQ (fun (y:aL)=>(.ptr 31 0)) (fun (y:aL)=>[(31,aZ y)]) r) (cBm p0 x3 x4)
def bQw (p1:List (List Int)) (p0:aP) (p2:aQ) (x8:Int):St:=⟨[(1,.d (.sl 1 (p1.map (cSl 1 cI)))),(3,.ptr 3 0),(5,.ptr 5 0),(8,vI x8)],[(3,dN p0),(5,lJ p2)]⟩
abbrev aW4:=fun p1 p0 p2 x8 (r:(List Int)×Bool)=>Lok Tryz.prog 10 0 (BQ Za Zc r) (bQw p1 p0 p2 x8)
def bLh (y8:List (List Int)) (p0:aP) (p2:aQ) (x14:Int):St:=⟨[(3,.ptr 3 0),(5,.ptr 5 0),(13,.osl 13 30 1 (y8.map (cSl 1 cI))),(14,vI x14)],[(3,dN p0),(5,lJ p2)]⟩
abbrev aWn:=fun y8 p0 p2 x14 (r:(List Int)×Bool)=>Lok Tryz.prog 10 1 (BQ Za Zc r) (bLh y8 p0 p2 x14)
def bX0 (y8:List (List Int)) (p0:aP) (p2:aQ) (x17:List Int) (x18:Int):St:=⟨[(3,.ptr 3 0),(5,.ptr 5 0),(13,.osl 13 30 1 (y8.map (cSl 1 cI))),(17,.osl 17 3 1 (x17.map cI)),(18,vI x18)],[(3,dN p0),(5,lJ p2)]⟩
abbrev aR0:=fun y8 p0 p2 x17 x18 (r:(List Int)×Bool)=>Lok Tryz.prog 10 2 (BQ Za Zc r) (bX0 y8 p0 p2 x17 x18)
def bN6 (p1:List Int) (p0:aP) (x6:List Int) (x7:Int):St:=⟨[(1,fU p1),(2,.ptr 2 0),(6,.osl 6 3 1 (x6.map cI)),(7,vI x7)],[(2,dN p0)]⟩
abbrev aVx:=fun p1 p0 x6 x7 (r:(List Int)×Bool)=>Lok Tryz.prog 25 0 (BQ Za Zc r) (bN6 p1 p0 x6 x7)

def bYy (p1:List (List Int)) (p2:List aJ) (p0:aP) (x7:Int):St:=⟨[(1,.d (.sl 1 (p1.map (cSl 1 cI)))),(2,fM p2),(3,.ptr 3 0),(7,vI x7)],[(3,dN p0)]⟩
abbrev aUb:=fun p1 p2 p0 x7 r=>Lok Tryz.prog 26 0 (PQ (fun y=>(vB y)) r) (bYy p1 p2 p0 x7)

def bRn (p1:List (List Int)) (p0:aP) (p2:aJ) (x8:List Int) (x9:Int):St:=⟨[(1,.d (.sl 1 (p1.map (cSl 1 cI)))),(3,.ptr 3 0),(5,.ptr 5 0),(8,.osl 8 3 1 (x8.map cI)),(9,vI x9)],[(3,dN p0),(5,vX p2)]⟩
abbrev aZt:=fun p1 p0 p2 x8 x9 (r:Int×Bool)=>Lok Tryz.prog 28 0 (PQ (fun y=>(.tup [vI y.1,vB y.2])) r) (bRn p1 p0 p2 x8 x9)
def cAu (p2:aJ) (aAc:List Int):St:=⟨[(5,.ptr 5 0),(8,.osl 8 3 1 (aAc.map cI))],[(5,vX p2)]⟩
abbrev cEp:=fun p2 aAc (r:Int×Bool)=>Jok Tryz.prog 28 27 (PQ (fun y=>(.tup [vI y.1,vB y.2])) r) (cAu p2 aAc)
def bWh (p0:List Int) (x3:Int) (x4:Int):St:=⟨[(0,fU p0),(3,vI x3),(4,vI x4)],[]⟩
abbrev aZu:=fun p0 x3 x4 r=>Lok Tryz.prog 71 0 (PQ (fun y=>(vB y)) r) (bWh p0 x3 x4)



def bP3 (p1:Int) (p2:Int) (x10:Int):St:=⟨[(1,vI p1),(2,vI p2),(10,vI x10)],[]⟩
abbrev bYs:=fun p1 p2 x10 (r:Int×Bool)=>Jok Tryz.prog 69 12 (PQ (fun y=>(.tup [vI y.1,vB y.2])) r) (bP3 p1 p2 x10)


def bPu (p0:aJ) (y3:List eP) (y4:List jL) (oG:List UInt8):St:=⟨[(3,.ptr 3 0)],[(3,bSg (eP.mk p0.kind p0.op p0.not_ p0.value [] oG y3 y4))]⟩
abbrev bQ3:=fun p0 y3 y4 oG r=>Jok Tryz.prog 67 5 (PQ (fun y=>(vB y)) r) (bPu p0 y3 y4 oG)



def bUq (p0:aP) (p1:aQ) (x5:Int):St:=⟨[(2,.ptr 2 0),(3,.ptr 3 0),(5,vI x5)],[(2,dN p0),(3,lJ p1)]⟩
abbrev aXn:=fun p0 p1 x5 r=>Lok Tryz.prog 24 0 (PQ (fun y=>(vB y)) r) (bUq p0 p1 x5)
def bWa (p0:aP) (p1:aQ) (x6:Int):St:=⟨[(2,.ptr 2 0),(3,.ptr 3 0),(6,vI x6)],[(2,dN p0),(3,lJ p1)]⟩
abbrev aZg:=fun p0 p1 x6 r=>Lok Tryz.prog 24 1 (PQ (fun y=>(vB y)) r) (bWa p0 p1 x6)

def bT9 (y1:List aJ) (x3:Int) (x5:Int):St:=⟨[(3,vI x3),(4,.osl 4 56 10 (y1.map aV)),(5,vI x5)],[]⟩
abbrev aSk:=fun y1 x3 x5 r=>Lok Tryz.prog 22 0 (PQ (fun y=>(vI y)) r) (bT9 y1 x3 x5)
def bUm (p0:aJ) (x3:Int) (x4:Int):St:=⟨[(1,.ptr 1 0),(3,vI x3),(4,vI x4)],[(1,vX p0)]⟩
abbrev bA5:=fun p0 x3 x4 r=>Lok Tryz.prog 65 0 (PQ (fun y=>(vI y)) r) (bUm p0 x3 x4)
def bYv (p0:aJ) (sG:Int) (x5:Int):St:=⟨[(1,.ptr 1 0),(3,vI sG),(5,vI x5)],[(1,vX p0)]⟩
abbrev aUj:=fun p0 sG x5 r=>Lok Tryz.prog 65 1 (PQ (fun y=>(vI y)) r) (bYv p0 sG x5)
def cCh (p0:aQ) (x3:List aJ) (x4:Int):St:=⟨[(1,.ptr 1 0),(3,.osl 3 56 10 (x3.map aV)),(4,vI x4)],[(1,lJ p0)]⟩
abbrev aYb:=fun p0 x3 x4 (r:List aJ)=>Lok Tryz.prog 62 0 (BQ Zd Ze r) (cCh p0 x3 x4)
def cBb (p0:aQ) (fC:List aJ) (x5:Int):St:=⟨[(1,.ptr 1 0),(3,.osl 3 56 10 (fC.map aV)),(5,vI x5)],[(1,lJ p0)]⟩
abbrev aS8:=fun p0 fC x5 (r:List aJ)=>Lok Tryz.prog 62 1 (BQ Zd Ze r) (cBb p0 fC x5)
def bVr (y1:List aJ) (x3:Int) (x5:Int):St:=⟨[(3,vI x3),(4,.osl 4 56 10 (y1.map aV)),(5,vI x5)],[]⟩
abbrev aVl:=fun y1 x3 x5 r=>Lok Tryz.prog 21 0 (PQ (fun y=>(vI y)) r) (bVr y1 x3 x5)
def bYp (p0:aJ) (x3:Int) (x4:Int):St:=⟨[(1,.ptr 1 0),(3,vI x3),(4,vI x4)],[(1,vX p0)]⟩
abbrev aVy:=fun p0 x3 x4 r=>Lok Tryz.prog 64 0 (PQ (fun y=>(vI y)) r) (bYp p0 x3 x4)
def cAw (p0:aJ) (fC:Int) (x5:Int):St:=⟨[(1,.ptr 1 0),(3,vI fC),(5,vI x5)],[(1,vX p0)]⟩
abbrev aZs:=fun p0 fC x5 r=>Lok Tryz.prog 64 1 (PQ (fun y=>(vI y)) r) (cAw p0 fC x5)


def cF4 (p2:List (List aA)) (p0:aP) (p1:GDb) (p3:aQ) (x11:List (List aA)):St:=⟨[(2,.d (.sl 1 (p2.map (cSl 3 aB)))),(4,.ptr 4 0),(5,.ptr 5 0),(7,.ptr 7 0),(10,.osl 10 47 1 (([]:List (List aA)).map (cSl 3 aB))),(11,.d (.sl 1 (x11.map (cSl 3 aB))))],[(4,dN p0),(5,mR p1),(7,lJ p3)]⟩
abbrev bAj:=fun p2 p0 p1 p3 x11 (r:(List (List aA))×Int)=>Jok Tryz.prog 19 13 (PQ (fun y=>(.tup [.d (.sl 1 (y.1.map (cSl 3 aB))),vI y.2])) r) (cF4 p2 p0 p1 p3 x11)
def bNe (p3:aQ) (vM:List (List aA)):St:=⟨[(7,.ptr 7 0),(11,.osl 11 47 1 (vM.map (cSl 3 aB)))],[(7,lJ p3)]⟩
abbrev bOi:=fun p3 vM (r:(List (List aA))×Int)=>Jok Tryz.prog 19 22 (PQ (fun y=>(.tup [.d (.sl 1 (y.1.map (cSl 3 aB))),vI y.2])) r) (bNe p3 vM)
def cC5 (V7:List (List aA)):St:=⟨[(11,.d (.sl 1 (V7.map (cSl 3 aB))))],[]⟩
abbrev bNn:=fun V7 (r:(List (List aA))×Int)=>Jok Tryz.prog 19 24 (PQ (fun y=>(.tup [.d (.sl 1 (y.1.map (cSl 3 aB))),vI y.2])) r) (cC5 V7)
def bOa (p2:List (List aA)) (p4:List aJ) (p0:aP) (p1:GDb) (x3:List (List aA)) (x12:Int):St:=⟨[(2,.d (.sl 1 (p2.map (cSl 3 aB)))),(3,.d (.sl 1 (x3.map (cSl 3 aB)))),(4,fM p4),(5,.ptr 5 0),(6,.ptr 6 0),(12,vI x12)],[(5,dN p0),(6,mR p1)]⟩
abbrev aTj:=fun p2 p4 p0 p1 x3 x12 (r:(List (List aA))×Int)=>Lok Tryz.prog 54 0 (PQ (fun y=>(.tup [.d (.sl 1 (y.1.map (cSl 3 aB))),vI y.2])) r) (bOa p2 p4 p0 p1 x3 x12)
def bV7 (p2:List (List aA)) (x3:List (List aA)) (p4:List aJ) (x12:Int) (p0:aP) (p1:GDb) (kx13:(List (List aA))×Int):St:=⟨[(2,.d (.sl 1 (p2.map (cSl 3 aB)))),(3,.d (.sl 1 (x3.map (cSl 3 aB)))),(4,fM p4),(5,.ptr 5 0),(6,.ptr 6 0),(12,vI x12),(13,.osl 13 47 1 (kx13.1.map (cSl 3 aB))),(14,vI kx13.2)],[(5,dN p0),(6,mR p1)]⟩
abbrev aSg:=fun p2 x3 p4 x12 p0 p1 kx13 (r:(List (List aA))×Int)=>Lok Tryz.prog 54 1 (PQ (fun y=>(.tup [.d (.sl 1 (y.1.map (cSl 3 aB))),vI y.2])) r) (bV7 p2 x3 p4 x12 p0 p1 kx13)
def bVp (p2:List (List aA)) (x3:List (List aA)) (p4:List aJ) (x12:Int) (x14:Int) (p0:aP) (kp1:GDb×(List (List aA))):St:=⟨[(2,.d (.sl 1 (p2.map (cSl 3 aB)))),(3,.d (.sl 1 (x3.map (cSl 3 aB)))),(4,fM p4),(5,.ptr 5 0),(6,.ptr 6 0),(12,vI x12),(13,.osl 13 47 1 (kp1.2.map (cSl 3 aB))),(14,vI x14)],[(5,dN p0),(6,mR kp1.1)]⟩
abbrev aXw:=fun p2 x3 p4 x12 x14 p0 kp1 (r:(List (List aA))×Int)=>Jok Tryz.prog 54 11 (PQ (fun y=>(.tup [.d (.sl 1 (y.1.map (cSl 3 aB))),vI y.2])) r) (bVp p2 x3 p4 x12 x14 p0 kp1)
def bKj (p2:List (List aA)) (p0:aP) (p1:GDb) (p3:aJ) (x10:List aA) (x11:Int):St:=⟨[(2,.d (.sl 1 (p2.map (cSl 3 aB)))),(4,.ptr 4 0),(5,.ptr 5 0),(7,.ptr 7 0),(8,.ptr 8 0),(10,.osl 10 53 3 (x10.map aB)),(11,vI x11)],[(4,dN p0),(5,mR p1),(7,vX p3),(8,[vI 0,vI 0,vS []])]⟩
abbrev bA2:=fun p2 p0 p1 p3 x10 x11 (r:aA×Int)=>Lok Tryz.prog 98 0 (PQ (fun y=>(.tup [bN y.1,vI y.2])) r) (bKj p2 p0 p1 p3 x10 x11)
def cAs (p2:List (List aA)) (x10:List aA) (p3:aJ) (x14:List (List aA)):St:=⟨[(2,.d (.sl 1 (p2.map (cSl 3 aB)))),(7,.ptr 7 0),(8,.ptr 8 0),(10,.osl 10 53 3 (x10.map aB)),(14,.d (.sl 1 (x14.map (cSl 3 aB))))],[(7,vX p3),(8,[vI 0,vI 0,vS []])]⟩
abbrev cDh:=fun p2 x10 p3 x14 (r:aA×Int)=>Jok Tryz.prog 98 15 (PQ (fun y=>(.tup [bN y.1,vI y.2])) r) (cAs p2 x10 p3 x14)
def bXg (x10:List aA) (x14:List (List aA)) (p3:aJ) (x21:List aA) (x22:Int):St:=⟨[(7,.ptr 7 0),(8,.ptr 8 0),(10,.osl 10 53 3 (x10.map aB)),(14,.d (.sl 1 (x14.map (cSl 3 aB)))),(21,.osl 21 53 3 (x21.map aB)),(22,vI x22)],[(7,vX p3),(8,[vI 0,vI 0,vS []])]⟩
abbrev aT1:=fun x10 x14 p3 x21 x22 (r:aA×Int)=>Lok Tryz.prog 98 1 (PQ (fun y=>(.tup [bN y.1,vI y.2])) r) (bXg x10 x14 p3 x21 x22)

def bXn (p0:Int) (p1:aA) (p2:aA) (U1:Bool):St:=⟨[(0,vI p0),(4,.ptr 4 0),(5,.ptr 5 0),(6,.ptr 6 0),(112,vB U1)],[(4,vR p1),(5,vR p2),(6,[vI 0,vI 0,vS []])]⟩
abbrev cBz:=fun p0 p1 p2 U1 (r:aA×Int)=>Jok Tryz.prog 143 29 (PQ (fun y=>(.tup [bN y.1,vI y.2])) r) (bXn p0 p1 p2 U1)















def bY5 (p1:List aA) (p0:aA) (x7:Int) (jC:Int) (jA:Int) (jD:List UInt8):St:=⟨[(1,eT p1),(2,.ptr 2 0),(4,.ptr 4 0),(6,.ptr 6 0),(7,vI x7)],[(2,vR p0),(4,[vI 0,vI 0,vS []]),(6,vR (aA.mk jC jA jD))]⟩
abbrev aSy:=fun p1 p0 x7 jC jA jD (r:aA×Int)=>Lok Tryz.prog 146 0 (PQ (fun y=>(.tup [bN y.1,vI y.2])) r) (bY5 p1 p0 x7 jC jA jD)
def bQp (p0:aJ) (x13:Bool):St:=⟨[(3,vI (p0.kids.length:Int)),(4,vI (p0.sub.length:Int)),(12,vI p0.kind),(13,vB x13)],[]⟩
abbrev cAv:=fun p0 x13 r=>Jok Tryz.prog 141 5 (PQ (fun y=>(vB y)) r) (bQp p0 x13)
def bM2 (p0:aJ) (x20:Bool):St:=⟨[(3,vI (p0.kids.length:Int)),(4,vI (p0.sub.length:Int)),(12,vI p0.kind),(20,vB x20)],[]⟩
abbrev bOu:=fun p0 x20 r=>Jok Tryz.prog 141 8 (PQ (fun y=>(vB y)) r) (bM2 p0 x20)



def bV4 (p2:List (List aA)) (p0:aP) (p1:GDb) (p3:aQ) (x10:List (List aA)) (x11:Int):St:=⟨[(2,.d (.sl 1 (p2.map (cSl 3 aB)))),(4,.ptr 4 0),(5,.ptr 5 0),(7,.ptr 7 0),(10,.d (.sl 1 (x10.map (cSl 3 aB)))),(11,vI x11)],[(4,dN p0),(5,mR p1),(7,lJ p3)]⟩
abbrev bAi:=fun p2 p0 p1 p3 x10 x11 (r:(List (List aA))×Int)=>Lok Tryz.prog 53 0 (PQ (fun y=>(.tup [.d (.sl 1 (y.1.map (cSl 3 aB))),vI y.2])) r) (bV4 p2 p0 p1 p3 x10 x11)
def cAf (p2:List (List aA)) (x10:List (List aA)) (x11:Int) (y2:fP) (p0:aP) (p1:GDb) (kp3q:aQ×(((List (List aA))×Int))):St:=⟨[(2,.d (.sl 1 (p2.map (cSl 3 aB)))),(4,.ptr 4 0),(5,.ptr 5 0),(7,.ptr 7 0),(10,.d (.sl 1 (x10.map (cSl 3 aB)))),(11,vI x11),(12,.d (.sl 1 (y2.rows.map (cSl 3 aB)))),(13,.osl 13 47 1 (kp3q.2.1.map (cSl 3 aB))),(14,vI kp3q.2.2)],[(4,dN p0),(5,mR p1),(7,lJ kp3q.1)]⟩
abbrev aX7:=fun p2 x10 x11 y2 p0 p1 kp3q (r:(List (List aA))×Int)=>Lok Tryz.prog 53 1 (PQ (fun y=>(.tup [.d (.sl 1 (y.1.map (cSl 3 aB))),vI y.2])) r) (cAf p2 x10 x11 y2 p0 p1 kp3q)
def bQr (p2:List (List aA)) (x10:List (List aA)) (x11:Int) (y2:fP) (x14:Int) (p0:aP) (kp1:GDb×aQ×(((List (List aA))×Int))):St:=⟨[(2,.d (.sl 1 (p2.map (cSl 3 aB)))),(4,.ptr 4 0),(5,.ptr 5 0),(7,.ptr 7 0),(10,.d (.sl 1 (x10.map (cSl 3 aB)))),(11,vI x11),(12,.d (.sl 1 (y2.rows.map (cSl 3 aB)))),(13,.osl 13 47 1 (kp1.2.2.1.map (cSl 3 aB))),(14,vI x14),(15,vI kp1.2.2.2)],[(4,dN p0),(5,mR kp1.1),(7,lJ kp1.2.1)]⟩
abbrev aSl:=fun p2 x10 x11 y2 x14 p0 kp1 (r:(List (List aA))×Int)=>Lok Tryz.prog 53 2 (PQ (fun y=>(.tup [.d (.sl 1 (y.1.map (cSl 3 aB))),vI y.2])) r) (bQr p2 x10 x11 y2 x14 p0 kp1)

def bWd (p2:List (List aA)) (p3:List (List aA)) (p4:List dI) (p0:aP) (p1:GDb) (x12:List (List aA)) (kx13:(List (List aA))×Int):St:=⟨[(2,.d (.sl 1 (p2.map (cSl 3 aB)))),(3,.d (.sl 1 (p3.map (cSl 3 aB)))),(4,uT p4),(5,.ptr 5 0),(6,.ptr 6 0),(12,.osl 12 47 1 (x12.map (cSl 3 aB))),(13,.osl 13 47 1 (kx13.1.map (cSl 3 aB))),(14,vI kx13.2)],[(5,dN p0),(6,mR p1)]⟩
abbrev aQq:=fun p2 p3 p4 p0 p1 x12 kx13 (r:(List (List aA))×Int)=>Lok Tryz.prog 55 0 (BQ Zh Zi r) (bWd p2 p3 p4 p0 p1 x12 kx13)
def cEy (p2:List (List aA)) (p3:List (List aA)) (p4:List dI) (x12:List (List aA)) (x13:List (List aA)) (x14:Int) (kp0q:aP×GDb×(List aA)×Int):St:=⟨[(2,.d (.sl 1 (p2.map (cSl 3 aB)))),(3,.d (.sl 1 (p3.map (cSl 3 aB)))),(4,uT p4),(5,.ptr 5 0),(6,.ptr 6 0),(12,.osl 12 47 1 (x12.map (cSl 3 aB))),(13,.osl 13 47 1 (x13.map (cSl 3 aB))),(14,vI x14),(15,.osl 15 53 3 (kp0q.2.2.1.map aB)),(16,vI kp0q.2.2.2)],[(5,dN kp0q.1),(6,mR kp0q.2.1)]⟩
abbrev aZy:=fun p2 p3 p4 x12 x13 x14 kp0q (r:(List (List aA))×Int)=>Lok Tryz.prog 55 1 (BQ Zh Zi r) (cEy p2 p3 p4 x12 x13 x14 kp0q)
def cCa (p2:List (List aA)) (p3:List (List aA)) (p4:List dI) (x12:List (List aA)) (x13:List (List aA)) (x14:Int) (kx15q:(List aA)×aP×GDb×Int):St:=⟨[(2,.d (.sl 1 (p2.map (cSl 3 aB)))),(3,.d (.sl 1 (p3.map (cSl 3 aB)))),(4,uT p4),(5,.ptr 5 0),(6,.ptr 6 0),(12,.osl 12 47 1 (x12.map (cSl 3 aB))),(13,.osl 13 47 1 (x13.map (cSl 3 aB))),(14,vI x14),(15,.osl 15 53 3 (kx15q.1.map aB)),(19,vI kx15q.2.2.2)],[(5,dN kx15q.2.1),(6,mR kx15q.2.2.1)]⟩
abbrev aWu:=fun p2 p3 p4 x12 x13 x14 kx15q (r:(List (List aA))×Int)=>Lok Tryz.prog 55 2 (BQ Zh Zi r) (cCa p2 p3 p4 x12 x13 x14 kx15q)
def bZs (p0:List aA) (p1:List aA) (p2:List dI) (x7:Int):St:=⟨[(0,eT p0),(1,eT p1),(2,uT p2),(7,vI x7)],[]⟩
abbrev aWb:=fun p0 p1 p2 x7 r=>Lok Tryz.prog 101 0 (PQ (fun y=>(vB y)) r) (bZs p0 p1 p2 x7)
def bNz (p0:List aA) (p1:List aA) (p2:List dI) (x7:Int) (x8:Int):St:=⟨[(0,eT p0),(1,eT p1),(2,uT p2),(7,vI x7),(8,vI x8)],[]⟩
abbrev aX8:=fun p0 p1 p2 x7 x8 r=>Jok Tryz.prog 101 7 (PQ (fun y=>(vB y)) r) (bNz p0 p1 p2 x7 x8)
def bTh (p0:GDb) (p1:aQ) (x5:Int):St:=⟨[(2,.ptr 2 0),(3,.ptr 3 0),(5,vI x5)],[(2,mR p0),(3,lJ p1)]⟩
abbrev aS2:=fun p0 p1 x5 r=>Lok Tryz.prog 52 0 (PQ (fun y=>(vB y)) r) (bTh p0 p1 x5)
def bTl (p0:List (List aA)) (x3:List (List aA)) (x4:Int):St:=⟨[(0,.d (.sl 1 (p0.map (cSl 3 aB)))),(3,.osl 3 47 1 (x3.map (cSl 3 aB))),(4,vI x4)],[]⟩
abbrev aX5:=fun p0 x3 x4 (r:List (List aA))=>Lok Tryz.prog 57 0 (BQ Zp Zq r) (bTl p0 x3 x4)
def bYt (p0:List (List aA)) (x3:List (List aA)) (x4:Int) (x5:Bool) (x6:Int):St:=⟨[(0,.d (.sl 1 (p0.map (cSl 3 aB)))),(3,.osl 3 47 1 (x3.map (cSl 3 aB))),(4,vI x4),(5,vB x5),(6,vI x6)],[]⟩
abbrev aX0:=fun p0 x3 x4 x5 x6 (r:List (List aA))=>Lok Tryz.prog 57 1 (BQ Zp Zq r) (bYt p0 x3 x4 x5 x6)
def bZa (p0:List (List aA)) (x4:Int) (uA:List (List aA)):St:=⟨[(0,.d (.sl 1 (p0.map (cSl 3 aB)))),(3,.osl 3 47 1 (uA.map (cSl 3 aB))),(4,vI x4)],[]⟩
abbrev bA8:=fun p0 x4 uA (r:List (List aA))=>Jok Tryz.prog 57 6 (BQ Zp Zq r) (bZa p0 x4 uA)
def bK6 (p0:List aA) (p1:List aA) (x5:Int):St:=⟨[(0,eT p0),(1,eT p1),(5,vI x5)],[]⟩
abbrev aQn:=fun p0 p1 x5 r=>Lok Tryz.prog 102 0 (PQ (fun y=>(vB y)) r) (bK6 p0 p1 x5)
def cF0 (p2:List (List aA)) (p3:List (List aA)) (p4:List aJ) (p0:aP) (p1:GDb) (x12:List (List aA)) (x13:Int):St:=⟨[(2,.d (.sl 1 (p2.map (cSl 3 aB)))),(3,.d (.sl 1 (p3.map (cSl 3 aB)))),(4,fM p4),(5,.ptr 5 0),(6,.ptr 6 0),(12,.osl 12 47 1 (x12.map (cSl 3 aB))),(13,vI x13)],[(5,dN p0),(6,mR p1)]⟩
abbrev aXp:=fun p2 p3 p4 p0 p1 x12 x13 (r:(List (List aA))×Int)=>Lok Tryz.prog 56 0 (BQ Zh Zi r) (cF0 p2 p3 p4 p0 p1 x12 x13)
def cCm (p2:List (List aA)) (p3:List (List aA)) (p4:List aJ) (x12:List (List aA)) (x13:Int) (p0:aP) (kp1:GDb×(List aA)×Int):St:=⟨[(2,.d (.sl 1 (p2.map (cSl 3 aB)))),(3,.d (.sl 1 (p3.map (cSl 3 aB)))),(4,fM p4),(5,.ptr 5 0),(6,.ptr 6 0),(12,.osl 12 47 1 (x12.map (cSl 3 aB))),(13,vI x13),(14,.osl 14 53 3 (kp1.2.1.map aB)),(15,vI kp1.2.2)],[(5,dN p0),(6,mR kp1.1)]⟩
abbrev aQz:=fun p2 p3 p4 x12 x13 p0 kp1 (r:(List (List aA))×Int)=>Lok Tryz.prog 56 1 (BQ Zh Zi r) (cCm p2 p3 p4 x12 x13 p0 kp1)


def bUl (p0:aL) (x3:Int) (dJ:Int):St:=⟨[(3,vI x3)],[(241,aZ (aL.mk p0.b dJ (QA .i64 ((QA .i64 (p0.h * 6364136223846793005))+1442695040888963407))))]⟩
abbrev Zu (y:Int×aL):List (Nat×List V):=[(241,aZ y.2)]
abbrev Zt (y:Int×aL):V:=(vI y.1)
abbrev cAx:=fun p0 x3 dJ (r:Int×aL)=>Jok Tryz.prog 76 3 (BQ Zt Zu r) (bUl p0 x3 dJ)
def cDx (p1:Int) (y1:aP×aL) (x7:List Int) (dV:List Int) (dJ:Int) (dW:Int):St:=⟨[(0,.ptr 241 0),(1,vI p1),(4,.ptr 4 0),(5,.ptr 5 0),(6,.ptr 6 0),(7,.osl 7 3 1 (x7.map cI))],[(4,[.nil 2]),(5,[.nil 1,.nil 1,.nil 10,.nil 11,.nil 10,.nil 1,vB false,vI 0]),(6,dN y1.1),(241,aZ (aL.mk dV dJ dW))]⟩
abbrev Zw (y:aP×aQ×aL):List (Nat×List V):=[(272,[.trc 1 (y.2.1.tables.map cI)]),(273,[.trc 1 (y.2.1.on_.map (cSl 10 aV))]),(274,[.trc 10 (y.2.1.where_.map aV)]),(275,[.trc 11 (y.2.1.order.map jF)]),(276,[.trc 10 (y.2.1.items.map aV)]),(277,[.trc 1 (y.2.1.names.map cStr)]),(241,aZ y.2.2)]
abbrev Zv (y:aP×aQ×aL):V:=(.tup [dD y.1,.agv [.tre 272,.tre 273,.tre 274,.tre 275,.tre 276,.tre 277,vB y.2.1.distinct,vI y.2.1.limit]])
abbrev bNs:=fun p1 y1 x7 dV dJ dW (r:aP×aQ×aL)=>Jok Tryz.prog 32 3 (BQ Zv Zw r) (cDx p1 y1 x7 dV dJ dW)
def bWn (y1:Int×aL) (x6:Int) (bX:List eD) (dV:List Int) (dJ:Int) (dW:Int):St:=⟨[(0,.ptr 241 0),(2,.ptr 2 0),(3,.ptr 3 0),(4,.osl 4 9 1 (([[116],[117],[118]]:List (List UInt8)).map cStr)),(5,vI (QA .i64 (1+y1.1))),(6,vI x6)],[(2,[.nil 2]),(3,[.osl 61 66 2 (bX.map lM)]),(241,aZ (aL.mk dV dJ dW))]⟩
abbrev Zy (y:aP×aL):List (Nat×List V):=[(241,aZ y.2)]
abbrev Zx (y:aP×aL):V:=(dD y.1)
abbrev aYx:=fun y1 x6 bX dV dJ dW (r:aP×aL)=>Lok Tryz.prog 74 0 (BQ Zx Zy r) (bWn y1 x6 bX dV dJ dW)
def cE1 (y1:Int×aL) (x6:Int) (y3:Int×aL) (bX:List eD) (y2:List UInt8) (x9:Int) (jU:(List gG)×(List Int)×Int×Int):St:=⟨[(0,.ptr 241 0),(2,.ptr 2 0),(3,.ptr 3 0),(4,.osl 4 9 1 (([[116],[117],[118]]:List (List UInt8)).map cStr)),(5,vI (QA .i64 (1+y1.1))),(6,vI x6),(7,.ptr 7 0),(8,vI (QA .i64 (1+y3.1))),(9,vI x9)],[(2,[.nil 2]),(3,[.osl 61 66 2 (bX.map lM)]),(7,[vS y2,.osl 55 112 2 (jU.1.map kV)]),(241,aZ (aL.mk jU.2.1 jU.2.2.1 jU.2.2.2))]⟩
abbrev bAe:=fun y1 x6 y3 bX y2 x9 jU (r:aP×aL)=>Lok Tryz.prog 74 1 (BQ Zx Zy r) (cE1 y1 x6 y3 bX y2 x9 jU)
def bNo (y1:Int×aL) (x6:Int) (y3:Int×aL) (x9:Int) (bX:List eD) (y2:List UInt8) (qH:List gG) (ky8:(Int×aL)×(List UInt8)×(List Int)×Int×Int):St:=⟨[(0,.ptr 241 0),(2,.ptr 2 0),(3,.ptr 3 0),(4,.osl 4 9 1 (([[116],[117],[118]]:List (List UInt8)).map cStr)),(5,vI (QA .i64 (1+y1.1))),(6,vI x6),(7,.ptr 7 0),(8,vI (QA .i64 (1+y3.1))),(9,vI x9),(10,.ptr 10 0)],[(2,[.nil 2]),(3,[.osl 61 66 2 (bX.map lM)]),(7,[vS y2,.osl 55 112 2 (qH.map kV)]),(10,bP7 (gG.mk ky8.2.1 ky8.1.1)),(241,aZ (aL.mk ky8.2.2.1 ky8.2.2.2.1 ky8.2.2.2.2))]⟩
abbrev aUr:=fun y1 x6 y3 x9 bX y2 qH ky8 (r:aP×aL)=>Jok Tryz.prog 74 17 (BQ Zx Zy r) (bNo y1 x6 y3 x9 bX y2 qH ky8)
def bW6 (y1:Int×aL) (x6:Int) (y3:Int×aL) (x9:Int) (bX:List eD) (y2:List UInt8) (mK:(List Int)×Int×Int×(List gG)):St:=⟨[(0,.ptr 241 0),(2,.ptr 2 0),(3,.ptr 3 0),(4,.osl 4 9 1 (([[116],[117],[118]]:List (List UInt8)).map cStr)),(5,vI (QA .i64 (1+y1.1))),(6,vI x6),(7,.ptr 7 0),(8,vI (QA .i64 (1+y3.1))),(9,vI x9)],[(2,[.nil 2]),(3,[.osl 61 66 2 (bX.map lM)]),(7,[vS y2,.osl 55 112 2 (mK.2.2.2.map kV)]),(241,aZ (aL.mk mK.1 mK.2.1 mK.2.2.1))]⟩
abbrev aXo:=fun y1 x6 y3 x9 bX y2 mK (r:aP×aL)=>Jok Tryz.prog 74 15 (BQ Zx Zy r) (bW6 y1 x6 y3 x9 bX y2 mK)




def bMm (p2:List (List Int)) (p3:List Int) (p4:Int) (y2:Int×aL) (p1:aP) (y1:Bool×aL) (kx13:Int×(List Int)×Int×Int×(((List (List aJ))×(List Int)))):St:=⟨[(0,.ptr 241 0),(2,.d (.sl 1 (p2.map (cSl 1 cI)))),(3,fU p3),(4,vI p4),(6,.ptr 6 0),(10,.ptr 10 0),(11,.ptr 11 0),(12,vI (QA .i64 (1+y2.1))),(13,vI kx13.1)],[(6,dN p1),(10,[.nil 1,.nil 1,.nil 10,.nil 11,.nil 10,.nil 1,vB false,vI 0]),(11,[.tre 348,.tre 349,.nil 10,.nil 11,.nil 10,.nil 1,vB y1.1,vI (-1)]),(241,aZ (aL.mk kx13.2.1 kx13.2.2.1 kx13.2.2.2.1)),(349,[.trc 1 (kx13.2.2.2.2.1.map (cSl 10 aV))]),(348,[.trc 1 (kx13.2.2.2.2.2.map cI)])]⟩
abbrev ZA (y:aQ×aL):List (Nat×List V):=[(264,[.trc 1 (y.1.tables.map cI)]),(265,[.trc 1 (y.1.on_.map (cSl 10 aV))]),(266,[.trc 10 (y.1.where_.map aV)]),(267,[.trc 11 (y.1.order.map jF)]),(268,[.trc 10 (y.1.items.map aV)]),(269,[.trc 1 (y.1.names.map cStr)]),(241,aZ y.2)]
abbrev Zz (y:aQ×aL):V:=(.agv [.tre 264,.tre 265,.tre 266,.tre 267,.tre 268,.tre 269,vB y.1.distinct,vI y.1.limit])
abbrev bA9:=fun p2 p3 p4 y2 p1 y1 kx13 (r:aQ×aL)=>Lok Tryz.prog 75 0 (BQ Zz ZA r) (bMm p2 p3 p4 y2 p1 y1 kx13)
def bV6 (p2:List (List Int)) (p3:List Int) (p4:Int) (y2:Int×aL) (x13:Int) (p1:aP) (y1:Bool×aL) (ky4:(List Int)×(((List (List aJ))×(List Int)×Int×Int×(List aJ)))):St:=⟨[(0,.ptr 241 0),(2,.d (.sl 1 (p2.map (cSl 1 cI)))),(3,fU p3),(4,vI p4),(6,.ptr 6 0),(10,.ptr 10 0),(11,.ptr 11 0),(12,vI (QA .i64 (1+y2.1))),(13,vI x13),(16,.tre 366)],[(6,dN p1),(10,[.nil 1,.nil 1,.nil 10,.nil 11,.nil 10,.nil 1,vB false,vI 0]),(11,[.tre 367,.tre 368,.nil 10,.nil 11,.nil 10,.nil 1,vB y1.1,vI (-1)]),(241,aZ (aL.mk ky4.2.2.1 ky4.2.2.2.1 ky4.2.2.2.2.1)),(366,[.trc 10 (ky4.2.2.2.2.2.map aV)]),(367,[.trc 1 (ky4.1.map cI)]),(368,[.trc 1 (ky4.2.1.map (cSl 10 aV))])]⟩
abbrev aS0:=fun p2 p3 p4 y2 x13 p1 y1 ky4 (r:aQ×aL)=>Jok Tryz.prog 75 11 (BQ Zz ZA r) (bV6 p2 p3 p4 y2 x13 p1 y1 ky4)
def bUg (p3:List Int) (p4:Int) (y15:List (List Int)) (p1:aP) (y1:Bool×aL) (gH:List (List aJ)) (gJ:List Int) (kx20:Int×(List Int)×Int×Int×(((List (List UInt8))×(List aJ)))):St:=⟨[(0,.ptr 241 0),(3,fU p3),(4,vI p4),(6,.ptr 6 0),(10,.ptr 10 0),(11,.ptr 11 0),(19,.osl 19 30 1 (y15.map (cSl 1 cI))),(20,vI kx20.1)],[(6,dN p1),(10,[.nil 1,.nil 1,.nil 10,.nil 11,.nil 10,.nil 1,vB false,vI 0]),(11,[.tre 369,.tre 370,.nil 10,.nil 11,.tre 371,.tre 372,vB y1.1,vI (-1)]),(241,aZ (aL.mk kx20.2.1 kx20.2.2.1 kx20.2.2.2.1)),(372,[.trc 1 (kx20.2.2.2.2.1.map cStr)]),(371,[.trc 10 (kx20.2.2.2.2.2.map aV)]),(370,[.trc 1 (gH.map (cSl 10 aV))]),(369,[.trc 1 (gJ.map cI)])]⟩
abbrev aS9:=fun p3 p4 y15 p1 y1 gH gJ kx20 (r:aQ×aL)=>Lok Tryz.prog 75 1 (BQ Zz ZA r) (bUg p3 p4 y15 p1 y1 gH gJ kx20)
def bOt (p4:Int) (y15:List (List Int)) (p1:aP) (y1:Bool×aL) (gK:List (List UInt8)) (gL:List aJ) (jM:(List (List aJ))×(List Int)×(List Int)×Int×Int×(List aJ)):St:=⟨[(0,.ptr 241 0),(4,vI p4),(6,.ptr 6 0),(10,.ptr 10 0),(11,.ptr 11 0),(19,.osl 19 30 1 (y15.map (cSl 1 cI)))],[(6,dN p1),(10,[.nil 1,.nil 1,.nil 10,.nil 11,.nil 10,.nil 1,vB false,vI 0]),(11,[.tre 374,.tre 375,.tre 376,.nil 11,.tre 377,.tre 378,vB y1.1,vI (-1)]),(241,aZ (aL.mk jM.2.2.1 jM.2.2.2.1 jM.2.2.2.2.1)),(376,[.trc 10 (jM.2.2.2.2.2.map aV)]),(378,[.trc 1 (gK.map cStr)]),(377,[.trc 10 (gL.map aV)]),(375,[.trc 1 (jM.1.map (cSl 10 aV))]),(374,[.trc 1 (jM.2.1.map cI)])]⟩
abbrev aVd:=fun p4 y15 p1 y1 gK gL jM (r:aQ×aL)=>Jok Tryz.prog 75 21 (BQ Zz ZA r) (bOt p4 y15 p1 y1 gK gL jM)
def cEr (y1:Bool×aL) (nN:List aJ) (gK:List (List UInt8)) (gL:List aJ) (gH:List (List aJ)) (gJ:List Int) (aAl:List Int) (O3:Int) (Z9:Int) (nD:List dI):St:=⟨[(0,.ptr 241 0),(10,.ptr 10 0),(11,.ptr 11 0)],[(10,[.nil 1,.nil 1,.nil 10,.nil 11,.nil 10,.nil 1,vB false,vI 0]),(11,[.tre 379,.tre 380,.tre 381,.tre 382,.tre 383,.tre 384,vB y1.1,vI (-1)]),(241,aZ (aL.mk aAl O3 Z9)),(382,[.trc 11 (nD.map jF)]),(381,[.trc 10 (nN.map aV)]),(384,[.trc 1 (gK.map cStr)]),(383,[.trc 10 (gL.map aV)]),(380,[.trc 1 (gH.map (cSl 10 aV))]),(379,[.trc 1 (gJ.map cI)])]⟩
abbrev bNc:=fun y1 nN gK gL gH gJ aAl O3 Z9 nD (r:aQ×aL)=>Jok Tryz.prog 75 23 (BQ Zz ZA r) (cEr y1 nN gK gL gH gJ aAl O3 Z9 nD)
def bR2 (y1:Bool×aL) (nD:List dI) (nN:List aJ) (gK:List (List UInt8)) (gL:List aJ) (gH:List (List aJ)) (gJ:List Int) (F3:Int) (zR:List Int) (J6:Int) (K6:Int):St:=⟨[(10,.ptr 10 0),(11,.ptr 11 0)],[(10,[.nil 1,.nil 1,.nil 10,.nil 11,.nil 10,.nil 1,vB false,vI 0]),(11,[.tre 385,.tre 386,.tre 387,.tre 388,.tre 389,.tre 390,vB y1.1,vI F3]),(241,aZ (aL.mk zR J6 K6)),(388,[.trc 11 (nD.map jF)]),(387,[.trc 10 (nN.map aV)]),(390,[.trc 1 (gK.map cStr)]),(389,[.trc 10 (gL.map aV)]),(386,[.trc 1 (gH.map (cSl 10 aV))]),(385,[.trc 1 (gJ.map cI)])]⟩
abbrev bYf:=fun y1 nD nN gK gL gH gJ F3 zR J6 K6 (r:aQ×aL)=>Jok Tryz.prog 75 25 (BQ Zz ZA r) (bR2 y1 nD nN gK gL gH gJ F3 zR J6 K6)

def bKb (p2:List (List Int)) (p3:Int) (y1:Int×aL) (y2:Bool×aL) (y3:Int×aL) (p1:aP) (x18:Bool):St:=⟨[(0,.ptr 241 0),(2,.d (.sl 1 (p2.map (cSl 1 cI)))),(3,vI p3),(5,.ptr 5 0),(8,.ptr 8 0),(9,vI (QA .i64 (1+y1.1))),(10,vB y2.1),(17,vI y3.1),(18,vB x18)],[(5,dN p1),(8,[vI 0,vI 0,vB false,vI 0,vI 0,vS [],vI 0,vI 0,.nil 10,.nil 8]),(241,aZ y3.2)]⟩
abbrev ZB (y:aJ×aL):V:=(.agv [vI y.1.kind,vI y.1.op,vB y.1.not_,vI y.1.value.kind,vI y.1.value.num,vS y.1.value.text,vI y.1.up,vI y.1.at_,.tre 270,.tre 271])
abbrev ZC (y:aJ×aL):List (Nat×List V):=[(270,[.trc 10 (y.1.kids.map aV)]),(271,[.trc 8 (y.1.sub.map eU)]),(241,aZ y.2)]
abbrev bA1:=fun p2 p3 y1 y2 y3 p1 x18 (r:aJ×aL)=>Jok Tryz.prog 153 5 (BQ ZB ZC r) (bKb p2 p3 y1 y2 y3 p1 x18)
def bX9 (p2:List (List Int)) (p3:Int) (y1:Int×aL) (p1:aP) (y3:Int×aL):St:=⟨[(0,.ptr 241 0),(2,.d (.sl 1 (p2.map (cSl 1 cI)))),(3,vI p3),(5,.ptr 5 0),(8,.ptr 8 0),(9,vI (QA .i64 (1+y1.1)))],[(5,dN p1),(8,[vI 0,vI 0,vB false,vI 0,vI 0,vS [],vI 0,vI 0,.nil 10,.nil 8]),(241,aZ y3.2)]⟩
abbrev aWv:=fun p2 p3 y1 p1 y3 (r:aJ×aL)=>Jok Tryz.prog 153 3 (BQ ZB ZC r) (bX9 p2 p3 y1 p1 y3)
def cBo (p2:List (List Int)) (p3:Int) (p4:Int) (p5:Int) (p1:aP) (x14:Int) (jH:(List Int)×Int×Int×(List aJ)):St:=⟨[(0,.ptr 241 0),(2,.d (.sl 1 (p2.map (cSl 1 cI)))),(3,vI p3),(4,vI p4),(5,vI p5),(7,.ptr 7 0),(13,.tre 345),(14,vI x14)],[(7,dN p1),(241,aZ (aL.mk jH.1 jH.2.1 jH.2.2.1)),(345,[.trc 10 (jH.2.2.2.map aV)])]⟩
abbrev ZE (y:(List aJ)×aL):List (Nat×List V):=[(264,[.trc 10 (y.1.map aV)]),(241,aZ y.2)]
abbrev ZD (y:(List aJ)×aL):V:=(.tre 264)
abbrev aRk:=fun p2 p3 p4 p5 p1 x14 jH (r:(List aJ)×aL)=>Lok Tryz.prog 152 0 (BQ ZD ZE r) (cBo p2 p3 p4 p5 p1 x14 jH)
def bW8 (p1:List (List Int)) (p2:Int) (x7:Int) (x9:Int) (rJ:Int) (rG:Int) (qU:Int) (gN:(List UInt8)×Int×Int×(List Int)×Int×Int):St:=⟨[(0,.ptr 241 0),(1,.d (.sl 1 (p1.map (cSl 1 cI)))),(2,vI p2),(6,.ptr 6 0),(7,vI x7),(8,.ptr 8 0),(9,vI x9)],[(6,[vI 0,vI 0,vB false,vI 0,vI 0,vS [],vI 0,vI 0,.nil 10,.nil 8]),(8,[vI rJ,vI 0,vB false,vI rG,vI qU,vS gN.1,vI gN.2.1,vI gN.2.2.1,.nil 10,.nil 8]),(241,aZ (aL.mk gN.2.2.2.1 gN.2.2.2.2.1 gN.2.2.2.2.2))]⟩
abbrev aVc:=fun p1 p2 x7 x9 rJ rG qU gN (r:aJ×aL)=>Lok Tryz.prog 151 0 (BQ ZB ZC r) (bW8 p1 p2 x7 x9 rJ rG qU gN)
def bOk (p1:List (List Int)) (p2:Int) (x9:Int) (pE:Int) (x10:Int) (rH:Int) (qV:Int) (qN:Int) (gY:(List UInt8)×Int×Int×(List Int)×Int×Int):St:=⟨[(0,.ptr 241 0),(1,.d (.sl 1 (p1.map (cSl 1 cI)))),(2,vI p2),(6,.ptr 6 0),(7,vI pE),(8,.ptr 8 0),(9,vI x9),(10,vI x10)],[(6,[vI 0,vI 0,vB false,vI 0,vI 0,vS [],vI 0,vI 0,.nil 10,.nil 8]),(8,[vI rH,vI 0,vB false,vI qV,vI qN,vS gY.1,vI gY.2.1,vI gY.2.2.1,.nil 10,.nil 8]),(241,aZ (aL.mk gY.2.2.2.1 gY.2.2.2.2.1 gY.2.2.2.2.2))]⟩
abbrev aV7:=fun p1 p2 x9 pE x10 rH qV qN gY (r:aJ×aL)=>Lok Tryz.prog 151 1 (BQ ZB ZC r) (bOk p1 p2 x9 pE x10 rH qV qN gY)
def bT7 (p1:List (List Int)) (p2:Int) (x9:Int) (x10:Int) (uO:Int) (uN:Int) (uG:Int) (uH:Int) (lC:(List UInt8)×Int×Int×(List Int)×Int×Int):St:=⟨[(0,.ptr 241 0),(1,.d (.sl 1 (p1.map (cSl 1 cI)))),(2,vI p2),(6,.ptr 6 0),(7,vI uO),(8,.ptr 8 0),(9,vI x9),(10,vI x10)],[(6,[vI 0,vI 0,vB false,vI 0,vI 0,vS [],vI 0,vI 0,.nil 10,.nil 8]),(8,[vI uN,vI 0,vB false,vI uG,vI uH,vS lC.1,vI lC.2.1,vI lC.2.2.1,.nil 10,.nil 8]),(241,aZ (aL.mk lC.2.2.2.1 lC.2.2.2.2.1 lC.2.2.2.2.2))]⟩
abbrev aR6:=fun p1 p2 x9 x10 uO uN uG uH lC (r:aJ×aL)=>Jok Tryz.prog 151 11 (BQ ZB ZC r) (bT7 p1 p2 x9 x10 uO uN uG uH lC)
def bTa (y1:aA×aL) (X9:Int) (dV:List Int) (dJ:Int) (dW:Int):St:=⟨[(4,.ptr 4 0),(5,.ptr 5 0)],[(4,[vI 0,vI 0,vS []]),(5,vR (aA.mk y1.1.kind X9 y1.1.text)),(241,aZ (aL.mk dV dJ dW))]⟩
abbrev ZG (y:aA×aL):List (Nat×List V):=[(241,aZ y.2)]
abbrev ZF (y:aA×aL):V:=(bN y.1)
abbrev cE0:=fun y1 X9 dV dJ dW (r:aA×aL)=>Jok Tryz.prog 150 2 (BQ ZF ZG r) (bTa y1 X9 dV dJ dW)


def bX1 (p1:aP) (x6:Int) (dV:List Int) (dJ:Int) (dW:Int) (eX:List fP):St:=⟨[(0,.ptr 241 0),(3,.ptr 3 0),(4,.ptr 4 0),(5,.ptr 5 0),(6,vI x6)],[(3,dN p1),(4,[.nil 1]),(5,[.tre 346]),(241,aZ (aL.mk dV dJ dW)),(346,[.trs 1 (eX.map jY)])]⟩
abbrev ZI (y:GDb×aL):List (Nat×List V):=[(264,[.trs 1 (y.1.tables.map jY)]),(241,aZ y.2)]
abbrev ZH (y:GDb×aL):V:=(.agv [.tre 264])
abbrev aZq:=fun p1 x6 dV dJ dW eX (r:GDb×aL)=>Lok Tryz.prog 35 0 (BQ ZH ZI r) (bX1 p1 x6 dV dJ dW eX)
def bNt (x6:Int) (y1:Int×aL) (p1:aP) (eX:List fP) (x9:Int) (gI:List (List aA)) (lQ:(List Int)×Int×Int):St:=⟨[(0,.ptr 241 0),(3,.ptr 3 0),(4,.ptr 4 0),(5,.ptr 5 0),(6,vI x6),(7,.ptr 7 0),(8,vI y1.1),(9,vI x9)],[(3,dN p1),(4,[.nil 1]),(5,[.tre 357]),(7,[.osl 59 47 1 (gI.map (cSl 3 aB))]),(241,aZ (aL.mk lQ.1 lQ.2.1 lQ.2.2)),(357,[.trs 1 (eX.map jY)])]⟩
abbrev aSz:=fun x6 y1 p1 eX x9 gI lQ (r:GDb×aL)=>Lok Tryz.prog 35 1 (BQ ZH ZI r) (bNt x6 y1 p1 eX x9 gI lQ)
def cAp (x6:Int) (y1:Int×aL) (x9:Int) (p1:aP) (gI:List (List aA)) (eX:List fP) (x10:List aA) (kx11:Int×(List Int)×Int×Int):St:=⟨[(0,.ptr 241 0),(3,.ptr 3 0),(4,.ptr 4 0),(5,.ptr 5 0),(6,vI x6),(7,.ptr 7 0),(8,vI y1.1),(9,vI x9),(10,.osl 10 53 3 (x10.map aB)),(11,vI kx11.1)],[(3,dN p1),(4,[.nil 1]),(5,[.tre 365]),(7,[.osl 59 47 1 (gI.map (cSl 3 aB))]),(241,aZ (aL.mk kx11.2.1 kx11.2.2.1 kx11.2.2.2)),(365,[.trs 1 (eX.map jY)])]⟩
abbrev aYl:=fun x6 y1 x9 p1 gI eX x10 kx11 (r:GDb×aL)=>Lok Tryz.prog 35 2 (BQ ZH ZI r) (cAp x6 y1 x9 p1 gI eX x10 kx11)


def bU2 (y1:aL×aP×GDb×aQ) (O1:List Int) (aAq:Int) (Y7:Int) (nE:List aJ):St:=⟨[(2,.ptr 2 0),(3,.ptr 3 0),(4,.ptr 4 0),(5,.ptr 11 0),(6,.ptr 6 0),(7,.ptr 7 0),(8,.ptr 8 0)],[(2,[.nil 2]),(3,[.nil 1]),(4,[.nil 1,.nil 1,.nil 10,.nil 11,.nil 10,.nil 1,vB false,vI 0]),(6,dN y1.2.1),(7,[.tre 350]),(8,[.tre 351,.tre 352,.tre 353,.tre 354,.tre 355,.tre 356,vB y1.2.2.2.distinct,vI y1.2.2.2.limit]),(11,aZ (aL.mk O1 aAq Y7)),(350,[.trs 1 (y1.2.2.1.tables.map jY)]),(351,[.trc 1 (y1.2.2.2.tables.map cI)]),(352,[.trc 1 (y1.2.2.2.on_.map (cSl 10 aV))]),(353,[.trc 10 (y1.2.2.2.where_.map aV)]),(354,[.trc 11 (y1.2.2.2.order.map jF)]),(355,[.trc 10 (nE.map aV)]),(356,[.trc 1 (y1.2.2.2.names.map cStr)])]⟩
abbrev bOf:=fun y1 O1 aAq Y7 nE (r:aP×GDb×aQ)=>Jok Tryz.prog 5 2 (PQ (fun y=>(.tup [dD y.1,iL y.2.1,fO y.2.2])) r) (bU2 y1 O1 aAq Y7 nE)
def bM4 (y1:aL×aP×GDb×aQ) (nE:List aJ) (K3:List fP):St:=⟨[(2,.ptr 2 0),(3,.ptr 3 0),(4,.ptr 4 0),(6,.ptr 6 0),(7,.ptr 7 0),(8,.ptr 8 0)],[(2,[.nil 2]),(3,[.nil 1]),(4,[.nil 1,.nil 1,.nil 10,.nil 11,.nil 10,.nil 1,vB false,vI 0]),(6,dN y1.2.1),(7,[.tre 358]),(8,[.tre 359,.tre 360,.tre 361,.tre 362,.tre 363,.tre 364,vB y1.2.2.2.distinct,vI y1.2.2.2.limit]),(358,[.trs 1 (K3.map jY)]),(359,[.trc 1 (y1.2.2.2.tables.map cI)]),(360,[.trc 1 (y1.2.2.2.on_.map (cSl 10 aV))]),(361,[.trc 10 (y1.2.2.2.where_.map aV)]),(362,[.trc 11 (y1.2.2.2.order.map jF)]),(363,[.trc 10 (nE.map aV)]),(364,[.trc 1 (y1.2.2.2.names.map cStr)])]⟩
abbrev bUn:=fun y1 nE K3 (r:aP×GDb×aQ)=>Jok Tryz.prog 5 4 (PQ (fun y=>(.tup [dD y.1,iL y.2.1,fO y.2.2])) r) (bM4 y1 nE K3)
def bNg (p1:aJ) (bX:Int) (jR:Int) (nV:Bool) (D6:Int) (J9:Int) (F5:List UInt8) (zO:Int) (oG:Int) (dV:List Int) (dJ:Int) (dW:Int) (G6:List aQ):St:=⟨[(3,.ptr 3 0),(4,.ptr 4 0)],[(3,[vI bX,vI jR,vB nV,vI D6,vI J9,vS F5,vI zO,vI oG,.tre 245,.tre 369]),(4,[vI 0,vI 0,vB false,vI 0,vI 0,vS [],vI 0,vI 0,.nil 10,.nil 8]),(241,aZ (aL.mk dV dJ dW)),(245,[.trc 10 (p1.kids.map aV)]),(369,[.trc 8 (G6.map eU)])]⟩
abbrev ZJ (y:aJ×aL):List (Nat×List V):=[(270,[.trc 10 (y.1.kids.map aV)]),(271,[.trc 8 (y.1.sub.map eU)]),(241,aZ y.2),(245,[.trd]),(246,[.trd])]
abbrev bL5:=fun p1 bX jR nV D6 J9 F5 zO oG dV dJ dW G6 (r:aJ×aL)=>Jok Tryz.prog 15 6 (BQ ZB ZJ r) (bNg p1 bX jR nV D6 J9 F5 zO oG dV dJ dW G6)
def cCf (bX:Int) (jR:Int) (nV:List UInt8) (dV:List Int) (dJ:Int) (dW:Int):St:=⟨[(2,.ptr 2 0),(3,.ptr 3 0)],[(2,[vI 0,vI 0,vS []]),(3,vR (aA.mk bX jR nV)),(241,aZ (aL.mk dV dJ dW))]⟩
abbrev bSn:=fun bX jR nV dV dJ dW (r:aA×aL)=>Jok Tryz.prog 37 2 (BQ ZF ZG r) (cCf bX jR nV dV dJ dW)
def bXl (y1:aA×aL) (nQ:List UInt8) (tZ:List Int) (uD:Int) (uC:Int):St:=⟨[(0,.ptr 241 0),(2,.ptr 2 0),(3,.ptr 3 0)],[(2,[vI 0,vI 0,vS []]),(3,vR (aA.mk y1.1.kind y1.1.num nQ)),(241,aZ (aL.mk tZ uD uC))]⟩
abbrev aY5:=fun y1 nQ tZ uD uC (r:aA×aL)=>Lok Tryz.prog 37 0 (BQ ZF ZG r) (bXl y1 nQ tZ uD uC)

theorem bSk (x:gG) (h:∀ d∈kV x,OkD d):okGCol x:=⟨xW _ (dL h 0 1),mP _ (dL h 1 1)⟩
theorem cE8 (x:eD) (h:∀ d∈lM x,OkD d):okGTable x:=⟨xW _ (dL h 0 1),lY _ (fun y hy=>bSk y hy) (dL h 1 1)⟩
theorem cIt (x:aP) (h:∀ d∈rU x,OkD d):okGCatalog x:=lY _ (fun y hy=>cE8 y hy) (dL h 0 1)
theorem zJ (x:aA) (h:∀ d∈aB x,OkD d):okGValue x:=⟨mP _ (dL h 0 1),mP _ (dL h 1 1),xW _ (dL h 2 1)⟩
theorem cBc (x:fP) (h:∀ d∈jY x,OkD d):okGData x:=lY _ (fun y hy=>lY _ (fun y hy=>zJ y hy) hy) (dL h 0 1)
theorem cIp (x:GDb) (h:∀ d∈qW x,OkD d):okGDb x:=lY _ (fun y hy=>cBc y hy) (dL h 0 1)
mutual
theorem bFm:∀ x:aJ,(∀ d∈aV x,OkD d)→okGPExpr x
  | ⟨a0,a1,a2,a3,a4,a5,a6,a7⟩,h0=>by
    rw [nG] at h0
    have h:∀ d∈jG ⟨a0,a1,a2,a3,a4,a5,a6,a7⟩,OkD d:=h0
    unfold okGPExpr
    exact ⟨mP _ (dL h 0 1),mP _ (dL h 1 1),trivial,zJ a3 (dL h 3 3),mP _ (dL h 6 1),mP _ (dL h 7 1),⟨by simpa using (jO (dL h 8 1)).1,aK2 a6 (jO (dL h 8 1)).2⟩,⟨by simpa using (jO (dL h 9 1)).1,bCj a7 (jO (dL h 9 1)).2⟩⟩
theorem cD6:∀ x:dI,(∀ d∈jF x,OkD d)→okGPSort x
  | ⟨a0,a1⟩,h0=>by
    rw [aWy] at h0
    have h:∀ d∈aB2 ⟨a0,a1⟩,OkD d:=h0
    unfold okGPSort
    exact ⟨bFm a0 (by rw [nG]; exact (dL h 0 10)),trivial⟩
theorem cFa:∀ x:aQ,(∀ d∈eU x,OkD d)→okGPlan x
  | ⟨a0,a1,a2,a3,a4,a5,a6,a7⟩,h0=>by
    rw [aI5] at h0
    have h:∀ d∈J8 ⟨a0,a1,a2,a3,a4,a5,a6,a7⟩,OkD d:=h0
    unfold okGPlan
    exact ⟨lY _ (fun y hy=>mP _ hy) (dL h 0 1),⟨by simpa using (jO (dL h 1 1)).1,bH8 a1 (jO (dL h 1 1)).2⟩,⟨by simpa using (jO (dL h 2 1)).1,aK2 a2 (jO (dL h 2 1)).2⟩,⟨by simpa using (jO (dL h 3 1)).1,bEv a3 (jO (dL h 3 1)).2⟩,⟨by simpa using (jO (dL h 4 1)).1,aK2 a4 (jO (dL h 4 1)).2⟩,lY _ (fun y hy=>xW _ hy) (dL h 5 1),trivial,mP _ (dL h 7 1)⟩
theorem aK2:∀ l:List aJ,(∀ x∈l.map aV,∀ d∈x,OkD d)→okLGPExpr l
  | [],_=>by unfold okLGPExpr; trivial
  | x::l,h=>by
    unfold okLGPExpr
    exact ⟨bFm x (h _ (by simp)),aK2 l fun y hy=>h y (QE _ hy)⟩
theorem bEv:∀ l:List dI,(∀ x∈l.map jF,∀ d∈x,OkD d)→okLGPSort l
  | [],_=>by unfold okLGPSort; trivial
  | x::l,h=>by
    unfold okLGPSort
    exact ⟨cD6 x (h _ (by simp)),bEv l fun y hy=>h y (QE _ hy)⟩
theorem bCj:∀ l:List aQ,(∀ x∈l.map eU,∀ d∈x,OkD d)→okLGPlan l
  | [],_=>by unfold okLGPlan; trivial
  | x::l,h=>by
    unfold okLGPlan
    exact ⟨cFa x (h _ (by simp)),bCj l fun y hy=>h y (QE _ hy)⟩
theorem bH8:∀ l:List (List aJ),(∀ x∈l.map (cSl 10 aV),∀ d∈x,OkD d)→okLLGPExpr l
  | [],_=>by unfold okLLGPExpr; trivial
  | x::l,h=>by
    unfold okLLGPExpr
    have h1:∀ d∈cSl 10 aV x,OkD d:=h _ (by simp)
    exact ⟨⟨by simpa using (jO h1).1,aK2 x (jO h1).2⟩,bH8 l fun y hy=>h y (QE _ hy)⟩
end
mutual
theorem bA0:∀ x:eP,(∀ d∈qR x,OkD d)→okGExpr x
  | ⟨a0,a1,a2,a3,a4,a5,a6,a7⟩,h0=>by
    rw [aDr] at h0
    have h:∀ d∈W9 ⟨a0,a1,a2,a3,a4,a5,a6,a7⟩,OkD d:=h0
    unfold okGExpr
    exact ⟨mP _ (dL h 0 1),mP _ (dL h 1 1),trivial,zJ a3 (dL h 3 3),xW _ (dL h 6 1),xW _ (dL h 7 1),⟨by simpa using (jO (dL h 8 1)).1,aPl a6 (jO (dL h 8 1)).2⟩,⟨by simpa using (jO (dL h 9 1)).1,bAv a7 (jO (dL h 9 1)).2⟩⟩
theorem cDt:∀ x:qA,(∀ d∈aBh x,OkD d)→okGItem x
  | ⟨a0,a1,a2,a3⟩,h0=>by
    rw [bNh] at h0
    have h:∀ d∈aI1 ⟨a0,a1,a2,a3⟩,OkD d:=h0
    unfold okGItem
    exact ⟨trivial,xW _ (dL h 1 1),bA0 a2 (by rw [aDr]; exact (dL h 2 10)),xW _ (dL h 12 1)⟩
theorem cA9:∀ x:jL,(∀ d∈wX x,OkD d)→okGQuery x
  | ⟨a0,a1,a2,a3,a4,a5⟩,h0=>by
    rw [bE0] at h0
    have h:∀ d∈aG3 ⟨a0,a1,a2,a3,a4,a5⟩,OkD d:=h0
    unfold okGQuery
    exact ⟨trivial,⟨by simpa using (jO (dL h 1 1)).1,bJl a1 (jO (dL h 1 1)).2⟩,⟨by simpa using (jO (dL h 2 1)).1,bFh a2 (jO (dL h 2 1)).2⟩,⟨by simpa using (jO (dL h 3 1)).1,aPl a3 (jO (dL h 3 1)).2⟩,⟨by simpa using (jO (dL h 4 1)).1,bGe a4 (jO (dL h 4 1)).2⟩,mP _ (dL h 5 1)⟩
theorem bRq:∀ x:pU,(∀ d∈aBw x,OkD d)→okGSortKey x
  | ⟨a0,a1⟩,h0=>by
    rw [bPg] at h0
    have h:∀ d∈aIr ⟨a0,a1⟩,OkD d:=h0
    unfold okGSortKey
    exact ⟨bA0 a0 (by rw [aDr]; exact (dL h 0 10)),trivial⟩
theorem bV0:∀ x:qC,(∀ d∈aBi x,OkD d)→okGSource x
  | ⟨a0,a1,a2⟩,h0=>by
    rw [bWw] at h0
    have h:∀ d∈aKi ⟨a0,a1,a2⟩,OkD d:=h0
    unfold okGSource
    exact ⟨xW _ (dL h 0 1),xW _ (dL h 1 1),⟨by simpa using (jO (dL h 2 1)).1,aPl a2 (jO (dL h 2 1)).2⟩⟩
theorem aPl:∀ l:List eP,(∀ x∈l.map qR,∀ d∈x,OkD d)→okLGExpr l
  | [],_=>by unfold okLGExpr; trivial
  | x::l,h=>by
    unfold okLGExpr
    exact ⟨bA0 x (h _ (by simp)),aPl l fun y hy=>h y (QE _ hy)⟩
theorem bJl:∀ l:List qA,(∀ x∈l.map aBh,∀ d∈x,OkD d)→okLGItem l
  | [],_=>by unfold okLGItem; trivial
  | x::l,h=>by
    unfold okLGItem
    exact ⟨cDt x (h _ (by simp)),bJl l fun y hy=>h y (QE _ hy)⟩
theorem bAv:∀ l:List jL,(∀ x∈l.map wX,∀ d∈x,OkD d)→okLGQuery l
  | [],_=>by unfold okLGQuery; trivial
  | x::l,h=>by
    unfold okLGQuery
    exact ⟨cA9 x (h _ (by simp)),bAv l fun y hy=>h y (QE _ hy)⟩
theorem bGe:∀ l:List pU,(∀ x∈l.map aBw,∀ d∈x,OkD d)→okLGSortKey l
  | [],_=>by unfold okLGSortKey; trivial
  | x::l,h=>by
    unfold okLGSortKey
    exact ⟨bRq x (h _ (by simp)),bGe l fun y hy=>h y (QE _ hy)⟩
theorem bFh:∀ l:List qC,(∀ x∈l.map aBi,∀ d∈x,OkD d)→okLGSource l
  | [],_=>by unfold okLGSource; trivial
  | x::l,h=>by
    unfold okLGSource
    exact ⟨bV0 x (h _ (by simp)),bFh l fun y hy=>h y (QE _ hy)⟩
end
theorem cIo (x:kG) (h:∀ d∈aSw x,OkD d):okGForm x:=⟨trivial,trivial,trivial,trivial,mP _ (dL h 4 1),mP _ (dL h 5 1),mP _ (dL h 6 1)⟩
theorem bP5 (x:mX) (h:∀ d∈vK x,OkD d):okGSortBy x:=⟨trivial,trivial⟩
theorem cGp (x:eQ) (h:∀ d∈tY x,OkD d):okGExecution x:=⟨lY _ (fun y hy=>lY _ (fun y hy=>lY _ (fun y hy=>zJ y hy) hy) hy) (dL h 0 1),lY _ (fun y hy=>lY _ (fun y hy=>trivial) hy) (dL h 1 1),lY _ (fun y hy=>trivial) (dL h 2 1),lY _ (fun y hy=>bP5 y hy) (dL h 3 1),trivial,trivial,mP _ (dL h 6 1)⟩
theorem cIa (x:aU) (h:∀ d∈bA x,OkD d):okGKeyed x:=⟨lY _ (fun y hy=>zJ y hy) (dL h 0 1),lY _ (fun y hy=>zJ y hy) (dL h 1 1)⟩
theorem cFx (x:oW) (h:∀ d∈aS7 x,OkD d):okGNode x:=⟨mP _ (dL h 0 1),mP _ (dL h 1 1),trivial,zJ x.value (dL h 3 3),lY _ (fun y hy=>zJ y hy) (dL h 6 1),lY _ (fun y hy=>lY _ (fun y hy=>zJ y hy) hy) (dL h 7 1)⟩
theorem cHj (x:aL) (h:∀ d∈aXi x,OkD d):okGL1Cur x:=⟨lY _ (fun y hy=>bGo _ hy) (dL h 0 1),mP _ (dL h 1 1),mP _ (dL h 2 1)⟩
theorem de5 {l:List D} (h:WtC Tryz.prog 5 l):∃ x:Int,l=cU8 x:=(bRw h (k:=.u8) kr)
theorem bZd {l:List D} (h:WtC Tryz.prog 22 l):∃ x:(List Int),l=(cSl 1 cU8) x:=(bTc h (e:=5) (n:=1) (c:=cU8) kr kr fun x hx=>de5 hx)
abbrev ZK (y:Bool):V:=(vB y)
theorem bKp (p0:gG) (c0_0:List UInt8):cO Tryz.prog 155 [bRh p0,.ptr 241 0] [(241,[vS c0_0])] ZK (fun (y:Bool)=>[(241,[vS c0_0])]) (aNm p0 c0_0):=by
 refine aoB fun r h=>?_;rw [aNm] at h;exact rb' h
abbrev bVt (p0) (c0_0):=R8.partial_correctness p0 c0_0 (aSo p0 c0_0) (by intro cH7 aZn x8 r h;refine Lok.un ?_;refine cd' h ?_ ?_<;>intro h;refine iq' h fun y1 h=>(cg' c1_ h (bKp _ _) fun y2 h=>?_);refine cd' h ?_ ?_<;>intro h;exact rb' h;exact lb' (aZn _ _ h) (wr [] eS bS);exact rb' h)
abbrev aZn:=bVt
theorem cCp (p0:List gG) (c0_0:List UInt8):cO Tryz.prog 154 [aPd p0,.fn 155 [.ptr 241 0]] [(241,[vS c0_0])] Z3 (fun (y:Int)=>[(241,[vS c0_0])]) (aMd p0 c0_0):=by
 refine aoB fun r h=>?_;rw [aMd] at h;exact lq' p0 (lb' (aZn _ _ _ _ h) (wr [] eS bS))
theorem bYe (p0:eD) (p1:List UInt8):FOk Tryz.prog 114 [aG0 p0,vS p1] (fun y=>(vI y)) (aHt p0 p1):=by
 refine aoP fun r h=>?_;rw [aHt] at h;exact cg' ⟨[(241,3)],[],[],[],[],[],[],[],[]⟩ h (cCp _ _) fun y1 h=>(rp' h)
theorem aKa (p0:List UInt8):FOk Tryz.prog 113 [vS p0] (fun y=>(vB y)) (rA p0):=by
 refine aoP fun r h=>?_;rw [rA] at h;exact bU h fun y1 h=>(rp' h)
abbrev bRf (p0):=M4.partial_correctness p0 (aV8 p0) (by intro cFp aVn x8 r h;refine Lok.un ?_;refine cd' h ?_ ?_<;>intro h;refine iq' h fun y1 h=>(cs' h (aKa _) fun y2 h=>(bR h fun y3 h=>(bR h fun y4 h=>(gc' h (bYe _ _) fun y5 h=>(bR h fun y6 h=>?_)))));refine cd' h ?_ ?_<;>intro h;exact rp' h;exact lb' (aVn _ _ h) (wr [] eS bS);exact cs' h (aKa _) fun y7 h=>(iY p0.cols (bU h fun y8 h=>(iY p0.cols (bU h fun y9 h=>(rp' h))))))
abbrev aVn:=bRf
theorem bR5 (p0:eD):FOk Tryz.prog 81 [aG0 p0] (fun y=>(vB y)) (aI2 p0):=by
 refine aoP fun r h=>?_;rw [aI2] at h;exact lq' p0.cols (lb' (aVn _ _ _ h) (wr [] eS bS))
theorem cA6 (p0:eD) (c0_0:List UInt8):cO Tryz.prog 116 [aG0 p0,.ptr 241 0] [(241,[vS c0_0])] ZK (fun (y:Bool)=>[(241,[vS c0_0])]) (aN0 p0 c0_0):=by
 refine aoB fun r h=>?_;rw [aN0] at h;exact rb' h
abbrev bKd (p0) (c0_0):=U8.partial_correctness p0 c0_0 (aYt p0 c0_0) (by intro cHl aZ9 x8 r h;refine Lok.un ?_;refine cd' h ?_ ?_<;>intro h;refine iq' h fun y1 h=>(cg' c1_ h (cA6 _ _) fun y2 h=>?_);refine cd' h ?_ ?_<;>intro h;exact rb' h;exact lb' (aZ9 _ _ h) (wr [] eS bS);exact rb' h)
abbrev aZ9:=bKd
theorem bS9 (p0:List eD) (c0_0:List UInt8):cO Tryz.prog 115 [bA3 p0,.fn 116 [.ptr 241 0]] [(241,[vS c0_0])] Z3 (fun (y:Int)=>[(241,[vS c0_0])]) (aPf p0 c0_0):=by
 refine aoB fun r h=>?_;rw [aPf] at h;exact lq' p0 (lb' (aZ9 _ _ _ _ h) (wr [] eS bS))
theorem bVm (p0:aP) (p1:List UInt8):FOk Tryz.prog 82 [dD p0,vS p1] (fun y=>(vI y)) (aHl p0 p1):=by
 refine aoP fun r h=>?_;rw [aHl] at h;exact cg' ⟨[(241,3)],[],[],[],[],[],[],[],[]⟩ h (bS9 _ _) fun y1 h=>(rp' h)
abbrev bLi (p0):=X8.partial_correctness p0 (aRx p0) (by intro cH6 aSe x8 r h;refine Lok.un ?_;refine cd' h ?_ ?_<;>intro h;refine iq' h fun y1 h=>(cs' h (bR5 _) fun y2 h=>(gc' h (bVm _ _) fun y3 h=>(bR h fun y4 h=>?_)));refine cd' h ?_ ?_<;>intro h;exact rp' h;exact lb' (aSe _ _ h) (wr [] eS bS);exact lq' p0.tables (rp' h))
abbrev aSe:=bLi
theorem bCo (p0:aP):FOk Tryz.prog 38 [dD p0] (fun y=>(vB y)) (aCj p0):=by
 refine aoP fun r h=>?_;rw [aCj] at h;exact lq' p0.tables (lb' (aSe _ _ _ h) (wr [] eS bS))
theorem aK3 (p0:aA):FOk Tryz.prog 72 [bN p0] (fun y=>(vB y)) (rP p0):=by
 refine aoP fun r h=>?_;rw [rP] at h;refine cd' h ?_ ?_<;>intro h;exact bU h fun y1 h=>(rp' h);refine cd' h ?_ ?_<;>intro h;exact rp' h;refine cd' h ?_ ?_<;>intro h;exact bU h fun y2 h=>(rp' h);refine cd' h ?_ ?_<;>intro h;exact bR h fun y3 h=>(bU h fun y4 h=>(rp' h));exact rp' h
theorem bL7 (p0:aA) (p1:Int):FOk Tryz.prog 29 [bN p0,vI p1] (fun y=>(vB y)) (aJp p0 p1):=by
 refine aoP fun r h=>?_;rw [aJp] at h;refine cs' h (aK3 _) fun y1 h=>?_;refine aO (.g 7 true (.pick 16 11 (kB true) 15)) (gv true y1 ZK h (fun y hy hc=>iW hy (p:=true) (q:=((true&&(y1==true))&&((decide (p0.kind=0))==false))) (Eq.trans (b:=([true&&(y1==true)]:List Bool).all id) kr (dR hc rfl)) kr kr kr (fun _=>rfl) (fun hb=>qF hc hb)) fun y2 h=>oC ?_);exact bU h fun y3 h=>(rp' h)
abbrev bKl (p1) (p0):=aAj.partial_correctness p1 p0 (aYm p1 p0) (by intro cIz aUw x14 r h;refine Lok.un ?_;refine cd' h ?_ ?_<;>intro h;refine iq' h fun y1 h=>(iI cI h fun y2 h=>(cs' h (bL7 _ _) fun y3 h=>?_));refine cd' h ?_ ?_<;>intro h;exact rp' h;exact lb' (aUw _ _ h) (wr [] eS aX);exact rp' h)
abbrev aUw:=bKl
theorem bGt (p0:List aA) (p1:List Int):FOk Tryz.prog 11 [eT p0,fU p1] (fun y=>(vB y)) (aC4 p0 p1):=by
 refine aoP fun r h=>?_;rw [aC4] at h;refine lq' p0 (jX cI p1 ?_);refine cd' h ?_ ?_<;>intro h;exact rp' h;exact lq' p0 (lb' (aUw _ _ _ _ h) (wr [] eS aX))
theorem cDz (p0:List aA) (c0_0:List Int):cO Tryz.prog 45 [eT p0,.ptr 241 0] [(241,[fU c0_0])] ZK (fun (y:Bool)=>[(241,[fU c0_0])]) (aL2 p0 c0_0):=by
 refine aoB fun r h=>?_;rw [aL2] at h;exact cs' h (bGt _ _) fun y1 h=>(rb' h)
abbrev bLf (p0) (c0_0):=Q6.partial_correctness p0 c0_0 (aT2 p0 c0_0) (by intro cIc aTv x8 r h;refine Lok.un ?_;refine cd' h ?_ ?_<;>intro h;refine iq' h fun y1 h=>(cg' c1_ h (cDz _ _) fun y2 h=>?_);refine cd' h ?_ ?_<;>intro h;exact rb' h;exact lb' (aTv _ _ h) (wr [] eS bS);exact rb' h)
abbrev aTv:=bLf
theorem bR4 (p0:List (List aA)) (c0_0:List Int):cO Tryz.prog 91 [.d (.sl 1 (p0.map (cSl 3 aB))),.fn 45 [.ptr 241 0]] [(241,[fU c0_0])] Z3 (fun (y:Int)=>[(241,[fU c0_0])]) (aLs p0 c0_0):=by
 refine aoB fun r h=>?_;rw [aLs] at h;exact lq' p0 (lb' (aTv _ _ _ _ h) (wr [] eS bS))
theorem bOs (p0:List (List aA)) (c0_0:List Int):cO Tryz.prog 44 [.d (.sl 1 (p0.map (cSl 3 aB))),.fn 45 [.ptr 241 0]] [(241,[fU c0_0])] ZK (fun (y:Bool)=>[(241,[fU c0_0])]) (aHp p0 c0_0):=by
 refine aoB fun r h=>?_;rw [aHp] at h;exact cg' c1_ h (bR4 _ _) fun y1 h=>(rb' h)
abbrev cAr (p0):=wT.partial_correctness p0 (aYz p0) (by intro cG6 aQp x3 x10 r h;refine Lok.un ?_;refine cd' h ?_ ?_<;>intro h;refine iq' h fun y1 h=>?_;refine aO (.bsl 17 3 1 [16]) (bL (l:=([y1.type]:List Int)) (f:=cI) (g:=cI) kr (fun _=>rfl) kr (oC ?_));exact aq' 3 cI h fun y2 h=>(lb' (aQp _ _ _ h) (wr [(3,.old 3)] (eo 3 eS) aX));exact rw' (s':=⟨[(2,.osl 243 3 1 (x3.map cI))],[]⟩) (wr [(243,.old 2)] (eo 2 iA) aX) (rb' h))
abbrev aQp:=cAr
theorem bH3 (p0:eD):cO Tryz.prog 43 [aG0 p0] [] Z1 Z2 (V9 p0):=by
 refine aoB fun r h=>?_;rw [V9] at h;refine aO (.bsl 6 3 1 []) (bL (l:=([]:List Int)) (f:=cI) (g:=cI) kr (fun _=>rfl) kr (oC ?_));exact lq' p0.cols (lb' (aQp _ _ _ _ h) (wr [(3,.old 3)] (eo 3 eS) aX))
abbrev bRp (p1) (p0):=H6.partial_correctness p1 p0 (aX9 p1 p0) (by intro cHs aTk x23 r h;refine Lok.un ?_;refine cd' h ?_ ?_<;>intro h;refine iq' h fun y3 h=>(iq' h fun y4 h=>(cg' ⟨[],[],[],[],[],[(243,33)],[],[33],[]⟩ h (bH3 _) fun y5 h=>(lq' y3.rows ?_)));refine aO (.g 38 false (.call (some 42) 44 [40,41])) (aJq ⟨[(241,7)],[],[],[],[],[],[],[33],[]⟩ (p:=true) (b:=(decide (6<(ln y3.rows)))) (m:=aHp y3.rows y5) (dflt:=(default:Bool)) h kr (bOs _ _) (fun hc=>by kernel_rfl) kr kr kr (fun y=>by kernel_rfl) kr (fun hc=>(Eq.trans (b:=([true&&((decide (6<(ln y3.rows)))==false),true&&((decide (6<(ln y3.rows)))==false)]:List Bool).all id) kr (dR hc (dR hc rfl)))) (fun _=>rfl) fun y6 h=>oC ?_);refine bR h fun y7 h=>?_;refine cd' h ?_ ?_<;>intro h;exact rp' h;exact lb' (aTk _ _ h) (wr [] eS bS);exact rp' h)
abbrev aTk:=bRp
theorem bKh (p0:aP) (p1:GDb):FOk Tryz.prog 17 [dD p0,iL p1] (fun y=>(vB y)) (aEj p0 p1):=by
 refine aoP fun r h=>?_;rw [aEj] at h;refine cs' h (bCo _) fun y1 h=>(iY p1.tables (iY p0.tables (bR h fun y2 h=>?_)));refine cd' h ?_ ?_<;>intro h;exact rp' h;exact lq' p1.tables (lb' (aTk _ _ _ _ h) (wr [] eS bS))
abbrev bPl (p1) (p2) (p3) (p0):=aBn.partial_correctness p1 p2 p3 p0 (aX6 p1 p2 p3 p0) (by intro cH9 aQf x6 x12 r h;refine Lok.un ?_;refine cd' h ?_ ?_<;>intro h;refine iq' h fun y1 h=>(tw' 0 [.fzb 8] ?_);refine aO (.bsl 18 98 1 [17]) (bL (l:=([bP.mk p1 p2 p3 y1]:List bP)) (f:=iE) (g:=iE) kr (fun _=>rfl) kr (oC ?_));exact aq' 6 iE h fun y2 h=>(lb' (aQf _ _ _ h) (wr [(6,.old 6)] (es (es (es (eo 6 eS)))) aX));exact rw' (s':=⟨[(5,.osl 243 98 1 (x6.map iE))],[]⟩) (wr [(243,.old 5)] (eo 5 iA) aX) (rb' h))
abbrev aQf:=bPl
theorem aLf (p0:List aJ) (p1:aP) (p2:GDb) (p3:List (List aA)):cO Tryz.prog 46 [fM p0,.rp (rU p1),.rp (qW p2),.rp [.sl 1 (p3.map (cSl 3 aB))]] [] Zf (fun (y:List bP)=>[]) (aAo p0 p1 p2 p3):=by
 refine aoB fun r h=>?_;rw [aAo] at h;refine aO (.bsl 9 98 1 []) (bL (l:=([]:List bP)) (f:=iE) (g:=iE) kr (fun _=>rfl) kr (oC ?_));exact lq' p0 (lb' (aQf _ _ _ _ _ _ _ h) (wr [(6,.old 6)] (es (es (es (eo 6 eS)))) aX))
abbrev bXu (p0):=wI.partial_correctness p0 (aUp p0) (by intro cJ0 aQl x6 x27 r h;refine Lok.un ?_;refine cd' h ?_ ?_<;>intro h;exact iq' h fun y3 h=>(aq' 6 aB h fun y4 h=>(lb' (aQl _ _ _ h) (wr [(6,.old 6)] (eo 6 eS) aX)));exact rw' (s':=⟨[(2,.osl 243 53 3 (x6.map aB))],[]⟩) (wr [(243,.old 2)] (eo 2 iA) aX) (rb' h))
abbrev aQl:=bXu
theorem cDm (p0:List aA) (p1:Int):cO Tryz.prog 171 [.osl 247 53 3 (p0.map aB),vI p1] [] Zl Zm (aL0 p0 p1):=by
 exact bSy sh171 rfl rfl
abbrev bIa (p0):=aFc.mutual_partial_correctness p0 (aSt p0) (aRj p0) (by intro cHf aRo x3 y1 x11 r h;exact Jok.un (lb' (aRo _ _ _ h) (wr [] eS aX))) (by intro cFq bHw x3 x11 r h;refine Lok.un ?_;refine cd' h ?_ ?_<;>intro h;refine iq' h fun y1 h=>(lq' y1 ?_);refine cd' h ?_ ?_<;>intro h;exact nomatch h;exact jn' (bHw _ _ _ _ h) (wr [] eS aX);exact cg' ⟨[],[],[(247,53,3)],[some 247,none],[],[(243,24)],[],[24],[]⟩ h (cDm _ _) fun y2 h=>(lq' p0 (lb' (aQl _ _ _ _ h) (wr [(6,.old 6)] (eo 6 eS) aX))))
abbrev bHw:=fun p0=>(bIa p0).1
abbrev aRo:=fun p0=>(bIa p0).2
theorem cAa (p0:List (List aA)):cO Tryz.prog 133 [.d (.sl 1 (p0.map (cSl 3 aB)))] [] Zl Zm (aH4 p0):=by
 refine aoB fun r h=>?_;rw [aH4] at h;exact lq' p0 (lb' (aRo _ _ _ _ h) (wr [] eS aX))
theorem cCw (p0:aA):FOk Tryz.prog 172 [bN p0] (fun y=>(vB y)) (aJy p0):=by
 refine aoP fun r h=>?_;rw [aJy] at h;exact bU h fun y1 h=>(rp' h)
theorem bFo (jR r) (h:aN8 jR=some r):cEo jR r:=by
 rw [aN8] at h;exact Jok.un (rp' h)
theorem uU (p0:Bool):FOk Tryz.prog 131 [vB p0] (fun y=>(bN y)) (rV p0):=by
 refine aoP fun r h=>?_;rw [rV] at h;refine cd' h ?_ ?_<;>intro h;exact jn' (bFo _ _ h) (wr [] eS bS);exact jn' (bFo _ _ h) (wr [] eS bS)
theorem cE7 (p0:Int) (p1:Int):FOk Tryz.prog 190 [vI p0,vI p1] (fun y=>(.tup [vI y.1,vB y.2])) (aF8 p0 p1):=by
 refine aoP fun r h=>?_;rw [aF8] at h;refine bU h fun y1 h=>?_;refine aO (.g 14 false (.pick 22 17 21 (kB false))) (gv true y1 ZK h (fun y hy hc=>iW hy (p:=((true&&(y1==false))&&((decide (p1<0))==true))) (q:=true) (Eq.trans (b:=([true&&(y1==false)]:List Bool).all id) kr (dR hc rfl)) kr kr kr (fun hb=>oP hc hb) (fun _=>rfl)) fun y2 h=>oC ?_);refine bR h fun y3 h=>?_;refine cd' h ?_ ?_<;>intro h;exact rp' h;exact rp' h
theorem aXq (p0:Int):FOk Tryz.prog 194 [vI p0] (fun y=>(bN y)) (Z8 p0):=by
 refine aoP fun r h=>?_;rw [Z8] at h;exact rp' h
theorem aXx (x8 x9 r) (h:aG9 x8 x9=some r):bKu x8 x9 r:=by
 rw [aG9] at h;refine Jok.un ?_;refine cd' h ?_ ?_<;>intro h;exact rp' h;exact cs' h (aXq _) fun y5 h=>(rp' h)
theorem bRu (p0:Int) (p1:Int) (p2:Int):FOk Tryz.prog 193 [vI p0,vI p1,vI p2] (fun y=>(.tup [bN y.1,vI y.2])) (aPm p0 p1 p2):=by
 refine aoP fun r h=>?_;rw [aPm] at h;refine cd' h ?_ ?_<;>intro h;exact rp' h;refine cd' h ?_ ?_<;>intro h;refine aO (.bin 17 .rem 15 16) (vs Z3 h (fun y hy=>aLi (k:=.i64) (a:=p1) (b:=p2) hy kr kr kr) fun y1 h=>oC ?_);exact cs' h (aXq _) fun y2 h=>(rp' h);refine bU h fun y3 h=>?_;refine cd' h ?_ ?_<;>intro h;exact rp' h;refine aO (.bin 29 .quo 27 28) (vs Z3 h (fun y hy=>aPx (k:=.i64) (a:=p1) (b:=p2) hy kr kr kr) fun y4 h=>oC ?_);exact cs' h (aXq _) fun y5 h=>(rp' h)
theorem bPm (p0:Int) (p1:Int):FOk Tryz.prog 192 [vI p0,vI p1] (fun y=>(.tup [vI y.1,vB y.2])) (aHi p0 p1):=by
 refine aoP fun r h=>?_;rw [aHi] at h;refine aO (.g 12 true (.bin 15 .quo 13 14)) (gv true (!decide (p0=0)) Z3 h (fun y hy hc=>aPx (k:=.i64) (a:=(QA .i64 (p0 * p1))) (b:=p0) hy (Eq.trans (b:=([true&&((!decide (p0=0))==true),true&&((!decide (p0=0))==true)]:List Bool).all id) kr (dR hc (dR hc rfl))) kr kr) fun y1 h=>oC ?_);refine aO (.g 18 false (.pick 24 21 23 (kB false))) (gv (true&&((!decide (p0=0))==true)) (!decide (y1=p1)) ZK h (fun y hy hc=>iW hy (p:=(((true&&((!decide (p0=0))==true))&&((!decide (y1=p1))==false))&&((decide (p0=(-1)))==true))) (q:=true) (Eq.trans (b:=([(true&&((!decide (p0=0))==true))&&((!decide (y1=p1))==false)]:List Bool).all id) kr (dR hc rfl)) kr kr kr (fun hb=>oP hc hb) (fun _=>rfl)) fun y2 h=>oC ?_);refine aO (.g 12 true (.pick 25 18 (kB true) 24)) (gv true (!decide (p0=0)) ZK h (fun y hy hc=>iW hy (p:=true) (q:=((true&&((!decide (p0=0))==true))&&((!decide (y1=p1))==false))) (Eq.trans (b:=([true&&((!decide (p0=0))==true)]:List Bool).all id) kr (dR hc rfl)) kr kr kr (fun _=>rfl) (fun hb=>qF hc hb)) fun y3 h=>oC ?_);refine bU h fun y4 h=>?_;refine cd' h ?_ ?_<;>intro h;exact rp' h;exact rp' h
theorem bRm (p0:Int) (p1:Int):FOk Tryz.prog 191 [vI p0,vI p1] (fun y=>(.tup [vI y.1,vB y.2])) (aF2 p0 p1):=by
 refine aoP fun r h=>?_;rw [aF2] at h;refine bU h fun y1 h=>?_;refine aO (.g 14 false (.pick 22 17 21 (kB false))) (gv true y1 ZK h (fun y hy hc=>iW hy (p:=((true&&(y1==false))&&((decide (0<p1))==true))) (q:=true) (Eq.trans (b:=([true&&(y1==false)]:List Bool).all id) kr (dR hc rfl)) kr kr kr (fun hb=>oP hc hb) (fun _=>rfl)) fun y2 h=>oC ?_);refine bR h fun y3 h=>?_;refine cd' h ?_ ?_<;>intro h;exact rp' h;exact rp' h
theorem bGi (p0:Int) (p1:Int) (p2:Int):FOk Tryz.prog 164 [vI p0,vI p1,vI p2] (fun y=>(.tup [bN y.1,vI y.2])) (aE6 p0 p1 p2):=by
 refine aoP fun r h=>?_;rw [aE6] at h;refine cd' h ?_ ?_<;>intro h;exact cs' h (cE7 _ _) fun y1 h=>(jn' (aXx _ _ _ h) (wr [] eS bS));refine cd' h ?_ ?_<;>intro h;exact cs' h (bRm _ _) fun y2 h=>(jn' (aXx _ _ _ h) (wr [] eS bS));refine cd' h ?_ ?_<;>intro h;exact cs' h (bPm _ _) fun y3 h=>(jn' (aXx _ _ _ h) (wr [] eS bS));exact cs' h (bRu _ _ _) fun y4 h=>(rp' h)
theorem bFl (p0:Int):FOk Tryz.prog 197 [vI p0] (fun y=>(vB y)) (aHf p0):=by
 refine aoP fun r h=>?_;rw [aHf] at h;exact rp' h
theorem bIh (p0:Int) (p1:Int):FOk Tryz.prog 175 [vI p0,vI p1] (fun y=>(vI y)) (aEq p0 p1):=by
 refine aoP fun r h=>?_;rw [aEq] at h;refine cs' h (bFl _) fun y1 h=>(cs' h (bFl _) fun y2 h=>?_);refine cd' h ?_ ?_<;>intro h;refine cd' h ?_ ?_<;>intro h;exact rp' h;exact rp' h;refine cd' h ?_ ?_<;>intro h;exact rp' h;refine cd' h ?_ ?_<;>intro h;exact rp' h;refine cd' h ?_ ?_<;>intro h;exact rp' h;exact rp' h
theorem bEn (p0:List UInt8):FOk Tryz.prog 198 [vS p0] (fun y=>(vB y)) (aIs p0):=by
 refine aoP fun r h=>?_;rw [aIs] at h;exact rp' h
theorem bQx (p0:List UInt8) (p1:List UInt8):FOk Tryz.prog 176 [vS p0,vS p1] (fun y=>(vI y)) (aIv p0 p1):=by
 refine aoP fun r h=>?_;rw [aIv] at h;refine cs' h (bEn _) fun y1 h=>(cs' h (bEn _) fun y2 h=>?_);refine cd' h ?_ ?_<;>intro h;refine cd' h ?_ ?_<;>intro h;exact rp' h;exact rp' h;refine cd' h ?_ ?_<;>intro h;exact rp' h;refine cd' h ?_ ?_<;>intro h;exact rp' h;refine cd' h ?_ ?_<;>intro h;exact rp' h;exact rp' h
abbrev bSr (p0):=zB.partial_correctness p0 (aUq p0) (by intro cFt aYj x8 r h;refine Lok.un ?_;refine cd' h ?_ ?_<;>intro h;refine iI cI h fun y1 h=>?_;refine cd' h ?_ ?_<;>intro h;exact rp' h;exact lb' (aYj _ _ h) (wr [] eS aX);exact rp' h)
abbrev aYj:=bSr
theorem cB9 (p0:List Int):FOk Tryz.prog 174 [fU p0] (fun y=>(vI y)) (aHw p0):=by
 refine aoP fun r h=>?_;rw [aHw] at h;exact jX cI p0 (lb' (aYj _ _ _ h) (wr [] eS aX))
theorem bEc (p0:aA) (p1:aA):FOk Tryz.prog 137 [bN p0,bN p1] (fun y=>(vI y)) (aFk p0 p1):=by
 refine aoP fun r h=>?_;rw [aFk] at h;refine cs' h (bIh _ _) fun y1 h=>(cs' h (bIh _ _) fun y2 h=>(cs' h (bQx _ _) fun y3 h=>?_));refine dO (.bsl 20 3 1 [9,14,19]) (uJ (l:=([y1,y2,y3]:List Int)) (f:=cI) (g:=cI) kr (fun _=>rfl) (dC ?_));exact cs' h (cB9 _) fun y4 h=>(rp' h)
theorem cAj (p0:Int) (p1:aA) (p2:aA):FOk Tryz.prog 167 [vI p0,bN p1,bN p2] (fun y=>(bN y)) (aCs p0 p1 p2):=by
 refine aoP fun r h=>?_;rw [aCs] at h;refine cs' h (bEc _ _) fun y1 h=>?_;refine cd' h ?_ ?_<;>intro h;exact cs' h (uU _) fun y2 h=>(rp' h);refine cd' h ?_ ?_<;>intro h;exact cs' h (uU _) fun y3 h=>(rp' h);refine cd' h ?_ ?_<;>intro h;exact cs' h (uU _) fun y4 h=>(rp' h);refine cd' h ?_ ?_<;>intro h;exact cs' h (uU _) fun y5 h=>(rp' h);refine cd' h ?_ ?_<;>intro h;exact cs' h (uU _) fun y6 h=>(rp' h);exact cs' h (uU _) fun y7 h=>(rp' h)
theorem bGa (p0:Int) (p1:aA):FOk Tryz.prog 166 [vI p0,bN p1] (fun y=>(vB y)) (R3 p0 p1):=by
 refine aoP fun r h=>?_;rw [R3] at h;refine bR h fun y1 h=>?_;refine cd' h ?_ ?_<;>intro h;exact rp' h;refine cd' h ?_ ?_<;>intro h;exact rp' h;exact rp' h
abbrev bL4 (p0) (p1) (p2):=aAn.partial_correctness p0 p1 p2 (bA6 p0 p1 p2) (by intro cIn aYo x15 r h;refine Lok.un ?_;refine cd' h ?_ ?_<;>intro h;refine iq' h fun y1 h=>(bU h fun y2 h=>?_);refine cd' h ?_ ?_<;>intro h;exact rp' h;exact lb' (aYo _ _ h) (wr [(13,.old 13)] (es (es (es (es (eo 13 eS))))) bS);refine cs' h (uU _) fun y3 h=>(bR h fun y4 h=>?_);refine cd' h ?_ ?_<;>intro h;exact rp' h;refine bR h fun y5 h=>?_;refine cd' h ?_ ?_<;>intro h;exact rp' h;exact cs' h (uU _) fun y6 h=>(rp' h))
abbrev aYo:=bL4
theorem bMb (p0:Int) (p1:aA) (p2:aA):FOk Tryz.prog 165 [vI p0,bN p1,bN p2] (fun y=>(.tup [bN y.1,vI y.2])) (aJb p0 p1 p2):=by
 refine aoP fun r h=>?_;rw [aJb] at h;refine aO (.bsl 13 53 3 [11,12]) (bL (l:=([p1,p2]:List aA)) (f:=aB) (g:=aB) kr (fun _=>rfl) kr (oC ?_));refine lq' ([p1,p2]:List aA) ?_;exact lb' (aYo _ _ _ _ _ h) (wr [(13,.old 13)] (es (es (es (es (eo 13 eS))))) bS)
theorem cAg (p0:List UInt8):FOk Tryz.prog 168 [vS p0] (fun y=>(bN y)) (aLb p0):=by
 refine aoP fun r h=>?_;rw [aLb] at h;exact rp' h
abbrev ZL (y:List UInt8):V:=(vS y)
theorem aFe (p0:Int) (p1:aA) (p2:aA):FOk Tryz.prog 130 [vI p0,bN p1,bN p2] (fun y=>(.tup [bN y.1,vI y.2])) (tF p0 p1 p2):=by
 refine aoP fun r h=>?_;rw [tF] at h;refine bR h fun y1 h=>(gc' h (aK3 _) fun y2 h=>(bR h fun y3 h=>(gc' h (aK3 _) fun y4 h=>(bR h fun y5 h=>?_))));refine cd' h ?_ ?_<;>intro h;exact rp' h;refine cd' h ?_ ?_<;>intro h;exact cs' h (bMb _ _ _) fun y6 h=>(rp' h);refine bR h fun y7 h=>(cs' h (bGa _ _) fun y8 h=>(gc' h (bGa _ _) fun y9 h=>(bR h fun y10 h=>?_)));refine aO (.g 52 false (.pick 58 55 57 (kB false))) (gv true y10 ZK h (fun y hy hc=>iW hy (p:=((true&&(y10==false))&&((decide (p0≤8))==true))) (q:=true) (Eq.trans (b:=([true&&(y10==false)]:List Bool).all id) kr (dR hc rfl)) kr kr kr (fun hb=>oP hc hb) (fun _=>rfl)) fun y11 h=>oC ?_);refine aO (.g 52 false (.pick 65 59 64 (kB false))) (gv true y10 ZK h (fun y hy hc=>iW hy (p:=((true&&(y10==false))&&(y11==true))) (q:=true) (Eq.trans (b:=([true&&(y10==false)]:List Bool).all id) kr (dR hc rfl)) kr kr kr (fun hb=>oP hc hb) (fun _=>rfl)) fun y12 h=>oC ?_);refine bR h fun y13 h=>?_;refine cd' h ?_ ?_<;>intro h;exact rp' h;refine cd' h ?_ ?_<;>intro h;exact rp' h;refine cd' h ?_ ?_<;>intro h;exact cs' h (cAj _ _ _) fun y14 h=>(rp' h);refine cd' h ?_ ?_<;>intro h;exact cs' h (bGi _ _ _) fun y15 h=>(rp' h);refine cd' h ?_ ?_<;>intro h;exact rp' h;refine aO (.bin 102 .add 99 101) (vs ZL h (fun y hy=>aNg (a:=p1.text) (b:=p2.text) hy kr kr kr) fun y16 h=>oC ?_);exact cs' h (cAg _) fun y17 h=>(rp' h)
theorem bOv (p0:aA) (p1:aA) (p2:aA):FOk Tryz.prog 169 [bN p0,bN p1,bN p2] (fun y=>(.tup [bN y.1,vI y.2])) (aK1 p0 p1 p2):=by
 refine aoP fun r h=>?_;rw [aK1] at h;refine cs' h (aFe _ _ _) fun y1 h=>?_;refine cd' h ?_ ?_<;>intro h;exact rp' h;refine cs' h (aFe _ _ _) fun y2 h=>?_;refine cd' h ?_ ?_<;>intro h;exact rp' h;exact cs' h (aFe _ _ _) fun y3 h=>(rp' h)
abbrev cF8 (p1) (p0):=O5.partial_correctness p1 p0 (aSh p1 p0) (by intro cFn aXb x14 jC jA jD r h;refine Lok.un ?_;refine cd' h ?_ ?_<;>intro h;refine iq' h fun y2 h=>(cs' h (aFe _ _ _) fun y3 h=>?_);refine cd' h ?_ ?_<;>intro h;exact rp' h;refine cs' h (aFe _ _ _) fun y4 h=>?_;refine cd' h ?_ ?_<;>intro h;exact rp' h;exact lb' (aXb _ _ _ _ _ h) (wr [] eS bS);exact rp' h)
abbrev aXb:=cF8
theorem bEp (p0:aA) (p1:List aA):FOk Tryz.prog 170 [bN p0,eT p1] (fun y=>(.tup [bN y.1,vI y.2])) (aG2 p0 p1):=by
 refine aoP fun r h=>?_;rw [aG2] at h;exact cs' h (uU _) fun y1 h=>(lq' p1 (lb' (aXb _ _ _ _ _ _ _ h) (wr [] eS bS)))
abbrev bZr (p0):=zG.partial_correctness p0 (aU0 p0) (by intro cI5 aRc x4 x42 r h;refine Lok.un ?_;refine cd' h ?_ ?_<;>intro h;refine iq' h fun y8 h=>(lq' y8 ?_);refine cd' h ?_ ?_<;>intro h;exact rp' h;refine iq' h fun y9 h=>?_;refine aO (.bsl 54 53 3 [53]) (bL (l:=([y9]:List aA)) (f:=aB) (g:=aB) kr (fun _=>rfl) kr (oC ?_));exact aq' 4 aB h fun y10 h=>(lb' (aRc _ _ _ h) (wr [(4,.old 4)] (es (es (eo 4 eS))) bS));exact iq' h fun y11 h=>(cs' h (bEp _ _) fun y12 h=>(rp' h)))
abbrev aRc:=bZr
theorem bWr (p0:oW):FOk Tryz.prog 132 [bJi p0] (fun y=>(.tup [bN y.1,vI y.2])) (aE0 p0):=by
 refine aoP fun r h=>?_;rw [aE0] at h;refine cd' h ?_ ?_<;>intro h;exact iq' h fun y1 h=>(iq' h fun y2 h=>(iq' h fun y3 h=>(cs' h (bOv _ _ _) fun y4 h=>(rp' h))));refine cd' h ?_ ?_<;>intro h;refine iq' h fun y5 h=>?_;refine dO (.slc 34 3 33 (some (kI 1)) none none) (fD (m:=iP p0.kids 1 (ln p0.kids)) (v':=fun y=>(eT y)) h rfl rfl (fun y hy=>yS (l:=p0.kids) (f:=aB) (lo:=1) (hi:=(ln p0.kids)) hy kr kr rfl ⟨kr,.i64,kr⟩) fun y6 h=>dC ?_);exact cs' h (bEp _ _) fun y7 h=>(rp' h);refine aO (.bsl 38 53 3 []) (bL (l:=([]:List aA)) (f:=aB) (g:=aB) kr (fun _=>rfl) kr (oC ?_));exact lq' p0.rows (lb' (aRc _ _ _ _ h) (wr [(4,.old 4)] (es (es (eo 4 eS))) bS))
theorem bB4 (p0:Int) (p1:aA):FOk Tryz.prog 129 [vI p0,bN p1] (fun y=>(.tup [bN y.1,vI y.2])) (aB8 p0 p1):=by
 refine aoP fun r h=>?_;rw [aB8] at h;refine cs' h (aK3 _) fun y1 h=>?_;refine aO (.g 9 false (.pick 15 12 14 (kB false))) (gv true (!y1) ZK h (fun y hy hc=>iW hy (p:=((true&&((!y1)==false))&&((!decide (p0=15))==true))) (q:=true) (Eq.trans (b:=([true&&((!y1)==false)]:List Bool).all id) kr (dR hc rfl)) kr kr kr (fun hb=>oP hc hb) (fun _=>rfl)) fun y2 h=>oC ?_);refine bR h fun y3 h=>?_;refine cd' h ?_ ?_<;>intro h;exact rp' h;refine cd' h ?_ ?_<;>intro h;exact rp' h;refine bU h fun y4 h=>?_;refine cd' h ?_ ?_<;>intro h;exact cs' h (uU _) fun y5 h=>(rp' h);refine bU h fun y6 h=>?_;refine cd' h ?_ ?_<;>intro h;exact cs' h (bGi _ _ _) fun y7 h=>(rp' h);exact rp' h
theorem bMj (p0:oW):FOk Tryz.prog 93 [bJi p0] (fun y=>(.tup [bN y.1,vI y.2])) (aHd p0):=by
 refine aoP fun r h=>?_;rw [aHd] at h;refine cd' h ?_ ?_<;>intro h;exact rp' h;refine cd' h ?_ ?_<;>intro h;exact iq' h fun y1 h=>(cs' h (bB4 _ _) fun y2 h=>(rp' h));refine cd' h ?_ ?_<;>intro h;exact iq' h fun y3 h=>(iq' h fun y4 h=>(cs' h (aFe _ _ _) fun y5 h=>(rp' h)));refine cd' h ?_ ?_<;>intro h;exact iq' h fun y6 h=>(cs' h (uU _) fun y7 h=>(rp' h));refine cd' h ?_ ?_<;>intro h;exact lq' p0.rows (cs' h (uU _) fun y8 h=>(rp' h));refine cs' h (bWr _) fun y9 h=>?_;refine cd' h ?_ ?_<;>intro h;exact rp' h;refine cd' h ?_ ?_<;>intro h;exact cs' h (bB4 _ _) fun y10 h=>(rp' h);exact rp' h
theorem bQ2 (p0:aA):FOk Tryz.prog 187 [bN p0] (fun y=>(vB y)) (G7 p0):=by
 refine aoP fun r h=>?_;rw [G7] at h;refine cs' h (aK3 _) fun y1 h=>?_;refine aO (.g 5 true (.pick 13 9 (kB true) 12)) (gv true y1 ZK h (fun y hy hc=>iW hy (p:=true) (q:=((true&&(y1==true))&&((!decide (p0.kind=1))==false))) (Eq.trans (b:=([true&&(y1==true)]:List Bool).all id) kr (dR hc rfl)) kr kr kr (fun _=>rfl) (fun hb=>qF hc hb)) fun y2 h=>oC ?_);exact bU h fun y3 h=>(bU h fun y4 h=>(rp' h))
theorem bC3 (p0:eP):FOk Tryz.prog 159 [bH0 p0] (fun y=>(.tup [aYn y.1,vB y.2])) (yM p0):=by
 refine aoP fun r h=>?_;rw [yM] at h;refine cd' h ?_ ?_<;>intro h;exact cs' h (bQ2 _) fun y1 h=>(rp' h);refine cd' h ?_ ?_<;>intro h;refine cs' h (aKa _) fun y2 h=>(gc' h (aKa _) fun y3 h=>?_);refine aO (.g 18 true (.pick 26 22 (kB true) 25)) (gv true y2 ZK h (fun y hy hc=>iW hy (p:=true) (q:=((true&&(y2==true))&&((decide (p0.qual=[]))==false))) (Eq.trans (b:=([true&&(y2==true)]:List Bool).all id) kr (dR hc rfl)) kr kr kr (fun _=>rfl) (fun hb=>qF hc hb)) fun y4 h=>oC ?_);exact bU h fun y5 h=>(rp' h);refine cd' h ?_ ?_<;>intro h;exact bR h fun y6 h=>(rp' h);refine cd' h ?_ ?_<;>intro h;exact bU h fun y7 h=>(rp' h);refine cd' h ?_ ?_<;>intro h;exact rp' h;refine cd' h ?_ ?_<;>intro h;exact rp' h;refine cd' h ?_ ?_<;>intro h;exact rp' h;refine cd' h ?_ ?_<;>intro h;exact rp' h;refine cd' h ?_ ?_<;>intro h;exact rp' h;exact rp' h
theorem bK3 (p0 T9 r) (h:aK0 p0 T9=some r):bPk p0 T9 r:=by
 rw [aK0] at h;exact Jok.un (cs' h (bC3 _) fun y1 h=>(rp' h))
theorem bRx (p0:Int):FOk Tryz.prog 128 [vI p0] (fun y=>(.tup [aYn y.1,vB y.2])) (aPw p0):=by
 refine aoP fun r h=>?_;rw [aPw] at h;refine aO (.bld 6 [bJ,bJ,mG,bJ,bJ,mM,mM,mM,.nil 10,.nil 6] [(0,1,5),(1,1,kI 15),(7,1,.c (.d (.s (bs [120]))))]) (nM (c:=[vI p0,vI 15,vB false,vI 0,vI 0,vS [],vS [],vS [120],.nil 10,.nil 6]) kr kr rfl (oC ?_));refine cd' h ?_ ?_<;>intro h;exact jn' (bK3 _ _ _ h) (wr [] eS bS);exact jn' (bK3 _ _ _ h) (wr [] eS bS)
theorem cAq (p0:Int) (p1:Int) (p2:Int):FOk Tryz.prog 92 [vI p0,vI p1,vI p2] (fun y=>(vB y)) (aJ8 p0 p1 p2):=by
 refine aoP fun r h=>?_;rw [aJ8] at h;exact cs' h (bRx _) fun y1 h=>(bU h fun y2 h=>(bU h fun y3 h=>(bU h fun y4 h=>(rp' h))))
theorem cC3 (p0:List aA):cO Tryz.prog 140 [eT p0] [] Zl Zm (aGu p0):=by
 refine aoB fun r h=>?_;rw [aGu] at h;refine aO (.eqn 4 false 3) (bE4 (sz:=3) (l:=p0) (f:=aB) h kr kr (fun hl h=>oC ?_) fun hl h=>?_);refine aN3 ?_;refine aO (.bsl 5 53 3 []) (bL (l:=([]:List aA)) (f:=aB) (g:=aB) kr (fun _=>rfl) kr (oC ?_));exact aq' 5 aB h fun y1 h=>(rw' (s':=⟨[(2,.osl 243 53 3 (y1.map aB))],[]⟩) (wr [(243,.old 2)] (eo 2 iA) aX) (rb' h))
 subst hl
 refine ⟨oC ?_,oC ?_⟩
 replace h:((appG 32 ([]:List aA) ([]:List aA))>>=fun (y2:List aA)=>some y2:Option (List aA))=some r:=h
 refine aN3 ?_;refine aO (.bsl 5 53 3 []) (bL (l:=([]:List aA)) (f:=aB) (g:=aB) kr (fun _=>rfl) kr (oC ?_));exact aq' 5 aB h fun y2 h=>(rw' (s':=⟨[(2,.osl 243 53 3 (y2.map aB))],[]⟩) (wr [(243,.old 2)] (eo 2 iA) aX) (rb' h));exact bD1 (rw' (s':=⟨[(2,.osl 243 53 3 (([]:List aA).map aB))],[]⟩) (wr [(243,.new 53 3)] (en iA) aX) (rb' h))
abbrev bUr (p0) (p1):=Q8.partial_correctness p0 p1 (aVp p0 p1) (by intro cGs aU9 x13 r h;refine Lok.un ?_;refine cd' h ?_ ?_<;>intro h;refine iq' h fun y1 h=>(iq' h fun y2 h=>?_);refine cd' h ?_ ?_<;>intro h;exact rp' h;exact lb' (aU9 _ _ h) (wr [] eS aX);exact rp' h)
abbrev aU9:=bUr
theorem bQj (p0:List aA) (p1:List aA):FOk Tryz.prog 139 [eT p0,eT p1] (fun y=>(vB y)) (aKj p0 p1):=by
 refine aoP fun r h=>?_;rw [aKj] at h;refine lq' p0 (lq' p1 ?_);refine cd' h ?_ ?_<;>intro h;exact rp' h;exact lq' p0 (lb' (aU9 _ _ _ _ h) (wr [] eS aX))
theorem bMo (p0:List aA) (c0_0:List aA):cO Tryz.prog 138 [eT p0,.ptr 241 0] [(241,[eT c0_0])] ZK (fun (y:Bool)=>[(241,[eT c0_0])]) (aQ0 p0 c0_0):=by
 refine aoB fun r h=>?_;rw [aQ0] at h;exact cs' h (bQj _ _) fun y1 h=>(rb' h)
abbrev bZ6 (p0) (c0_0):=M8.partial_correctness p0 c0_0 (aYy p0 c0_0) (by intro cGf aUy x8 r h;refine Lok.un ?_;refine cd' h ?_ ?_<;>intro h;refine iq' h fun y1 h=>(cg' c1_ h (bMo _ _) fun y2 h=>?_);refine cd' h ?_ ?_<;>intro h;exact rb' h;exact lb' (aUy _ _ h) (wr [] eS bS);exact rb' h)
abbrev aUy:=bZ6
theorem bOd (p0:List (List aA)) (c0_0:List aA):cO Tryz.prog 91 [.d (.sl 1 (p0.map (cSl 3 aB))),.fn 138 [.ptr 241 0]] [(241,[eT c0_0])] Z3 (fun (y:Int)=>[(241,[eT c0_0])]) (aO9 p0 c0_0):=by
 refine aoB fun r h=>?_;rw [aO9] at h;exact lq' p0 (lb' (aUy _ _ _ _ h) (wr [] eS bS))
theorem bV9 (p0:List (List aA)) (c0_0:List aA):cO Tryz.prog 44 [.d (.sl 1 (p0.map (cSl 3 aB))),.fn 138 [.ptr 241 0]] [(241,[eT c0_0])] ZK (fun (y:Bool)=>[(241,[eT c0_0])]) (aHv p0 c0_0):=by
 refine aoB fun r h=>?_;rw [aHv] at h;exact cg' c1_ h (bOd _ _) fun y1 h=>(rb' h)
abbrev bIi (p0):=aCg.mutual_partial_correctness p0 (aZk p0) (aZc p0) (by intro cGi aTi x9 qQ r h;exact Jok.un (lb' (aTi _ _ _ h) (wr [(3,.old 3)] (eo 3 eS) aX))) (by intro cHm aYq x3 x9 r h;refine Lok.un ?_;refine cd' h ?_ ?_<;>intro h;refine iq' h fun y1 h=>(cg' ⟨[(241,5)],[],[],[],[],[],[],[],[]⟩ h (bV9 _ _) fun y2 h=>?_);refine cd' h ?_ ?_<;>intro h;refine cg' ⟨[],[],[],[],[],[(243,19)],[],[19],[]⟩ h (cC3 _) fun y3 h=>?_;refine aO (.bsl 20 47 1 [19]) (bL (l:=([y3]:List (List aA))) (f:=(cSl 3 aB)) (g:=(cSl 3 aB)) kr (fun _=>rfl) kr (oC ?_));exact aq' 3 (cSl 3 aB) h fun y4 h=>(jn' (aYq _ _ _ h) (wr [(3,.old 3)] (eo 3 eS) aX));exact jn' (aYq _ _ _ h) (wr [(3,.old 3)] (eo 3 eS) aX);exact rw' (s':=⟨[(2,.osl 243 47 1 (x3.map (cSl 3 aB)))],[]⟩) (wr [(243,.old 2)] (eo 2 iA) aX) (rb' h))
abbrev aYq:=fun p0=>(bIi p0).1
abbrev aTi:=fun p0=>(bIi p0).2
theorem bO5 (p0:List (List aA)):cO Tryz.prog 96 [.d (.sl 1 (p0.map (cSl 3 aB)))] [] Zp Zq (aBe p0):=by
 refine aoB fun r h=>?_;rw [aBe] at h;refine aO (.bsl 6 47 1 []) (bL (l:=([]:List (List aA))) (f:=(cSl 3 aB)) (g:=(cSl 3 aB)) kr (fun _=>rfl) kr (oC ?_));exact lq' p0 (lb' (aTi _ _ _ _ h) (wr [(3,.old 3)] (eo 3 eS) aX))
theorem bI6 (U4 r) (h:aIo U4=some r):cB4 U4 r:=by
 rw [aIo] at h;exact Jok.un (rp' h)
abbrev ZM (y:List (List aA)):V:=(.d (.sl 1 (y.map (cSl 3 aB))))
theorem bC6 (p0 uR r) (h:yO p0 uR=some r):bUw p0 uR r:=by
 rw [yO] at h;refine Jok.un (iY uR (bU h fun y8 h=>?_));refine cd' h ?_ ?_<;>intro h;refine aO (.slc 67 1 64 none (some 66) none) (vs ZM h (fun y hy=>yS (l:=uR) (f:=(cSl 3 aB)) (lo:=0) (hi:=p0.limit) hy kr kr ⟨kr,.i64,kr⟩ rfl) fun y9 h=>oC ?_);exact jn' (bI6 _ _ h) (wr [] eS aX);exact jn' (bI6 _ _ h) (wr [] (ew iA) aX)
abbrev bDe (p2) (p0) (p1):=aDb.mutual_partial_correctness p2 p0 p1 (fun x12=>aYv p2 x12 p0 p1) (aQi p2 p0 p1) (by intro cIe aSv x12 x8 r h;refine Jok.un ?_;refine cd' h ?_ ?_<;>intro h;exact rp' h;exact lb' (aSv _ _ h) (wr [] eS bS)) (by intro cH5 bAg x12 r h;refine Lok.un ?_;refine cd' h ?_ ?_<;>intro h;refine iq' h fun y1 h=>(iq' h fun y2 h=>(iq' h fun y3 h=>(cs' h (bEc _ _) fun y4 h=>?_)));refine cd' h ?_ ?_<;>intro h;exact jn' (bAg _ _ _ h) (wr [] eS bS);exact jn' (bAg _ _ _ h) (wr [] eS bS);exact rp' h)
abbrev bAg:=fun p2 x12 p0 p1=>(bDe p2 p0 p1).1 x12
abbrev aSv:=fun p2 p0 p1=>(bDe p2 p0 p1).2
theorem aL6 (p0:aU) (p1:aU) (p2:eQ):FOk Tryz.prog 136 [jV p0,jV p1,.rp (tY p2)] (fun y=>(vI y)) (vU p0 p1 p2):=by
 refine aoP fun r h=>?_;rw [vU] at h;exact lq' p2.order (lb' (aSv _ _ _ _ _ h) (wr [] eS bS))
abbrev bCa (p1) (p2) (p3):=aA1.mutual_partial_correctness p1 p2 p3 (aXd p1 p2 p3) (aXk p1 p2 p3) (by intro bVj cHh aPv aZ5 x8 x9 fE r h;refine Lok.un ?_;refine dO (.g 21 true (.ia 25 2 23 24)) (uE (p:=true) (b:=(decide (p1<x9))) (m:=idx fE x9) (dflt:=default) (v':=fun y=>(.trp 244 2 (x9).toNat 0)) h kr rfl rfl (fun y hy hc=>kM (n:=244) (l:=fE) (f:=bA) (k:=.i64) (i:=x9) hy kr (Eq.trans (b:=([true&&((decide (p1<x9))==true),true&&((decide (p1<x9))==true)]:List Bool).all id) kr (dR hc (dR hc rfl))) kr kr) fun y2 h=>dC ?_);refine dO (.g 21 true (.ld 26 2 true 25)) (uE (p:=true) (b:=(decide (p1<x9))) (m:=idx fE x9) (dflt:=default) (v':=fun y=>(jV y)) h kr rfl rfl (fun y hy hc=>oL (off:=0) (n:=244) (sz:=2) (l:=fE) (f:=bA) (g:=bA) (j:=x9) hy (fun _=>rfl) kr (Eq.trans (b:=([true&&((decide (p1<x9))==true)]:List Bool).all id) kr (dR hc rfl)) kr kr) fun y3 h=>dC ?_);refine dO (.g 21 true (.ia 30 2 27 29)) (uE (p:=true) (b:=(decide (p1<x9))) (m:=idx fE (QA .i64 (x9 - 1))) (dflt:=default) (v':=fun y=>(.trp 244 2 ((QA .i64 (x9 - 1))).toNat 0)) h kr rfl rfl (fun y hy hc=>kM (n:=244) (l:=fE) (f:=bA) (k:=.i64) (i:=(QA .i64 (x9 - 1))) hy kr (Eq.trans (b:=([true&&((decide (p1<x9))==true),true&&((decide (p1<x9))==true)]:List Bool).all id) kr (dR hc (dR hc rfl))) kr kr) fun y4 h=>dC ?_);refine dO (.g 21 true (.ld 31 2 true 30)) (uE (p:=true) (b:=(decide (p1<x9))) (m:=idx fE (QA .i64 (x9 - 1))) (dflt:=default) (v':=fun y=>(jV y)) h kr rfl rfl (fun y hy hc=>oL (off:=0) (n:=244) (sz:=2) (l:=fE) (f:=bA) (g:=bA) (j:=(QA .i64 (x9 - 1))) hy (fun _=>rfl) kr (Eq.trans (b:=([true&&((decide (p1<x9))==true)]:List Bool).all id) kr (dR hc rfl)) kr kr) fun y5 h=>dC ?_);refine dO (.g 21 true (.callv (some 32) 22 [26,31])) (bLl (caps:=[.rp (tY p3.c0)]) (p:=true) (b:=(decide (p1<x9))) (m:=vU y3 y5 p3.c0) (dflt:=default) (args:=[jV y3,jV y5,.rp (tY p3.c0)]) (v':=(fun y=>(vI y))) h kr kr kr (aL6 _ _ _) (fun hc=>by kernel_rfl) kr (fun _=>rfl) (fun hc=>(Eq.trans (b:=([true&&((decide (p1<x9))==true),true&&((decide (p1<x9))==true),true&&((decide (p1<x9))==true)]:List Bool).all id) kr (dR hc (dR hc (dR hc rfl))))) fun y6 h=>dC ?_);refine bU h fun y7 h=>?_;refine cd' h ?_ ?_<;>intro h;refine dO (.ia 45 2 42 44) (fD (m:=idx fE (QA .i64 (x9 - 1))) (v':=fun y=>(.trp 244 2 ((QA .i64 (x9 - 1))).toNat 0)) h rfl rfl (fun y hy=>kM (n:=244) (l:=fE) (f:=bA) (k:=.i64) (i:=(QA .i64 (x9 - 1))) hy kr kr kr kr) fun y8 h=>dC ?_);refine dO (.ld 46 2 true 45) (fD (m:=idx fE (QA .i64 (x9 - 1))) (v':=fun y=>(jV y)) h rfl rfl (fun y hy=>oL (off:=0) (n:=244) (sz:=2) (l:=fE) (f:=bA) (g:=bA) (j:=(QA .i64 (x9 - 1))) hy (fun _=>rfl) kr kr kr kr) fun y9 h=>dC ?_);refine dO (.ia 49 2 47 48) (fD (m:=idx fE x9) (v':=fun y=>(.trp 244 2 (x9).toNat 0)) h rfl rfl (fun y hy=>kM (n:=244) (l:=fE) (f:=bA) (k:=.i64) (i:=x9) hy kr kr kr kr) fun y10 h=>dC ?_);refine dO (.ld 50 2 true 49) (fD (m:=idx fE x9) (v':=fun y=>(jV y)) h rfl rfl (fun y hy=>oL (off:=0) (n:=244) (sz:=2) (l:=fE) (f:=bA) (g:=bA) (j:=x9) hy (fun _=>rfl) kr kr kr kr) fun y11 h=>dC ?_);refine dO (.ia 51 2 37 38) (fD (m:=idx fE x9) (v':=fun y=>(.trp 244 2 (x9).toNat 0)) h rfl rfl (fun y hy=>kM (n:=244) (l:=fE) (f:=bA) (k:=.i64) (i:=x9) hy kr kr kr kr) fun y12 h=>dC ?_);refine dO (.st 2 51 46) (aA5 (n:=244) (sz:=2) (l:=fE) (f:=bA) (j:=x9) (v:=y9) h kr kr (fun _=>rfl) kr kr (fun _=>rfl) fun y13 h=>dC ?_);refine dO (.ia 52 2 39 41) (fD (m:=idx y13 (QA .i64 (x9 - 1))) (v':=fun y=>(.trp 244 2 ((QA .i64 (x9 - 1))).toNat 0)) h rfl rfl (fun y hy=>kM (n:=244) (l:=y13) (f:=bA) (k:=.i64) (i:=(QA .i64 (x9 - 1))) hy kr kr kr kr) fun y14 h=>dC ?_);refine dO (.st 2 52 50) (aA5 (n:=244) (sz:=2) (l:=y13) (f:=bA) (j:=(QA .i64 (x9 - 1))) (v:=y11) h kr kr (fun _=>rfl) kr kr (fun _=>rfl) fun y15 h=>dC ?_);exact lb' (aPv _ _ _ _ h) (wr [] eS bS);exact lb' (aZ5 _ _ _ h) (wr [] eS bS)) (by intro bVj aPv x8 bD r h;refine Lok.un ?_;refine cd' h ?_ ?_<;>intro h;exact lb' (aPv _ _ _ _ h) (wr [] eS bS);exact rb' h)
abbrev aPv:=fun p1 p2 p3=>(bCa p1 p2 p3).1
abbrev aZ5:=fun p1 p2 p3=>(bCa p1 p2 p3).2
theorem bG3 (p0:List aU) (p1:Int) (p2:Int) (p3:eY):cO Tryz.prog 195 [.tre 244,vI p1,vI p2,.d (lU p3)] [(244,[.trs 2 (p0.map bA)])] Zj Zk (aDz p0 p1 p2 p3):=by
 refine aoB fun r h=>?_;rw [aDz] at h;exact lb' (aZ5 _ _ _ _ _ _ h) (wr [] eS bS)
abbrev bSx (p1) (p2) (p3):=aIt.partial_correctness p1 p2 p3 (aW8 p1 p2 p3) (by intro cHv aZx x10 bD r h;refine Lok.un ?_;refine cd' h ?_ ?_<;>intro h;refine dO (.ia 28 2 24 27) (fD (m:=idx bD (QA .i64 (p2+x10))) (v':=fun y=>(.trp 244 2 ((QA .i64 (p2+x10))).toNat 0)) h rfl rfl (fun y hy=>kM (n:=244) (l:=bD) (f:=bA) (k:=.i64) (i:=(QA .i64 (p2+x10))) hy kr kr kr kr) fun y1 h=>dC ?_);refine dO (.ld 29 2 true 28) (fD (m:=idx bD (QA .i64 (p2+x10))) (v':=fun y=>(jV y)) h rfl rfl (fun y hy=>oL (off:=0) (n:=244) (sz:=2) (l:=bD) (f:=bA) (g:=bA) (j:=(QA .i64 (p2+x10))) hy (fun _=>rfl) kr kr kr kr) fun y2 h=>dC ?_);refine dO (.ia 34 2 30 33) (fD (m:=idx bD (QA .i64 (p1+x10))) (v':=fun y=>(.trp 244 2 ((QA .i64 (p1+x10))).toNat 0)) h rfl rfl (fun y hy=>kM (n:=244) (l:=bD) (f:=bA) (k:=.i64) (i:=(QA .i64 (p1+x10))) hy kr kr kr kr) fun y3 h=>dC ?_);refine dO (.ld 35 2 true 34) (fD (m:=idx bD (QA .i64 (p1+x10))) (v':=fun y=>(jV y)) h rfl rfl (fun y hy=>oL (off:=0) (n:=244) (sz:=2) (l:=bD) (f:=bA) (g:=bA) (j:=(QA .i64 (p1+x10))) hy (fun _=>rfl) kr kr kr kr) fun y4 h=>dC ?_);refine dO (.ia 36 2 16 19) (fD (m:=idx bD (QA .i64 (p1+x10))) (v':=fun y=>(.trp 244 2 ((QA .i64 (p1+x10))).toNat 0)) h rfl rfl (fun y hy=>kM (n:=244) (l:=bD) (f:=bA) (k:=.i64) (i:=(QA .i64 (p1+x10))) hy kr kr kr kr) fun y5 h=>dC ?_);refine dO (.st 2 36 29) (aA5 (n:=244) (sz:=2) (l:=bD) (f:=bA) (j:=(QA .i64 (p1+x10))) (v:=y2) h kr kr (fun _=>rfl) kr kr (fun _=>rfl) fun y6 h=>dC ?_);refine dO (.ia 37 2 20 23) (fD (m:=idx y6 (QA .i64 (p2+x10))) (v':=fun y=>(.trp 244 2 ((QA .i64 (p2+x10))).toNat 0)) h rfl rfl (fun y hy=>kM (n:=244) (l:=y6) (f:=bA) (k:=.i64) (i:=(QA .i64 (p2+x10))) hy kr kr kr kr) fun y7 h=>dC ?_);refine dO (.st 2 37 35) (aA5 (n:=244) (sz:=2) (l:=y6) (f:=bA) (j:=(QA .i64 (p2+x10))) (v:=y4) h kr kr (fun _=>rfl) kr kr (fun _=>rfl) fun y8 h=>dC ?_);exact lb' (aZx _ _ _ h) (wr [] eS bS);exact rb' h)
abbrev aZx:=bSx
theorem aSu (p0:List aU) (p1:Int) (p2:Int) (p3:Int) (p4:eY):cO Tryz.prog 201 [.tre 244,vI p1,vI p2,vI p3,.d (lU p4)] [(244,[.trs 2 (p0.map bA)])] Zj Zk (aIc p0 p1 p2 p3 p4):=by
 refine aoB fun r h=>?_;rw [aIc] at h;exact lb' (aZx _ _ _ _ _ _ h) (wr [] eS bS)
abbrev cCo (p2) (p4):=aEn.partial_correctness p2 p4 (aZi p2 p4) (by intro cHn aOh x10 x11 bD r h;refine Lok.un ?_;refine cd' h ?_ ?_<;>intro h;refine cd' h ?_ ?_<;>intro h;exact cg' ⟨[(244,244)],[],[],[],[],[],[],[],[]⟩ h (aSu _ _ _ _ _) fun y1 h=>(lb' (aOh _ _ _ _ h) (wr [] eS bS));exact cg' ⟨[(244,244)],[],[],[],[],[],[],[],[]⟩ h (aSu _ _ _ _ _) fun y2 h=>(lb' (aOh _ _ _ _ h) (wr [] eS bS));exact cg' ⟨[(244,244)],[],[],[],[],[],[],[],[]⟩ h (aSu _ _ _ _ _) fun y3 h=>(rb' h))
abbrev aOh:=cCo
theorem bW4 (p0:List aU) (p1:Int) (p2:Int) (p3:Int) (p4:eY):cO Tryz.prog 200 [.tre 244,vI p1,vI p2,vI p3,.d (lU p4)] [(244,[.trs 2 (p0.map bA)])] Zj Zk (aXu p0 p1 p2 p3 p4):=by
 refine aoB fun r h=>?_;rw [aXu] at h;exact lb' (aOh _ _ _ _ _ _ h) (wr [] eS bS)
abbrev bKk (x10):=aJ4.partial_correctness x10 (aYc x10) (by intro cIr aUd x13 bD r h;refine Lok.un ?_;refine cd' h ?_ ?_<;>intro h;refine dO (.ia 69 2 66 68) (fD (m:=idx bD (QA .i64 (x13+1))) (v':=fun y=>(.trp 244 2 ((QA .i64 (x13+1))).toNat 0)) h rfl rfl (fun y hy=>kM (n:=244) (l:=bD) (f:=bA) (k:=.i64) (i:=(QA .i64 (x13+1))) hy kr kr kr kr) fun y14 h=>dC ?_);refine dO (.ld 70 2 true 69) (fD (m:=idx bD (QA .i64 (x13+1))) (v':=fun y=>(jV y)) h rfl rfl (fun y hy=>oL (off:=0) (n:=244) (sz:=2) (l:=bD) (f:=bA) (g:=bA) (j:=(QA .i64 (x13+1))) hy (fun _=>rfl) kr kr kr kr) fun y15 h=>dC ?_);refine dO (.ia 73 2 71 72) (fD (m:=idx bD x13) (v':=fun y=>(.trp 244 2 (x13).toNat 0)) h rfl rfl (fun y hy=>kM (n:=244) (l:=bD) (f:=bA) (k:=.i64) (i:=x13) hy kr kr kr kr) fun y16 h=>dC ?_);refine dO (.ld 74 2 true 73) (fD (m:=idx bD x13) (v':=fun y=>(jV y)) h rfl rfl (fun y hy=>oL (off:=0) (n:=244) (sz:=2) (l:=bD) (f:=bA) (g:=bA) (j:=x13) hy (fun _=>rfl) kr kr kr kr) fun y17 h=>dC ?_);refine dO (.ia 75 2 61 62) (fD (m:=idx bD x13) (v':=fun y=>(.trp 244 2 (x13).toNat 0)) h rfl rfl (fun y hy=>kM (n:=244) (l:=bD) (f:=bA) (k:=.i64) (i:=x13) hy kr kr kr kr) fun y18 h=>dC ?_);refine dO (.st 2 75 70) (aA5 (n:=244) (sz:=2) (l:=bD) (f:=bA) (j:=x13) (v:=y15) h kr kr (fun _=>rfl) kr kr (fun _=>rfl) fun y19 h=>dC ?_);refine dO (.ia 76 2 63 65) (fD (m:=idx y19 (QA .i64 (x13+1))) (v':=fun y=>(.trp 244 2 ((QA .i64 (x13+1))).toNat 0)) h rfl rfl (fun y hy=>kM (n:=244) (l:=y19) (f:=bA) (k:=.i64) (i:=(QA .i64 (x13+1))) hy kr kr kr kr) fun y20 h=>dC ?_);refine dO (.st 2 76 74) (aA5 (n:=244) (sz:=2) (l:=y19) (f:=bA) (j:=(QA .i64 (x13+1))) (v:=y17) h kr kr (fun _=>rfl) kr kr (fun _=>rfl) fun y21 h=>dC ?_);exact lb' (aUd _ _ _ h) (wr [] eS bS);exact rb' h)
abbrev aUd:=bKk
abbrev bTq (p1) (p4) (p0):=aF6.partial_correctness p1 p4 p0 (aTe p1 p4 p0) (by intro cGt aMq x10 x11 r h;refine Lok.un ?_;refine cd' h ?_ ?_<;>intro h;refine dO (.ia 43 2 41 42) (fD (m:=idx p0 (QA .i64 (QB (QA .u64 (QA .i64 (x10+x11))) (2 ^ 1)))) (v':=fun y=>(.trp 244 2 ((QA .i64 (QB (QA .u64 (QA .i64 (x10+x11))) (2 ^ 1)))).toNat 0)) h rfl rfl (fun y hy=>kM (n:=244) (l:=p0) (f:=bA) (k:=.i64) (i:=(QA .i64 (QB (QA .u64 (QA .i64 (x10+x11))) (2 ^ 1)))) hy kr kr kr kr) fun y1 h=>dC ?_);refine dO (.ld 44 2 true 43) (fD (m:=idx p0 (QA .i64 (QB (QA .u64 (QA .i64 (x10+x11))) (2 ^ 1)))) (v':=fun y=>(jV y)) h rfl rfl (fun y hy=>oL (off:=0) (n:=244) (sz:=2) (l:=p0) (f:=bA) (g:=bA) (j:=(QA .i64 (QB (QA .u64 (QA .i64 (x10+x11))) (2 ^ 1)))) hy (fun _=>rfl) kr kr kr kr) fun y2 h=>dC ?_);refine dO (.ia 47 2 45 46) (fD (m:=idx p0 p1) (v':=fun y=>(.trp 244 2 (p1).toNat 0)) h rfl rfl (fun y hy=>kM (n:=244) (l:=p0) (f:=bA) (k:=.i64) (i:=p1) hy kr kr kr kr) fun y3 h=>dC ?_);refine dO (.ld 48 2 true 47) (fD (m:=idx p0 p1) (v':=fun y=>(jV y)) h rfl rfl (fun y hy=>oL (off:=0) (n:=244) (sz:=2) (l:=p0) (f:=bA) (g:=bA) (j:=p1) hy (fun _=>rfl) kr kr kr kr) fun y4 h=>dC ?_);refine dO (.callv (some 49) 40 [44,48]) (aX1 (m:=vU y2 y4 p4.c0) (caps:=[.rp (tY p4.c0)]) (args:=[jV y2,jV y4,.rp (tY p4.c0)]) (v':=(fun y=>(vI y))) h kr kr (aL6 _ _ _) kr kr (fun _=>rfl) fun y5 h=>dC ?_);refine cd' h ?_ ?_<;>intro h;exact lb' (aMq _ _ _ h) (wr [] eS bS);exact lb' (aMq _ _ _ h) (wr [] eS bS);exact lb' (aUd _ _ _ _ h) (wr [] eS bS))
abbrev aMq:=bTq
abbrev bU3 (x14):=aGf.partial_correctness x14 (aV6 x14) (by intro cI8 aZ1 x17 iR r h;refine Lok.un ?_;refine cd' h ?_ ?_<;>intro h;refine dO (.ia 121 2 118 120) (fD (m:=idx iR (QA .i64 (x17 - 1))) (v':=fun y=>(.trp 244 2 ((QA .i64 (x17 - 1))).toNat 0)) h rfl rfl (fun y hy=>kM (n:=244) (l:=iR) (f:=bA) (k:=.i64) (i:=(QA .i64 (x17 - 1))) hy kr kr kr kr) fun y22 h=>dC ?_);refine dO (.ld 122 2 true 121) (fD (m:=idx iR (QA .i64 (x17 - 1))) (v':=fun y=>(jV y)) h rfl rfl (fun y hy=>oL (off:=0) (n:=244) (sz:=2) (l:=iR) (f:=bA) (g:=bA) (j:=(QA .i64 (x17 - 1))) hy (fun _=>rfl) kr kr kr kr) fun y23 h=>dC ?_);refine dO (.ia 125 2 123 124) (fD (m:=idx iR x17) (v':=fun y=>(.trp 244 2 (x17).toNat 0)) h rfl rfl (fun y hy=>kM (n:=244) (l:=iR) (f:=bA) (k:=.i64) (i:=x17) hy kr kr kr kr) fun y24 h=>dC ?_);refine dO (.ld 126 2 true 125) (fD (m:=idx iR x17) (v':=fun y=>(jV y)) h rfl rfl (fun y hy=>oL (off:=0) (n:=244) (sz:=2) (l:=iR) (f:=bA) (g:=bA) (j:=x17) hy (fun _=>rfl) kr kr kr kr) fun y25 h=>dC ?_);refine dO (.ia 127 2 113 114) (fD (m:=idx iR x17) (v':=fun y=>(.trp 244 2 (x17).toNat 0)) h rfl rfl (fun y hy=>kM (n:=244) (l:=iR) (f:=bA) (k:=.i64) (i:=x17) hy kr kr kr kr) fun y26 h=>dC ?_);refine dO (.st 2 127 122) (aA5 (n:=244) (sz:=2) (l:=iR) (f:=bA) (j:=x17) (v:=y23) h kr kr (fun _=>rfl) kr kr (fun _=>rfl) fun y27 h=>dC ?_);refine dO (.ia 128 2 115 117) (fD (m:=idx y27 (QA .i64 (x17 - 1))) (v':=fun y=>(.trp 244 2 ((QA .i64 (x17 - 1))).toNat 0)) h rfl rfl (fun y hy=>kM (n:=244) (l:=y27) (f:=bA) (k:=.i64) (i:=(QA .i64 (x17 - 1))) hy kr kr kr kr) fun y28 h=>dC ?_);refine dO (.st 2 128 126) (aA5 (n:=244) (sz:=2) (l:=y27) (f:=bA) (j:=(QA .i64 (x17 - 1))) (v:=y25) h kr kr (fun _=>rfl) kr kr (fun _=>rfl) fun y29 h=>dC ?_);exact lb' (aZ1 _ _ _ h) (wr [] eS bS);exact rb' h)
abbrev aZ1:=bU3
abbrev bUa (p2) (p4) (p0):=aEi.partial_correctness p2 p4 p0 (bAk p2 p4 p0) (by intro cJ1 aQc x14 x15 r h;refine Lok.un ?_;refine cd' h ?_ ?_<;>intro h;refine dO (.ia 95 2 93 94) (fD (m:=idx p0 p2) (v':=fun y=>(.trp 244 2 (p2).toNat 0)) h rfl rfl (fun y hy=>kM (n:=244) (l:=p0) (f:=bA) (k:=.i64) (i:=p2) hy kr kr kr kr) fun y6 h=>dC ?_);refine dO (.ld 96 2 true 95) (fD (m:=idx p0 p2) (v':=fun y=>(jV y)) h rfl rfl (fun y hy=>oL (off:=0) (n:=244) (sz:=2) (l:=p0) (f:=bA) (g:=bA) (j:=p2) hy (fun _=>rfl) kr kr kr kr) fun y7 h=>dC ?_);refine dO (.ia 99 2 97 98) (fD (m:=idx p0 (QA .i64 (QB (QA .u64 (QA .i64 (x14+x15))) (2 ^ 1)))) (v':=fun y=>(.trp 244 2 ((QA .i64 (QB (QA .u64 (QA .i64 (x14+x15))) (2 ^ 1)))).toNat 0)) h rfl rfl (fun y hy=>kM (n:=244) (l:=p0) (f:=bA) (k:=.i64) (i:=(QA .i64 (QB (QA .u64 (QA .i64 (x14+x15))) (2 ^ 1)))) hy kr kr kr kr) fun y8 h=>dC ?_);refine dO (.ld 100 2 true 99) (fD (m:=idx p0 (QA .i64 (QB (QA .u64 (QA .i64 (x14+x15))) (2 ^ 1)))) (v':=fun y=>(jV y)) h rfl rfl (fun y hy=>oL (off:=0) (n:=244) (sz:=2) (l:=p0) (f:=bA) (g:=bA) (j:=(QA .i64 (QB (QA .u64 (QA .i64 (x14+x15))) (2 ^ 1)))) hy (fun _=>rfl) kr kr kr kr) fun y9 h=>dC ?_);refine dO (.callv (some 101) 92 [96,100]) (aX1 (m:=vU y7 y9 p4.c0) (caps:=[.rp (tY p4.c0)]) (args:=[jV y7,jV y9,.rp (tY p4.c0)]) (v':=(fun y=>(vI y))) h kr kr (aL6 _ _ _) kr kr (fun _=>rfl) fun y10 h=>dC ?_);refine cd' h ?_ ?_<;>intro h;exact lb' (aQc _ _ _ h) (wr [] eS bS);exact lb' (aQc _ _ _ h) (wr [] eS bS);exact lb' (aZ1 _ _ _ _ h) (wr [] eS bS))
abbrev aQc:=bUa
abbrev aIq (p4):=aJr.mutual_partial_correctness p4 (fun p3=>aWh p3 p4) (fun p0 p1 p2 p3 r=>bG Tryz.prog 196 [.tre 244,vI p1,vI p2,vI p3,.d (lU p4)] [(244,[.trs 2 (p0.map bA)])] (BQ Zj Zk r)) (fun p1 p2 p3=>aQr p1 p2 p3 p4) (fun p1 p2 p3=>aWw p1 p2 p3 p4) (fun p1 p3=>aWf p1 p3 p4) (by intro bR0 aDt p3 p1 p2 dF pX r h;refine Jok.un (bU h fun y41 h=>?_);refine cd' h ?_ ?_<;>intro h;exact cg' ⟨[(244,244)],[],[],[],[],[],[],[],[]⟩ h (aDt _ _ _ _) fun y42 h=>(rb' h);exact rb' h) (by intro cId aU3 p0 p1 p2 p3 r h;refine ao' ?_;refine cd' h ?_ ?_<;>intro h;exact lb' (aMq _ _ _ _ _ _ h) (wr [] eS bS);refine cd' h ?_ ?_<;>intro h;exact lb' (aQc _ _ _ _ _ _ h) (wr [] eS bS);refine cd' h ?_ ?_<;>intro h;exact jn' (aU3 _ _ _ _ _ _ _ h) (wr [] eS bS);exact jn' (aU3 _ _ _ _ _ _ _ h) (wr [] eS bS)) (by intro bSd aI3 p1 p2 p3 p0 x20 x21 r h;refine Jok.un ?_;exact lb' (aI3 _ _ _ _ _ _ _ h) (wr [] eS bS)) (by intro bSd cGl aI3 aTs p1 p2 p3 p0 dF iV r h;refine Lok.un ?_;refine cd' h ?_ ?_<;>intro h;refine dO (.ia 163 2 159 162) (fD (m:=idx p0 (QA .i64 ((QA .i64 ((QA .i64 ((QA .i64 (QB (QA .u64 (QA .i64 (p1+p3))) (2 ^ 1)))+p2)) - 1)) - (QA .i64 (QB (QA .u64 (QA .i64 (dF+iV))) (2 ^ 1)))))) (v':=fun y=>(.trp 244 2 ((QA .i64 ((QA .i64 ((QA .i64 ((QA .i64 (QB (QA .u64 (QA .i64 (p1+p3))) (2 ^ 1)))+p2)) - 1)) - (QA .i64 (QB (QA .u64 (QA .i64 (dF+iV))) (2 ^ 1)))))).toNat 0)) h rfl rfl (fun y hy=>kM (n:=244) (l:=p0) (f:=bA) (k:=.i64) (i:=(QA .i64 ((QA .i64 ((QA .i64 ((QA .i64 (QB (QA .u64 (QA .i64 (p1+p3))) (2 ^ 1)))+p2)) - 1)) - (QA .i64 (QB (QA .u64 (QA .i64 (dF+iV))) (2 ^ 1)))))) hy kr kr kr kr) fun y30 h=>dC ?_);refine dO (.ld 164 2 true 163) (fD (m:=idx p0 (QA .i64 ((QA .i64 ((QA .i64 ((QA .i64 (QB (QA .u64 (QA .i64 (p1+p3))) (2 ^ 1)))+p2)) - 1)) - (QA .i64 (QB (QA .u64 (QA .i64 (dF+iV))) (2 ^ 1)))))) (v':=fun y=>(jV y)) h rfl rfl (fun y hy=>oL (off:=0) (n:=244) (sz:=2) (l:=p0) (f:=bA) (g:=bA) (j:=(QA .i64 ((QA .i64 ((QA .i64 ((QA .i64 (QB (QA .u64 (QA .i64 (p1+p3))) (2 ^ 1)))+p2)) - 1)) - (QA .i64 (QB (QA .u64 (QA .i64 (dF+iV))) (2 ^ 1)))))) hy (fun _=>rfl) kr kr kr kr) fun y31 h=>dC ?_);refine dO (.ia 167 2 165 166) (fD (m:=idx p0 (QA .i64 (QB (QA .u64 (QA .i64 (dF+iV))) (2 ^ 1)))) (v':=fun y=>(.trp 244 2 ((QA .i64 (QB (QA .u64 (QA .i64 (dF+iV))) (2 ^ 1)))).toNat 0)) h rfl rfl (fun y hy=>kM (n:=244) (l:=p0) (f:=bA) (k:=.i64) (i:=(QA .i64 (QB (QA .u64 (QA .i64 (dF+iV))) (2 ^ 1)))) hy kr kr kr kr) fun y32 h=>dC ?_);refine dO (.ld 168 2 true 167) (fD (m:=idx p0 (QA .i64 (QB (QA .u64 (QA .i64 (dF+iV))) (2 ^ 1)))) (v':=fun y=>(jV y)) h rfl rfl (fun y hy=>oL (off:=0) (n:=244) (sz:=2) (l:=p0) (f:=bA) (g:=bA) (j:=(QA .i64 (QB (QA .u64 (QA .i64 (dF+iV))) (2 ^ 1)))) hy (fun _=>rfl) kr kr kr kr) fun y33 h=>dC ?_);refine dO (.callv (some 169) 158 [164,168]) (aX1 (m:=vU y31 y33 p4.c0) (caps:=[.rp (tY p4.c0)]) (args:=[jV y31,jV y33,.rp (tY p4.c0)]) (v':=(fun y=>(vI y))) h kr kr (aL6 _ _ _) kr kr (fun _=>rfl) fun y34 h=>dC ?_);refine cd' h ?_ ?_<;>intro h;exact lb' (aI3 _ _ _ _ _ _ _ h) (wr [] eS bS);exact lb' (aI3 _ _ _ _ _ _ _ h) (wr [] eS bS);refine bU h fun y35 h=>?_;refine cd' h ?_ ?_<;>intro h;refine cg' ⟨[(244,244)],[],[],[],[],[],[],[],[]⟩ h (bW4 _ _ _ _ _) fun y36 h=>?_;exact jn' (aTs _ _ _ _ _ _ h) (wr [] eS bS);exact jn' (aTs _ _ _ _ _ _ h) (wr [] eS bS)) (by intro cGb bR0 aTx aDt p1 p3 dF p2 pV r h;refine Jok.un (bU h fun y38 h=>?_);refine cd' h ?_ ?_<;>intro h;exact cg' ⟨[(244,244)],[],[],[],[],[],[],[],[]⟩ h (aDt _ _ _ _) fun y39 h=>(jn' (aTx _ _ _ _ _ _ h) (wr [] eS bS));exact jn' (aTx _ _ _ _ _ _ h) (wr [] eS bS))
abbrev aTx:=fun p3 p4=>(aIq p4).1 p3
theorem aDt (p0:List aU) (p1:Int) (p2:Int) (p3:Int) (p4:eY):cO Tryz.prog 196 [.tre 244,vI p1,vI p2,vI p3,.d (lU p4)] [(244,[.trs 2 (p0.map bA)])] Zj Zk (aDp p0 p1 p2 p3 p4):=fun r h=>(aIq p4).2.1 p0 p1 p2 p3 r h
abbrev aU3:=fun p1 p2 p3 p4=>(aIq p4).2.2.1 p1 p2 p3
abbrev aI3:=fun p1 p2 p3 p4=>(aIq p4).2.2.2.1 p1 p2 p3
abbrev aTs:=fun p1 p3 p4=>(aIq p4).2.2.2.2 p1 p3
abbrev aWz (p1) (p2):=aJ6.mutual_partial_correctness p1 p2 (aTw p1 p2) (aYu p1 p2) (aSc p1 p2) (by intro cFm aTn x6 rQ r h;exact Jok.un (lb' (aTn _ _ _ h) (wr [] eS bS))) (by intro cEb aLm x6 qI r h;refine Lok.un ?_;refine cd' h ?_ ?_<;>intro h;exact lb' (aLm _ _ _ _ _ h) (wr [] eS bS);exact rb' h) (by intro cIl cEb aY3 aLm x6 nL oD pG r h;refine Lok.un ?_;refine cd' h ?_ ?_<;>intro h;exact cg' ⟨[(244,244)],[],[],[],[],[],[],[],[]⟩ h (aDt _ _ _ _ _) fun y7 h=>(lb' (aLm _ _ _ _ _ h) (wr [] eS bS));refine cd' h ?_ ?_<;>intro h;exact cg' ⟨[(244,244)],[],[],[],[],[],[],[],[]⟩ h (aDt _ _ _ _ _) fun y8 h=>(jn' (aY3 _ _ _ h) (wr [] eS bS));exact jn' (aY3 _ _ _ h) (wr [] eS bS))
abbrev aY3:=fun p1 p2=>(aWz p1 p2).1
abbrev aTn:=fun p1 p2=>(aWz p1 p2).2.1
abbrev aLm:=fun p1 p2=>(aWz p1 p2).2.2
abbrev bK9 (p1) (p2):=aFn.partial_correctness p1 p2 (aUe p1 p2) (by intro cGx aQg x7 x8 bD r h;refine Lok.un ?_;refine cd' h ?_ ?_<;>intro h;exact cg' ⟨[(244,244)],[],[],[],[],[],[],[],[]⟩ h (bG3 _ _ _ _) fun y1 h=>(lb' (aQg _ _ _ _ h) (wr [] eS bS));exact cg' ⟨[(244,244)],[],[],[],[],[],[],[],[]⟩ h (bG3 _ _ _ _) fun y2 h=>(lb' (aTn _ _ _ _ _ h) (wr [] eS bS)))
abbrev aQg:=bK9
theorem bSe (p0:List aU) (p1:Int) (p2:eY):cO Tryz.prog 173 [.tre 244,vI p1,.d (lU p2)] [(244,[.trs 2 (p0.map bA)])] Zj Zk (aNd p0 p1 p2):=by
 refine aoB fun r h=>?_;rw [aNd] at h;exact lb' (aQg _ _ _ _ _ _ h) (wr [] eS bS)
theorem cAm (p0:List aU) (p1:eY):cO Tryz.prog 135 [.tre 244,.d (lU p1)] [(244,[.trs 2 (p0.map bA)])] Zj Zk (aIb p0 p1):=by
 refine aoB fun r h=>?_;rw [aIb] at h;refine aO (.len 6 5) (ps (vI (ln p0)) (aLq (n:=244) (l:=p0.map bA) (L:=p0.length) kr kr (QH ..)) (oC ?_));exact cg' ⟨[(244,244)],[],[],[],[],[],[],[],[]⟩ h (bSe _ _ _) fun y1 h=>(rb' h)
abbrev bQ6 (y2):=O0.partial_correctness y2 (aUg y2) (by intro cI1 aTo x14 x60 r h;refine Lok.un ?_;refine cd' h ?_ ?_<;>intro h;refine aO (.ia 62 2 58 60) (vs (fun (y:aU)=>(.trp 373 2 (x60).toNat 0)) h (fun y hy=>kM (n:=373) (l:=y2) (f:=bA) (k:=.i64) (i:=x60) hy kr kr kr kr) fun y7 h=>oC ?_);refine aO (.ld 63 2 true 62) (vs (fun (y:aU)=>(jV y)) h (fun y hy=>oL (off:=0) (n:=373) (sz:=2) (l:=y2) (f:=bA) (g:=bA) (j:=x60) hy (fun _=>rfl) kr kr kr kr) fun y8 h=>oC ?_);refine aO (.bsl 67 47 1 [66]) (bL (l:=([y8.row]:List (List aA))) (f:=(cSl 3 aB)) (g:=(cSl 3 aB)) kr (fun _=>rfl) kr (oC ?_));exact aq' 14 (cSl 3 aB) h fun y9 h=>(lb' (aTo _ _ _ h) (wr [(14,.old 14)] (eo 14 eS) bS));exact rw' (s':=⟨[(4,.osl 243 47 1 (x14.map (cSl 3 aB))),(5,vI 0)],[]⟩) (wr [(243,.old 4)] (eo 4 eS) aX) (rb' h))
abbrev aTo:=bQ6
abbrev kS:=aD6.mutual_partial_correctness aWe aT9 (fun p0 p1 p2 p3 p4 r=>bG Tryz.prog 47 [eT p0,.rp (rU p1),.rp (qW p2),.rp [.sl 1 (p3.map (cSl 3 aB))],.rp (jG p4)] [] (PQ (fun y=>(.tup [bN y.1,vI y.2])) r)) (fun p0 p1 p2 p3 r=>bG Tryz.prog 48 [dD p0,iL p1,.d (.sl 1 (p2.map (cSl 3 aB))),iQ p3] [] (PQ (fun y=>(.tup [bN y.1,vI y.2])) r)) aXm aQj (fun p0 p1 p2 p3 r=>bG Tryz.prog 18 [dD p0,iL p1,.d (.sl 1 (p2.map (cSl 3 aB))),fO p3] [] (PQ (fun y=>(.tup [.d (.sl 1 (y.1.map (cSl 3 aB))),vI y.2])) r)) aUt aWp aR9 (fun p0 r=>bG Tryz.prog 51 [G8 p0] [] (PQ (fun y=>(.tup [.d (.sl 1 (y.1.map (cSl 3 aB))),vI y.2])) r)) aT5 (fun p0 p1 r=>bG Tryz.prog 49 [eT p0,.rp [.sl 1 (p1.map iE)]] [] (BQ Zn Zo r)) (fun p0 p1 r=>bG Tryz.prog 50 [yL p0,eT p1] [] (BQ Zn Zo r)) aU5 (fun p0 p1 r=>bG Tryz.prog 95 [G8 p0,.d (.sl 1 (p1.map (cSl 3 aB)))] [] (BQ Zh Zi r)) (fun p0 r=>bG Tryz.prog 94 [G8 p0] [] (PQ (fun y=>(.tup [.d (.sl 1 (y.1.map (cSl 3 aB))),vI y.2])) r)) aW6 (fun p0 p1 r=>bG Tryz.prog 134 [.d (.sl 1 (p0.map (cSl 3 aB))),yL p1] [] (PQ (fun y=>(.tup [.d (.sl 1 (y.1.map (cSl 3 aB))),vI y.2])) r)) aV5 aZ3 aVk aY2 aYr (by intro bZ4 bW3 aI8 aLv aOj aG4 y1 p1 x20 p0 iC x9 x28 r h;refine Lok.un ?_;refine cd' h ?_ ?_<;>intro h;refine iq' h fun y3 h=>?_;refine aO (.callv (some 36) 34 [35]) (aIf (m:=aI8 y1 y3.eval.c0 y3.eval.c1 y3.eval.c2 y3.eval.c3) (caps:=[.rp (rU y3.eval.c0),.rp (qW y3.eval.c1),.rp [.sl 1 (y3.eval.c2.map (cSl 3 aB))],.rp (jG y3.eval.c3)]) (args:=[eT y1,.rp (rU y3.eval.c0),.rp (qW y3.eval.c1),.rp [.sl 1 (y3.eval.c2.map (cSl 3 aB))],.rp (jG y3.eval.c3)]) (v':=(fun y=>(.tup [bN y.1,vI y.2]))) h kr kr (aG4 _ _ _ _ _) kr kr (fun _=>rfl) fun y4 h=>oC ?_);refine cd' h ?_ ?_<;>intro h;exact rw' (s':=⟨[(4,.osl 243 47 1 (([]:List (List aA)).map (cSl 3 aB))),(5,vI y4.2)],[]⟩) (wr [(243,.new 47 1)] (en eS) aX) (rb' h);refine aO (.bsl 44 53 3 [43]) (bL (l:=([y4.1]:List aA)) (f:=aB) (g:=aB) kr (fun _=>rfl) kr (oC ?_));refine aq' 9 aB h fun y5 h=>?_;exact lb' (aLv _ _ _ _ _ _ _ _ h) (wr [(9,.old 9)] (es (es (es (eo 9 eS)))) bS);refine aO (.bsl 51 171 2 [50]) (bL (l:=([aU.mk y1 x9]:List aU)) (f:=bA) (g:=bA) kr (fun _=>rfl) kr (oC ?_));refine aO (.app 52 171 2 48 47 51) (aQx (l:=iC) (m:=([aU.mk y1 x9]:List aU)) (f:=bA) [357] h kr kr kr kr (fun _=>rfl) fun y6 h=>oC ?_);exact lb' (aOj _ _ _ _ _ h) (tw [.rn [(52,347)]] (wr [] eS bS))) (by intro bZ4 aLv p1 p0 x20 iC r h;refine Lok.un ?_;refine cd' h ?_ ?_<;>intro h;refine iq' h fun y1 h=>?_;refine aO (.bsl 24 53 3 []) (bL (l:=([]:List aA)) (f:=aB) (g:=aB) kr (fun _=>rfl) kr (oC ?_));refine lq' p0.order ?_;exact lb' (aLv _ _ _ _ _ _ _ _ h) (tw [.rn [(347,357)]] (wr [(9,.old 9)] (es (es (es (eo 9 eS)))) bS));refine tw' 0 [.fzb 2] (cg' ⟨[(244,347)],[],[],[],[],[],[],[],[]⟩ h (cAm _ _) fun y2 h=>?_);refine aO (.bsl 57 47 1 []) (bL (l:=([]:List (List aA))) (f:=(cSl 3 aB)) (g:=(cSl 3 aB)) kr (fun _=>rfl) kr (oC ?_));refine aO (.len 59 58) (ps (vI (ln y2)) (aLq (n:=347) (l:=y2.map bA) (L:=y2.length) kr kr (QH ..)) (oC ?_));exact lb' (aTo _ _ _ _ h) (tw [.rn [(347,373)]] (wr [(14,.old 14)] (eo 14 eS) bS))) (by intro bKz aLu p0 p1 p2 p3 p4 r h;refine ao' ?_;refine dO (.bsl 11 47 1 [10]) (uJ (l:=([p0]:List (List aA))) (f:=(cSl 3 aB)) (g:=(cSl 3 aB)) kr (fun _=>rfl) (dC ?_));exact uM 11 [11] [] (cSl 3 aB) h fun y1 h=>(cs' h (aLu _ _ _ _) fun y2 h=>(rp' h))) (by intro bSb aMk p0 p1 p2 p3 r h;refine ao' (lq' p3.kids (lq' p3.sub (cs' h (cAq _ _ _) fun y1 h=>?_)));refine cd' h ?_ ?_<;>intro h;exact rp' h;refine cd' h ?_ ?_<;>intro h;refine dO (.g 36 false (.len 40 39)) (aC3 (p:=true) (b:=(decide (p3.up<0))) (v':=(vI (ln p2))) kr rfl rfl (fun hc=>V5 (sz:=1) (l:=p2) (f:=(cSl 3 aB)) (Eq.trans (b:=([true&&((decide (p3.up<0))==false)]:List Bool).all id) kr (dR hc rfl)) kr) (dC ?_));refine bR h fun y2 h=>(bR h fun y3 h=>?_);refine dO (.g 48 false (.ia 54 1 51 53)) (uE (p:=true) (b:=y3) (m:=idx p2 p3.up) (dflt:=default) (v':=fun y=>(.rp [.sl 3 (y.map aB)])) h kr rfl rfl (fun y hy hc=>yN (l:=p2) (f:=(cSl 3 aB)) (g:=(cSl 3 aB)) (k:=.i64) hy (fun _=>rfl) (Eq.trans (b:=([true&&(y3==false),true&&(y3==false)]:List Bool).all id) kr (dR hc (dR hc rfl))) kr kr) fun y4 h=>dC ?_);refine dO (.g 48 false (.len 56 55)) (aC3 (p:=true) (b:=y3) (v':=(vI (ln y4))) kr rfl rfl (fun hc=>V5 (sz:=3) (l:=y4) (f:=aB) (Eq.trans (b:=([true&&(y3==false)]:List Bool).all id) kr (dR hc rfl)) kr) (dC ?_));refine bR h fun y5 h=>?_;refine cd' h ?_ ?_<;>intro h;exact rp' h;exact iq' h fun y6 h=>(iq' h fun y7 h=>(rp' h));refine aO (.bld 77 [bJ,bJ,mG,bJ,bJ,mM,.nil 3,.nil 1] [(0,1,70),(1,1,72),(2,1,74),(3,3,76)]) (nM (c:=[vI p3.kind,vI p3.op,vB p3.not_,vI p3.value.kind,vI p3.value.num,vS p3.value.text,.nil 3,.nil 1]) kr kr rfl (oC ?_));refine lq' p3.kids ?_;exact lb' (aMk _ _ _ _ _ _ _ h) (wr [(101,.new 53 3)] eS (bs_ (bs_ (bs_ (bs_ (jQ (c0:=[vI p3.kind,vI p3.op,vB p3.not_,vI p3.value.kind,vI p3.value.num,vS p3.value.text,.nil 3,.nil 1]) kr (bM (dZ kr kr) (bM (dZ kr kr) (bM (dZ kr kr) (bM (dZ kr kr) (bM (dZ kr kr) (bM (dZ kr kr) (bM (P7 kr kr) (bM (dZ kr kr) jP)))))))) aX))))))) (by intro bKz bSb cE3 aLu aMk aPt p2 p3 p0 p1 x81 gM r h;refine Lok.un ?_;refine cd' h ?_ ?_<;>intro h;refine iq' h fun y8 h=>(cs' h (aLu _ _ _ _) fun y9 h=>?_);refine cd' h ?_ ?_<;>intro h;exact rp' h;refine aO (.bsl 100 53 3 [99]) (bL (l:=([y9.1]:List aA)) (f:=aB) (g:=aB) kr (fun _=>rfl) kr (oC ?_));refine aq' 101 aB h fun y10 h=>?_;exact lb' (aMk _ _ _ _ _ _ _ h) (wr [(101,.old 101)] eS (bs_ (bs_ (bs_ (bs_ (jQ (c0:=[vI p3.kind,vI p3.op,vB p3.not_,vI p3.value.kind,vI p3.value.num,vS p3.value.text,.osl 101 53 3 (y10.map aB),.nil 1]) kr (bM (dZ kr kr) (bM (dZ kr kr) (bM (dZ kr kr) (bM (dZ kr kr) (bM (dZ kr kr) (bM (dZ kr kr) (bM (jE (t:=101) kr kr) (bM (dZ kr kr) jP)))))))) aX))))));refine lq' p3.sub ?_;exact lb' (aPt _ _ _ _ _ _ _ _ h) (wr [(101,.old 101)] eS (bs_ (bs_ (bs_ (jQ (c0:=[vI p3.kind,vI p3.op,vB p3.not_,vI p3.value.kind,vI p3.value.num,vS p3.value.text,.osl 101 53 3 (gM.map aB),.nil 1]) kr (bM (dZ kr kr) (bM (dZ kr kr) (bM (dZ kr kr) (bM (dZ kr kr) (bM (dZ kr kr) (bM (dZ kr kr) (bM (jE (t:=101) kr kr) (bM (bBs kr kr) jP)))))))) aX)))))) (by intro cE3 cIu aPt aQt p2 p3 p0 p1 gM oM qP r h;refine Lok.un ?_;refine cd' h ?_ ?_<;>intro h;refine iq' h fun y11 h=>(cs' h (aQt _ _ _ _) fun y12 h=>?_);refine cd' h ?_ ?_<;>intro h;exact rp' h;exact lb' (aPt _ _ _ _ _ _ _ _ h) (wr [(101,.old 101)] eS (bs_ (bs_ (bs_ (jQ (c0:=[vI p3.kind,vI p3.op,vB p3.not_,vI p3.value.kind,vI p3.value.num,vS p3.value.text,.osl 101 53 3 (gM.map aB),.d (.sl 1 (y12.1.map (cSl 3 aB)))]) kr (bM (dZ kr kr) (bM (dZ kr kr) (bM (dZ kr kr) (bM (dZ kr kr) (bM (dZ kr kr) (bM (dZ kr kr) (bM (jE (t:=101) kr kr) (bM (dZ kr kr) jP)))))))) aX)))));exact cs' h (bMj _) fun y13 h=>(rp' h)) (by intro cC2 aPi p0 p1 p2 p3 r h;refine ao' (jX cI p3.tables (iY p3.on_ (Q5 cI p3.tables (bR h fun y1 h=>?_))));refine cd' h ?_ ?_<;>intro h;exact rw' (s':=⟨[(8,.d (.sl 1 (([]:List (List aA)).map (cSl 3 aB)))),(9,vI 4)],[]⟩) (wr [] (ew eS) aX) (rp' h);refine aO (.bld 36 [.nil 1,.nil 1,.nil 1,.nil 2,.nf,mG,bJ] [(5,1,33),(6,1,35)]) (nM (c:=[.nil 1,.nil 1,.nil 1,.nil 2,.nf,vB p3.distinct,vI p3.limit]) kr kr rfl (oC ?_));refine jX cI p3.tables ?_;exact lb' (aPi _ _ _ _ _ _ _ h) (wr [(62,.new 39 1)] eS (bs_ (bs_ (bs_ (bs_ (jQ (c0:=[.nil 1,.nil 1,.nil 1,.nil 2,.nf,vB p3.distinct,vI p3.limit]) kr (bM (P7 kr kr) (bM (dZ kr kr) (bM (dZ kr kr) (bM (dZ kr kr) (bM (dZ kr kr) (bM (dZ kr kr) (bM (dZ kr kr) jP))))))) aX))))))) (by intro cC2 bNf aPi aMa p3 p0 p1 p2 x40 eH r h;refine Lok.un ?_;refine cd' h ?_ ?_<;>intro h;refine iI cI h fun y2 h=>(iY p1.tables (bR h fun y3 h=>?_));refine cd' h ?_ ?_<;>intro h;exact rw' (s':=⟨[(8,.d (.sl 1 (([]:List (List aA)).map (cSl 3 aB)))),(9,vI 4)],[]⟩) (wr [] (ew eS) aX) (rp' h);refine iq' h fun y4 h=>?_;refine dO (.bsl 61 39 1 [60]) (uJ (l:=([y4.rows]:List (List (List aA)))) (f:=(cSl 1 (cSl 3 aB))) (g:=(cSl 1 (cSl 3 aB))) kr (fun _=>rfl) (dC ?_));refine uM 62 [54] [10] (cSl 1 (cSl 3 aB)) h fun y5 h=>?_;exact lb' (aPi _ _ _ _ _ _ _ h) (wr [(62,.old 62)] eS (bs_ (bs_ (bs_ (bs_ (jQ (c0:=[.osl 62 39 1 (y5.map (cSl 1 (cSl 3 aB))),.nil 1,.nil 1,.nil 2,.nf,vB p3.distinct,vI p3.limit]) kr (bM (jE (t:=62) kr kr) (bM (dZ kr kr) (bM (dZ kr kr) (bM (dZ kr kr) (bM (dZ kr kr) (bM (dZ kr kr) (bM (dZ kr kr) jP))))))) aX))))));refine tw' 0 [.fzb 4,.fzb 5,.fzb 6] (lq' p3.on_ ?_);exact lb' (aMa _ _ _ _ _ _ _ _ h) (wr [(62,.old 62),(79,.new 89 1)] eS (bs_ (jQ (c0:=[.osl 62 39 1 (eH.map (cSl 1 (cSl 3 aB))),.nil 1,.nil 1,.nil 2,.nf,vB p3.distinct,vI p3.limit]) kr (bM (jE (t:=62) kr kr) (bM (P7 kr kr) (bM (dZ kr kr) (bM (dZ kr kr) (bM (dZ kr kr) (bM (dZ kr kr) (bM (dZ kr kr) jP))))))) aX)))) (by intro bNf bUs aMa aMf p0 p1 p2 p3 eH x69 gU r h;refine Lok.un ?_;refine cd' h ?_ ?_<;>intro h;refine iq' h fun y6 h=>(gX ⟨[],[],[],[],[],[(243,77)],[],[77],[]⟩ [] [] h (aLf _ _ _ _) fun y7 h=>?_);refine dO (.bsl 78 89 1 [77]) (uJ (l:=([y7]:List (List bP))) (f:=(cSl 1 iE)) (g:=(cSl 1 iE)) kr (fun _=>rfl) (dC ?_));refine uM 79 [74] [10] (cSl 1 iE) h fun y8 h=>?_;exact lb' (aMa _ _ _ _ _ _ _ _ h) (wr [(62,.old 62),(79,.old 79)] eS (bs_ (jQ (c0:=[.osl 62 39 1 (eH.map (cSl 1 (cSl 3 aB))),.osl 79 89 1 (y8.map (cSl 1 iE)),.nil 1,.nil 2,.nf,vB p3.distinct,vI p3.limit]) kr (bM (jE (t:=62) kr kr) (bM (jE (t:=79) kr kr) (bM (dZ kr kr) (bM (dZ kr kr) (bM (dZ kr kr) (bM (dZ kr kr) (bM (dZ kr kr) jP))))))) aX)));refine cg' ⟨[],[],[],[],[],[(243,85)],[],[85],[]⟩ h (aLf _ _ _ _) fun y9 h=>(lq' p3.order ?_);exact lb' (aMf _ _ _ _ _ _ (_,_,_) _ h) (wr [(62,.old 62),(79,.old 79),(85,.old 85),(107,.new 100 2)] eS (bs_ (jQ (c0:=[.osl 62 39 1 (eH.map (cSl 1 (cSl 3 aB))),.osl 79 89 1 (gU.map (cSl 1 iE)),.osl 85 98 1 (y9.map iE),.nil 2,.nf,vB p3.distinct,vI p3.limit]) kr (bM (jE (t:=62) kr kr) (bM (jE (t:=79) kr kr) (bM (jE (t:=85) kr kr) (bM (P7 kr kr) (bM (dZ kr kr) (bM (dZ kr kr) (bM (dZ kr kr) jP))))))) aX)))) (by intro bUs cHd aMf bEz p0 p1 p2 p3 eH gU ky9 r h;refine Lok.un ?_;refine cd' h ?_ ?_<;>intro h;refine iq' h fun y10 h=>?_;refine dO (.bsl 99 56 10 [98]) (uJ (l:=([y10.expr]:List aJ)) (f:=aV) (g:=jG) kr nG (dC ?_));refine gX ⟨[],[],[],[],[],[(243,100)],[],[100],[]⟩ [] [] h (aLf _ _ _ _) fun y11 h=>(iI iE h fun y12 h=>?_);refine dO (.bsl 106 100 2 [105]) (uJ (l:=([mX.mk y12 y10.desc]:List mX)) (f:=vK) (g:=vK) kr (fun _=>rfl) (dC ?_));refine uM 107 [95] [10] vK h fun y13 h=>?_;exact lb' (aMf _ _ _ _ _ _ (_,_,_) _ h) (wr [(62,.old 62),(79,.old 79),(85,.old 85),(107,.old 107)] eS (bs_ (jQ (c0:=[.osl 62 39 1 (eH.map (cSl 1 (cSl 3 aB))),.osl 79 89 1 (gU.map (cSl 1 iE)),.osl 85 98 1 (ky9.1.map iE),.osl 107 100 2 (y13.map vK),.nf,vB p3.distinct,vI p3.limit]) kr (bM (jE (t:=62) kr kr) (bM (jE (t:=79) kr kr) (bM (jE (t:=85) kr kr) (bM (jE (t:=107) kr kr) (bM (dZ kr kr) (bM (dZ kr kr) (bM (dZ kr kr) jP))))))) aX)));exact cg' ⟨[],[],[],[],[],[(243,113)],[],[113],[]⟩ h (aLf _ _ _ _) fun y14 h=>(tw' 0 [.fzb 18] (cs' h (bEz _) fun y15 h=>(rp' h)))) (by intro bXj cGn cGd aNa bGv bGs p0 r h;refine ao' (cs' h (bGs _) fun y1 h=>?_);refine cd' h ?_ ?_<;>intro h;exact rw' (s':=⟨[(2,.d (.sl 1 (([]:List (List aA)).map (cSl 3 aB)))),(3,vI y1.2)],[]⟩) (wr [] (ew eS) aX) (rp' h);refine cg' ⟨[],[],[],[],[],[(243,251)],[],[251],[]⟩ h (bGv _ _) fun y2 h=>?_;refine cd' h ?_ ?_<;>intro h;exact rw' (s':=⟨[(2,.d (.sl 1 (([]:List (List aA)).map (cSl 3 aB)))),(3,vI y2.2)],[]⟩) (wr [] (ew eS) aX) (rp' h);refine aO (.bsl 28 47 1 []) (bL (l:=([]:List (List aA))) (f:=(cSl 3 aB)) (g:=(cSl 3 aB)) kr (fun _=>rfl) kr (oC ?_));exact lq' y2.1 (lb' (aNa _ _ _ _ _ h) (wr [(6,.old 6),(4,.old 4)] (es (eo 6 (eo 4 eS))) bS))) (by intro bXj cGc aNa bC2 y2 p0 x6 x31 r h;refine Lok.un ?_;refine cd' h ?_ ?_<;>intro h;refine iq' h fun y3 h=>(cg' ⟨[],[],[],[],[],[(243,255)],[],[255],[]⟩ h (bC2 _ _) fun y4 h=>?_);refine cd' h ?_ ?_<;>intro h;exact rw' (s':=⟨[(2,.d (.sl 1 (([]:List (List aA)).map (cSl 3 aB)))),(3,vI y4.2)],[]⟩) (wr [] (ew eS) aX) (rp' h);refine aO (.bsl 47 47 1 [46]) (bL (l:=([y4.1]:List (List aA))) (f:=(cSl 3 aB)) (g:=(cSl 3 aB)) kr (fun _=>rfl) kr (oC ?_));exact aq' 6 (cSl 3 aB) h fun y5 h=>(lb' (aNa _ _ _ _ _ h) (wr [(6,.old 6),(4,.old 4)] (es (eo 6 (eo 4 eS))) bS));refine cd' h ?_ ?_<;>intro h;exact cg' ⟨[],[],[],[],[],[(243,53)],[],[53],[]⟩ h (bO5 _) fun y6 h=>(jn' (bC6 _ _ _ h) (wr [(6,.old 6)] (es (eo 6 iA)) bS));exact jn' (bC6 _ _ _ h) (wr [(6,.old 6)] (es (eo 6 iA)) bS)) (by intro cH4 bJ7 p0 p1 r h;exact ao' (cg' ⟨[],[],[],[],[],[(243,248)],[],[248],[]⟩ h (bJ7 _ _) fun y1 h=>(rw' (s':=⟨[(3,.osl 243 53 3 (y1.1.map aB)),(4,vI y1.2)],[]⟩) (wr [(243,.old 3)] (eo 3 eS) aX) (rb' h)))) (by intro bP4 aMx p0 p1 r h;refine ao' ?_;refine aO (.bsl 11 53 3 []) (bL (l:=([]:List aA)) (f:=aB) (g:=aB) kr (fun _=>rfl) kr (oC ?_));exact jX iE p0 (lb' (aMx _ _ _ _ _ h) (wr [(6,.old 6)] (es (eo 6 eS)) aX))) (by intro aI8 bP4 aG4 aMx p1 p0 x6 x14 r h;refine Lok.un ?_;refine cd' h ?_ ?_<;>intro h;refine iI iE h fun y1 h=>?_;refine aO (.callv (some 21) 19 [20]) (aIf (m:=aI8 p1 y1.c0 y1.c1 y1.c2 y1.c3) (caps:=[.rp (rU y1.c0),.rp (qW y1.c1),.rp [.sl 1 (y1.c2.map (cSl 3 aB))],.rp (jG y1.c3)]) (args:=[eT p1,.rp (rU y1.c0),.rp (qW y1.c1),.rp [.sl 1 (y1.c2.map (cSl 3 aB))],.rp (jG y1.c3)]) (v':=(fun y=>(.tup [bN y.1,vI y.2]))) h kr kr (aG4 _ _ _ _ _) kr kr (fun _=>rfl) fun y2 h=>oC ?_);refine cd' h ?_ ?_<;>intro h;exact rw' (s':=⟨[(4,.osl 243 53 3 (([]:List aA).map aB)),(5,vI y2.2)],[]⟩) (wr [(243,.new 53 3)] (en eS) aX) (rb' h);refine aO (.bsl 29 53 3 [28]) (bL (l:=([y2.1]:List aA)) (f:=aB) (g:=aB) kr (fun _=>rfl) kr (oC ?_));exact aq' 6 aB h fun y3 h=>(lb' (aMx _ _ _ _ _ h) (wr [(6,.old 6)] (es (eo 6 eS)) aX));exact rw' (s':=⟨[(4,.osl 243 53 3 (x6.map aB)),(5,vI 0)],[]⟩) (wr [(243,.old 4)] (eo 4 eS) aX) (rb' h)) (by intro bW3 aOj p0 p1 r h;refine ao' ?_;refine aO (.bsl 17 171 2 []) (bT2 (l:=([]:List aU)) (f:=bA) (g:=bA) kr (fun _=>rfl) kr rfl (oC ?_));exact lq' p1 (lb' (aOj _ _ _ _ _ h) (tw [.rn [(17,347)]] (wr [] eS bS)))) (by intro bLa aN2 p0 r h;refine ao' ?_;refine aO (.bsl 14 53 3 []) (bL (l:=([]:List aA)) (f:=aB) (g:=aB) kr (fun _=>rfl) kr (oC ?_));refine aO (.bsl 15 47 1 [14]) (bL (l:=([([]:List aA)]:List (List aA))) (f:=(cSl 3 aB)) (g:=(cSl 3 aB)) kr (fun _=>rfl) kr (oC ?_));exact lq' p0.tables (lb' (aN2 _ _ _ _ h) (wr [] (es (ew eS)) bS))) (by intro bXz cA2 aM1 aP1 p0 x4 x19 r h;refine Lok.un ?_;refine cd' h ?_ ?_<;>intro h;refine iq' h fun y1 h=>?_;refine aO (.bsl 24 47 1 []) (bL (l:=([]:List (List aA))) (f:=(cSl 3 aB)) (g:=(cSl 3 aB)) kr (fun _=>rfl) kr (oC ?_));refine lq' x4 ?_;exact lb' (aP1 _ _ _ _ _ _ _ h) (wr [(7,.old 7)] (es (es (es (eo 7 eS)))) bS);exact cs' h (aM1 _ _) fun y2 h=>(rp' h)) (by intro bTd aOw p0 p1 r h;exact ao' (jX iE p1 (lb' (aOw _ _ _ _ h) (wr [] eS aX)))) (by intro bRz aLn p1 x0 x15 r h;refine Lok.un ?_;refine cd' h ?_ ?_<;>intro h;refine iI iE h fun y1 h=>?_;refine aO (.bsl 19 47 1 []) (bL (l:=([]:List (List aA))) (f:=(cSl 3 aB)) (g:=(cSl 3 aB)) kr (fun _=>rfl) kr (oC ?_));exact lq' x0 (lb' (aLn _ _ _ _ _ _ _ h) (wr [(8,.old 8)] (es (eo 8 eS)) aX));exact rp' h) (by intro aI8 bTd cFg aG4 aOw aYk y1 p1 x15 x0 x8 x22 r h;refine Lok.un ?_;refine cd' h ?_ ?_<;>intro h;refine iq' h fun y2 h=>?_;refine aO (.callv (some 29) 27 [28]) (aIf (m:=aI8 y2 y1.c0 y1.c1 y1.c2 y1.c3) (caps:=[.rp (rU y1.c0),.rp (qW y1.c1),.rp [.sl 1 (y1.c2.map (cSl 3 aB))],.rp (jG y1.c3)]) (args:=[eT y2,.rp (rU y1.c0),.rp (qW y1.c1),.rp [.sl 1 (y1.c2.map (cSl 3 aB))],.rp (jG y1.c3)]) (v':=(fun y=>(.tup [bN y.1,vI y.2]))) h kr kr (aG4 _ _ _ _ _) kr kr (fun _=>rfl) fun y3 h=>oC ?_);refine cd' h ?_ ?_<;>intro h;exact rw' (s':=⟨[(4,.d (.sl 1 (([]:List (List aA)).map (cSl 3 aB)))),(5,vI y3.2)],[]⟩) (wr [] (ew eS) aX) (rp' h);refine cs' h (cCw _) fun y4 h=>?_;refine cd' h ?_ ?_<;>intro h;refine aO (.bsl 39 47 1 [38]) (bL (l:=([y2]:List (List aA))) (f:=(cSl 3 aB)) (g:=(cSl 3 aB)) kr (fun _=>rfl) kr (oC ?_));exact aq' 8 (cSl 3 aB) h fun y5 h=>(jn' (aYk _ _ _ _ _ _ _ h) (wr [(8,.old 8)] (es (eo 8 eS)) aX));exact jn' (aYk _ _ _ _ _ _ _ h) (wr [(8,.old 8)] (es (eo 8 eS)) aX);exact lb' (aOw _ _ _ _ h) (wr [] (ew eS) aX)) (by intro bRz aLn y1 p1 x15 x0 x22 qX r h;exact Jok.un (lb' (aLn _ _ _ _ _ _ _ h) (wr [(8,.old 8)] (es (eo 8 eS)) aX))) (by intro bLa bXz bT3 aN2 aM1 aMz x19 y1 p0 x4 x7 x27 r h;refine Lok.un ?_;refine cd' h ?_ ?_<;>intro h;refine iq' h fun y3 h=>(lq' y1 ?_);exact lb' (aMz _ _ _ _ _ _ (_,_) _ h) (wr [(7,.old 7)] (es (es (es (eo 7 eS)))) bS);refine iI (cSl 1 iE) h fun y5 h=>(cs' h (aM1 _ _) fun y6 h=>?_);refine cd' h ?_ ?_<;>intro h;exact rw' (s':=⟨[(2,.d (.sl 1 (([]:List (List aA)).map (cSl 3 aB)))),(3,vI y6.2)],[]⟩) (wr [] (ew eS) aX) (rp' h);exact lb' (aN2 _ _ _ _ h) (wr [] eS bS)) (by intro cA2 bT3 aP1 aMz x19 y1 y3 p0 x4 x27 mO r h;refine Lok.un ?_;refine cd' h ?_ ?_<;>intro h;refine iq' h fun y7 h=>?_;refine aO (.bsl 40 47 1 [38,39]) (bL (l:=([y3,y7]:List (List aA))) (f:=(cSl 3 aB)) (g:=(cSl 3 aB)) kr (fun _=>rfl) kr (oC ?_));refine cg' ⟨[],[],[],[],[],[(243,41)],[],[41],[]⟩ h (cAa _) fun y8 h=>?_;refine aO (.bsl 42 47 1 [41]) (bL (l:=([y8]:List (List aA))) (f:=(cSl 3 aB)) (g:=(cSl 3 aB)) kr (fun _=>rfl) kr (oC ?_));refine aq' 7 (cSl 3 aB) h fun y9 h=>?_;exact lb' (aMz _ _ _ _ _ _ (_,_) _ h) (wr [(7,.old 7)] (es (es (es (eo 7 eS)))) bS);exact lb' (aP1 _ _ _ _ _ _ _ h) (wr [(7,.old 7)] (es (es (es (eo 7 eS)))) bS))
abbrev aLv:=kS.1
abbrev aOj:=kS.2.1
theorem aG4 (p0:List aA) (p1:aP) (p2:GDb) (p3:List (List aA)) (p4:aJ):FOk Tryz.prog 47 [eT p0,.rp (rU p1),.rp (qW p2),.rp [.sl 1 (p3.map (cSl 3 aB))],.rp (jG p4)] (fun y=>(.tup [bN y.1,vI y.2])) (nU p0 p1 p2 p3 p4):=fun r h=>(kS).2.2.1 p0 p1 p2 p3 p4 r h
theorem aLu (p0:aP) (p1:GDb) (p2:List (List aA)) (p3:aJ):FOk Tryz.prog 48 [dD p0,iL p1,.d (.sl 1 (p2.map (cSl 3 aB))),iQ p3] (fun y=>(.tup [bN y.1,vI y.2])) (vC p0 p1 p2 p3):=fun r h=>(kS).2.2.2.1 p0 p1 p2 p3 r h
abbrev aMk:=kS.2.2.2.2.1
abbrev aPt:=kS.2.2.2.2.2.1
theorem aQt (p0:aP) (p1:GDb) (p2:List (List aA)) (p3:aQ):FOk Tryz.prog 18 [dD p0,iL p1,.d (.sl 1 (p2.map (cSl 3 aB))),fO p3] (fun y=>(.tup [.d (.sl 1 (y.1.map (cSl 3 aB))),vI y.2])) (xO p0 p1 p2 p3):=fun r h=>(kS).2.2.2.2.2.2.1 p0 p1 p2 p3 r h
abbrev aPi:=kS.2.2.2.2.2.2.2.1
abbrev aMa:=kS.2.2.2.2.2.2.2.2.1
abbrev aMf:=kS.2.2.2.2.2.2.2.2.2.1
theorem bEz (p0:eQ):FOk Tryz.prog 51 [G8 p0] (fun y=>(.tup [.d (.sl 1 (y.1.map (cSl 3 aB))),vI y.2])) (aAg p0):=fun r h=>(kS).2.2.2.2.2.2.2.2.2.2.1 p0 r h
abbrev aNa:=kS.2.2.2.2.2.2.2.2.2.2.2.1
theorem bC2 (p0:List aA) (p1:List bP):cO Tryz.prog 49 [eT p0,.rp [.sl 1 (p1.map iE)]] [] Zn Zo (aFp p0 p1):=fun r h=>(kS).2.2.2.2.2.2.2.2.2.2.2.2.1 p0 p1 r h
theorem bJ7 (p0:List bP) (p1:List aA):cO Tryz.prog 50 [yL p0,eT p1] [] Zn Zo (aNl p0 p1):=fun r h=>(kS).2.2.2.2.2.2.2.2.2.2.2.2.2.1 p0 p1 r h
abbrev aMx:=kS.2.2.2.2.2.2.2.2.2.2.2.2.2.2.1
theorem bGv (p0:eQ) (p1:List (List aA)):cO Tryz.prog 95 [G8 p0,.d (.sl 1 (p1.map (cSl 3 aB)))] [] Zh Zi (aJz p0 p1):=fun r h=>(kS).2.2.2.2.2.2.2.2.2.2.2.2.2.2.2.1 p0 p1 r h
theorem bGs (p0:eQ):FOk Tryz.prog 94 [G8 p0] (fun y=>(.tup [.d (.sl 1 (y.1.map (cSl 3 aB))),vI y.2])) (aLo p0):=fun r h=>(kS).2.2.2.2.2.2.2.2.2.2.2.2.2.2.2.2.1 p0 r h
abbrev aN2:=kS.2.2.2.2.2.2.2.2.2.2.2.2.2.2.2.2.2.1
theorem aM1 (p0:List (List aA)) (p1:List bP):FOk Tryz.prog 134 [.d (.sl 1 (p0.map (cSl 3 aB))),yL p1] (fun y=>(.tup [.d (.sl 1 (y.1.map (cSl 3 aB))),vI y.2])) (aAv p0 p1):=fun r h=>(kS).2.2.2.2.2.2.2.2.2.2.2.2.2.2.2.2.2.2.1 p0 p1 r h
abbrev aOw:=kS.2.2.2.2.2.2.2.2.2.2.2.2.2.2.2.2.2.2.2.1
abbrev aLn:=kS.2.2.2.2.2.2.2.2.2.2.2.2.2.2.2.2.2.2.2.2.1
abbrev aYk:=kS.2.2.2.2.2.2.2.2.2.2.2.2.2.2.2.2.2.2.2.2.2.1
abbrev aP1:=kS.2.2.2.2.2.2.2.2.2.2.2.2.2.2.2.2.2.2.2.2.2.2.1
abbrev aMz:=kS.2.2.2.2.2.2.2.2.2.2.2.2.2.2.2.2.2.2.2.2.2.2.2
theorem cDr (p0:Int) (p1:Int):FOk Tryz.prog 39 [vI p0,vI p1] (fun y=>(vB y)) (aJ5 p0 p1):=by
 refine aoP fun r h=>?_;rw [aJ5] at h;exact bU h fun y1 h=>(rp' h)
abbrev cF2 (p0):=yZ.partial_correctness p0 (aWl p0) (by intro cFf aQo fC x27 r h;refine Lok.un ?_;refine cd' h ?_ ?_<;>intro h;refine iq' h fun y5 h=>?_;refine aO (.bsl 34 56 10 [33]) (bL (l:=([y5.expr]:List aJ)) (f:=aV) (g:=jG) kr nG kr (oC ?_));exact aq' 3 aV h fun y6 h=>(lb' (aQo _ _ _ h) (wr [(3,.old 3)] (es (eo 3 eS)) bS));exact aq' 3 aV h fun y7 h=>(rw' (s':=⟨[(2,.osl 243 56 10 (y7.map aV))],[]⟩) (wr [(243,.old 2)] (eo 2 iA) aX) (rb' h)))
abbrev aQo:=cF2
abbrev bTn (p0):=aDc.partial_correctness p0 (aTf p0) (by intro cFo aUz x3 x12 r h;refine Lok.un ?_;refine cd' h ?_ ?_<;>intro h;exact iq' h fun y1 h=>(aq' 3 aV h fun y2 h=>(lb' (aUz _ _ _ h) (wr [(3,.old 3)] (es (eo 3 eS)) bS)));exact aq' 3 aV h fun y3 h=>(lq' p0.order (lb' (aQo _ _ _ _ h) (wr [(3,.old 3)] (es (eo 3 eS)) bS))))
abbrev aUz:=bTn
theorem bBo (p0:aQ):cO Tryz.prog 84 [fO p0] [] Zd Ze (aFg p0):=by
 refine aoB fun r h=>?_;rw [aFg] at h;refine aO (.bsl 8 56 10 []) (bL (l:=([]:List aJ)) (f:=aV) (g:=jG) kr nG kr (oC ?_));exact lq' p0.on_ (lb' (aUz _ _ _ _ h) (wr [(3,.old 3)] (es (eo 3 eS)) bS))
abbrev aGm:=aD0.mutual_partial_correctness aZp (fun p0 r=>bG Tryz.prog 40 [fO p0] [] (PQ (fun y=>(vI y)) r)) (fun p0 r=>bG Tryz.prog 83 [fM p0] [] (PQ (fun y=>(vI y)) r)) bAf (fun p0 r=>bG Tryz.prog 117 [iQ p0] [] (PQ (fun y=>(vI y)) r)) (by intro bOg cG7 aMy aX2 p0 x3 x12 r h;refine Lok.un ?_;refine cd' h ?_ ?_<;>intro h;exact iq' h fun y2 h=>(cs' h (aX2 _) fun y3 h=>(lb' (aMy _ _ _ _ h) (wr [] eS aX)));exact rp' h) (by intro cDc aLr p0 r h;exact ao' (cg' ⟨[],[],[],[],[],[(243,4)],[],[4],[]⟩ h (bBo _) fun y1 h=>(cs' h (aLr _) fun y2 h=>(rp' h)))) (by intro bVw aPj p0 r h;exact ao' (lq' p0 (lb' (aPj _ _ _ _ h) (wr [] eS aX)))) (by intro bVw cIv aPj bEa p0 x3 x8 r h;refine Lok.un ?_;refine cd' h ?_ ?_<;>intro h;exact iq' h fun y1 h=>(cs' h (bEa _) fun y2 h=>(lb' (aPj _ _ _ _ h) (wr [] eS aX)));exact rp' h) (by intro bOg cDc aMy aLr p0 r h;exact ao' (cs' h (aLr _) fun y1 h=>(lq' p0.sub (lb' (aMy _ _ _ _ h) (wr [] eS aX)))))
abbrev aMy:=aGm.1
theorem aX2 (p0:aQ):FOk Tryz.prog 40 [fO p0] (fun y=>(vI y)) (I4 p0):=fun r h=>(aGm).2.1 p0 r h
theorem aLr (p0:List aJ):FOk Tryz.prog 83 [fM p0] (fun y=>(vI y)) (aFr p0):=fun r h=>(aGm).2.2.1 p0 r h
abbrev aPj:=aGm.2.2.2.1
theorem bEa (p0:aJ):FOk Tryz.prog 117 [iQ p0] (fun y=>(vI y)) (aA4 p0):=fun r h=>(aGm).2.2.2.2 p0 r h
abbrev aIy:=aC9.mutual_partial_correctness aU1 (fun p0 r=>bG Tryz.prog 41 [fO p0] [] (PQ (fun y=>(vI y)) r)) (fun p0 r=>bG Tryz.prog 85 [fM p0] [] (PQ (fun y=>(vI y)) r)) aT7 (fun p0 r=>bG Tryz.prog 118 [iQ p0] [] (PQ (fun y=>(vI y)) r)) (by intro bWl cI0 aOq aT8 p0 x3 x13 r h;refine Lok.un ?_;refine cd' h ?_ ?_<;>intro h;exact iq' h fun y2 h=>(cs' h (aT8 _) fun y3 h=>(lb' (aOq _ _ _ _ h) (wr [] eS aX)));exact rp' h) (by intro cBt aLp p0 r h;exact ao' (cg' ⟨[],[],[],[],[],[(243,4)],[],[4],[]⟩ h (bBo _) fun y1 h=>(cs' h (aLp _) fun y2 h=>(rp' h)))) (by intro bOn aP6 p0 r h;exact ao' (lq' p0 (lb' (aP6 _ _ _ _ h) (wr [] eS aX)))) (by intro bOn cIk aP6 bJu p0 x3 x8 r h;refine Lok.un ?_;refine cd' h ?_ ?_<;>intro h;exact iq' h fun y1 h=>(cs' h (bJu _) fun y2 h=>(lb' (aP6 _ _ _ _ h) (wr [] eS aX)));exact rp' h) (by intro bWl cBt aOq aLp p0 r h;exact ao' (cs' h (aLp _) fun y1 h=>(lq' p0.sub (lb' (aOq _ _ _ _ h) (wr [] eS aX)))))
abbrev aOq:=aIy.1
theorem aT8 (p0:aQ):FOk Tryz.prog 41 [fO p0] (fun y=>(vI y)) (zM p0):=fun r h=>(aIy).2.1 p0 r h
theorem aLp (p0:List aJ):FOk Tryz.prog 85 [fM p0] (fun y=>(vI y)) (aDm p0):=fun r h=>(aIy).2.2.1 p0 r h
abbrev aP6:=aIy.2.2.2.1
theorem bJu (p0:aJ):FOk Tryz.prog 118 [iQ p0] (fun y=>(vI y)) (F8 p0):=fun r h=>(aIy).2.2.2.2 p0 r h
theorem bW1 (p0:List aJ):FOk Tryz.prog 120 [fM p0] (fun y=>(vB y)) (aGq p0):=by
 refine aoP fun r h=>?_;rw [aGq] at h;exact lq' p0 (rp' h)
abbrev bLe (p0):=aAs.partial_correctness p0 (aW9 p0) (by intro cGw aRn x8 r h;refine Lok.un ?_;refine cd' h ?_ ?_<;>intro h;refine iq' h fun y1 h=>?_;refine aO (.callv (some 16) 11 [15]) (aIf (m:=aGq y1) (caps:=[]) (args:=[fM y1]) (v':=(fun y=>(vB y))) h kr kr (bW1 _) kr kr (fun _=>rfl) fun y2 h=>oC ?_);refine cd' h ?_ ?_<;>intro h;exact rp' h;exact lb' (aRn _ _ h) (wr [] eS aX);exact rp' h)
abbrev aRn:=bLe
theorem bYa (p0:List (List aJ)):FOk Tryz.prog 156 [.d (.sl 1 (p0.map (cSl 10 aV))),.fn 120 []] (fun y=>(vI y)) (aPp p0):=by
 refine aoP fun r h=>?_;rw [aPp] at h;exact lq' p0 (lb' (aRn _ _ _ h) (wr [] eS aX))
theorem cF5 (p0:List (List aJ)):FOk Tryz.prog 119 [.d (.sl 1 (p0.map (cSl 10 aV))),.fn 120 []] (fun y=>(vB y)) (aGw p0):=by
 refine aoP fun r h=>?_;rw [aGw] at h;exact cs' h (bYa _) fun y1 h=>(rp' h)
theorem bY2 (p0:List UInt8):FOk Tryz.prog 122 [vS p0] (fun y=>(vB y)) (aKl p0):=by
 refine aoP fun r h=>?_;rw [aKl] at h;exact cs' h (aKa _) fun y1 h=>(rp' h)
abbrev bWt (p0):=U9.partial_correctness p0 (aUc p0) (by intro cHx aWr x8 r h;refine Lok.un ?_;refine cd' h ?_ ?_<;>intro h;refine iq' h fun y1 h=>?_;refine aO (.callv (some 16) 11 [15]) (aIf (m:=aKl y1) (caps:=[]) (args:=[vS y1]) (v':=(fun y=>(vB y))) h kr kr (bY2 _) kr kr (fun _=>rfl) fun y2 h=>oC ?_);refine cd' h ?_ ?_<;>intro h;exact rp' h;exact lb' (aWr _ _ h) (wr [] eS aX);exact rp' h)
abbrev aWr:=bWt
theorem bM6 (p0:List (List UInt8)):FOk Tryz.prog 157 [aOe p0,.fn 122 []] (fun y=>(vI y)) (aN6 p0):=by
 refine aoP fun r h=>?_;rw [aN6] at h;exact lq' p0 (lb' (aWr _ _ _ h) (wr [] eS aX))
theorem cC1 (p0:List (List UInt8)):FOk Tryz.prog 121 [aOe p0,.fn 122 []] (fun y=>(vB y)) (aHa p0):=by
 refine aoP fun r h=>?_;rw [aHa] at h;exact cs' h (bM6 _) fun y1 h=>(rp' h)
theorem cEu (p0:aQ):FOk Tryz.prog 87 [fO p0] (fun y=>(vB y)) (aIz p0):=by
 refine aoP fun r h=>?_;rw [aIz] at h;refine jX cI p0.tables (Q5 cI p0.tables (bR h fun y1 h=>(iY p0.on_ (Q5 cI p0.tables (bR h fun y2 h=>(aOm h fun y3 h=>(iY y3 (bR h fun y4 h=>(iY p0.where_ (bR h fun y5 h=>(iY p0.order (bR h fun y6 h=>?_))))))))))));refine cd' h ?_ ?_<;>intro h;exact rp' h;exact lq' p0.items (iY p0.items (bU h fun y7 h=>(iY p0.names (iY p0.items (bU h fun y8 h=>(bU h fun y9 h=>(gc' h (cF5 _) fun y10 h=>(bU h fun y11 h=>(gc' h (cC1 _) fun y12 h=>(bU h fun y13 h=>(rp' h)))))))))))
theorem aMi (p0:Int):FOk Tryz.prog 125 [vI p0] (fun y=>(vB y)) (wL p0):=by
 refine aoP fun r h=>?_;rw [wL] at h;exact bR h fun y1 h=>(rp' h)
theorem bUe (p0:aJ):FOk Tryz.prog 126 [iQ p0] (fun y=>(vB y)) (aBo p0):=by
 refine aoP fun r h=>?_;rw [aBo] at h;refine cs' h (bC3 _) fun y1 h=>?_;refine aO (.g 17 true (.pick 24 20 (kB true) 23)) (gv true y1.2 ZK h (fun y hy hc=>iW hy (p:=true) (q:=((true&&(y1.2==true))&&(y1.1.op==false))) (Eq.trans (b:=([true&&(y1.2==true)]:List Bool).all id) kr (dR hc rfl)) kr kr kr (fun _=>rfl) (fun hb=>qF hc hb)) fun y2 h=>oC ?_);refine bU h fun y3 h=>?_;refine aO (.g 26 true (.pick 33 29 (kB true) 32)) (gv true y3 ZK h (fun y hy hc=>iW hy (p:=true) (q:=((true&&(y3==true))&&(y1.1.not_==false))) (Eq.trans (b:=([true&&(y3==true)]:List Bool).all id) kr (dR hc rfl)) kr kr kr (fun _=>rfl) (fun hb=>qF hc hb)) fun y4 h=>oC ?_);refine bU h fun y5 h=>?_;refine aO (.g 35 true (.pick 43 38 (kB true) 42)) (gv true y5 ZK h (fun y hy hc=>iW hy (p:=true) (q:=((true&&(y5==true))&&(y1.1.value==false))) (Eq.trans (b:=([true&&(y5==true)]:List Bool).all id) kr (dR hc rfl)) kr kr kr (fun _=>rfl) (fun hb=>qF hc hb)) fun y6 h=>oC ?_);refine bU h fun y7 h=>?_;refine aO (.g 48 false (.pick 56 52 55 (kB false))) (gv (true&&(y7==true)) y1.1.name ZK h (fun y hy hc=>iW hy (p:=(((true&&(y7==true))&&(y1.1.name==false))&&((decide (p0.up=0))==true))) (q:=true) (Eq.trans (b:=([(true&&(y7==true))&&(y1.1.name==false)]:List Bool).all id) kr (dR hc rfl)) kr kr kr (fun hb=>oP hc hb) (fun _=>rfl)) fun y8 h=>oC ?_);refine aO (.g 45 true (.pick 57 48 (kB true) 56)) (gv true y7 ZK h (fun y hy hc=>iW hy (p:=true) (q:=((true&&(y7==true))&&(y1.1.name==false))) (Eq.trans (b:=([true&&(y7==true)]:List Bool).all id) kr (dR hc rfl)) kr kr kr (fun _=>rfl) (fun hb=>qF hc hb)) fun y9 h=>oC ?_);exact bU h fun y10 h=>(iY p0.kids (bU h fun y11 h=>(iY p0.kids (bU h fun y12 h=>(iY p0.sub (bU h fun y13 h=>(rp' h)))))))
theorem aU8 (p0:Int) (p1:Int) (p2:Int):FOk Tryz.prog 188 [vI p0,vI p1,vI p2] (fun y=>(vB y)) (aA8 p0 p1 p2):=by
 refine aoP fun r h=>?_;rw [aA8] at h;refine bR h fun y1 h=>?_;refine aO (.g 14 true (.pick 21 18 (kB true) 20)) (gv true y1 ZK h (fun y hy hc=>iW hy (p:=true) (q:=((true&&(y1==true))&&((decide (p2=p0))==false))) (Eq.trans (b:=([true&&(y1==true)]:List Bool).all id) kr (dR hc rfl)) kr kr kr (fun _=>rfl) (fun hb=>qF hc hb)) fun y2 h=>oC ?_);exact bU h fun y3 h=>(rp' h)
theorem aJj (x8 x9 r) (h:I9 x8 x9=some r):bZ8 x8 x9 r:=by
 rw [I9] at h;refine Jok.un ?_;refine cd' h ?_ ?_<;>intro h;exact rp' h;exact rp' h
theorem bIr (p0:Int):FOk Tryz.prog 199 [vI p0] (fun y=>(vB y)) (aEp p0):=by
 refine aoP fun r h=>?_;rw [aEp] at h;exact bU h fun y1 h=>(rp' h)
theorem bJz (p0:Int) (p1:Int):FOk Tryz.prog 189 [vI p0,vI p1] (fun y=>(.tup [vI y.1,vB y.2])) (xQ p0 p1):=by
 refine aoP fun r h=>?_;rw [xQ] at h;refine cs' h (bIr _) fun y1 h=>(gc' h (bIr _) fun y2 h=>(bR h fun y3 h=>?_));refine cd' h ?_ ?_<;>intro h;exact rp' h;refine cd' h ?_ ?_<;>intro h;exact rp' h;refine bR h fun y4 h=>?_;refine cd' h ?_ ?_<;>intro h;exact rp' h;exact rp' h
theorem bU7 (p0:Int) (p1:Int) (p2:Int):FOk Tryz.prog 161 [vI p0,vI p1,vI p2] (fun y=>(.tup [vI y.1,vB y.2])) (R7 p0 p1 p2):=by
 refine aoP fun r h=>?_;rw [R7] at h;refine bR h fun y1 h=>?_;refine cd' h ?_ ?_<;>intro h;exact jn' (aJj _ _ _ h) (wr [] eS aX);refine cd' h ?_ ?_<;>intro h;exact cs' h (aMi _) fun y2 h=>(gc' h (aMi _) fun y3 h=>(bU h fun y4 h=>(jn' (aJj _ _ _ h) (wr [] eS aX))));refine cd' h ?_ ?_<;>intro h;exact cs' h (bJz _ _) fun y5 h=>(jn' (aJj _ _ _ h) (wr [] eS aX));refine cd' h ?_ ?_<;>intro h;exact cs' h (aU8 _ _ _) fun y6 h=>(jn' (aJj _ _ _ h) (wr [] eS aX));exact cs' h (aU8 _ _ _) fun y7 h=>(jn' (aJj _ _ _ h) (wr [] eS aX))
theorem cCi (p0:List Int):cO Tryz.prog 163 [fU p0] [] Z1 Z2 (aHk p0):=by
 refine aoB fun r h=>?_;rw [aHk] at h;refine aO (.eqn 4 false 3) (bE4 (sz:=1) (l:=p0) (f:=cI) h kr kr (fun hl h=>oC ?_) fun hl h=>?_);refine aN3 ?_;refine aO (.bsl 5 3 1 []) (bL (l:=([]:List Int)) (f:=cI) (g:=cI) kr (fun _=>rfl) kr (oC ?_));exact aq' 5 cI h fun y1 h=>(rw' (s':=⟨[(2,.osl 243 3 1 (y1.map cI))],[]⟩) (wr [(243,.old 2)] (eo 2 iA) aX) (rb' h))
 subst hl
 refine ⟨oC ?_,oC ?_⟩
 replace h:((appG 8 ([]:List Int) ([]:List Int))>>=fun (y2:List Int)=>some y2:Option (List Int))=some r:=h
 refine aN3 ?_;refine aO (.bsl 5 3 1 []) (bL (l:=([]:List Int)) (f:=cI) (g:=cI) kr (fun _=>rfl) kr (oC ?_));exact aq' 5 cI h fun y2 h=>(rw' (s':=⟨[(2,.osl 243 3 1 (y2.map cI))],[]⟩) (wr [(243,.old 2)] (eo 2 iA) aX) (rb' h));exact bD1 (rw' (s':=⟨[(2,.osl 243 3 1 (([]:List Int).map cI))],[]⟩) (wr [(243,.new 3 1)] (en iA) aX) (rb' h))
abbrev bXv (p0):=xM.partial_correctness p0 (aTh p0) (by intro cGk bAa x4 x11 r h;refine Lok.un ?_;refine cd' h ?_ ?_<;>intro h;refine iI cI h fun y1 h=>(cs' h (bJz _ _) fun y2 h=>?_);refine cd' h ?_ ?_<;>intro h;exact rp' h;exact lb' (bAa _ _ _ h) (wr [] eS aX);exact rp' h)
abbrev bAa:=bXv
theorem cBq (p0:List Int):FOk Tryz.prog 162 [fU p0] (fun y=>(.tup [vI y.1,vB y.2])) (aAr p0):=by
 refine aoP fun r h=>?_;rw [aAr] at h;exact jX cI p0 (lb' (bAa _ _ _ _ h) (wr [] eS aX))
theorem bEe (p1 p2 x40 r) (h:uX p1 p2 x40=some r):bLx p1 p2 x40 r:=by
 rw [uX] at h;refine Jok.un ?_;refine cd' h ?_ ?_<;>intro h;exact rp' h;refine cg' ⟨[],[],[],[],[],[(243,45)],[],[45],[]⟩ h (cCi _) fun y6 h=>(aq' 45 cI h fun y7 h=>(cs' h (cBq _) fun y8 h=>?_));refine cd' h ?_ ?_<;>intro h;exact rp' h;exact rp' h
theorem bKw (p0:Int) (p1:Int):FOk Tryz.prog 160 [vI p0,vI p1] (fun y=>(.tup [vI y.1,vB y.2])) (X5 p0 p1):=by
 refine aoP fun r h=>?_;rw [X5] at h;refine gc' h (aMi _) fun y1 h=>(bU h fun y2 h=>?_);refine cd' h ?_ ?_<;>intro h;exact rp' h;refine gc' h (aU8 _ _ _) fun y3 h=>(bU h fun y4 h=>?_);refine cd' h ?_ ?_<;>intro h;exact rp' h;exact rp' h
theorem bYd (p0:aJ) (p1:List Int) (p2:List Int):FOk Tryz.prog 127 [iQ p0,fU p1,fU p2] (fun y=>(.tup [vI y.1,vB y.2])) (qJ p0 p1 p2):=by
 refine aoP fun r h=>?_;rw [qJ] at h;refine cd' h ?_ ?_<;>intro h;exact rp' h;refine cd' h ?_ ?_<;>intro h;exact iI cI h fun y1 h=>(cs' h (bKw _ _) fun y2 h=>(rp' h));refine cd' h ?_ ?_<;>intro h;exact iI cI h fun y3 h=>(iI cI h fun y4 h=>(cs' h (bU7 _ _ _) fun y5 h=>(rp' h)));refine cd' h ?_ ?_<;>intro h;exact jn' (bEe _ _ _ _ h) (wr [] eS aX);exact jn' (bEe _ _ _ _ h) (wr [] eS aX)
abbrev ZN (y:List (List Int)):V:=(.osl 243 30 1 (y.map (cSl 1 cI)))
theorem bDg (p0:List Int) (p1:List (List Int)):cO Tryz.prog 89 [fU p0,.d (.sl 1 (p1.map (cSl 1 cI)))] [] ZN (fun (y:List (List Int))=>[]) (aE4 p0 p1):=by
 refine aoB fun r h=>?_;rw [aE4] at h;refine aO (.bsl 6 30 1 [5]) (bL (l:=([p0]:List (List Int))) (f:=(cSl 1 cI)) (g:=(cSl 1 cI)) kr (fun _=>rfl) kr (oC ?_));exact aq' 6 (cSl 1 cI) h fun y1 h=>(rw' (s':=⟨[(4,.osl 243 30 1 (y1.map (cSl 1 cI)))],[]⟩) (wr [(243,.old 4)] (eo 4 iA) aX) (rb' h))
end Go.Proofs.YthcemdafchcehaaGreat
