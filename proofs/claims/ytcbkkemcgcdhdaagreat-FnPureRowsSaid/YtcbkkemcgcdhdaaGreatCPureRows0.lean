/- That the code computes these functions (printed by a program). -/
import Derived.Test.YtcbkkemcgcdhdaaGreatAbR
import Derived.Test.YtcbkkemcgcdhdaaGreatAbW
import Derived.Test.YtcbkkemcgcdhdaaGreatAbQ
import Derived.KernelRfl
import Derived.Test.YtcbkkemcgcdhdaaGreatAbG2
import Derived.Test.YtcbkkemcgcdhdaaGreatAbC3
import Derived.Test.YtcbkkemcgcdhdaaGreatAbX6
import Derived.Test.YtcbkkemcgcdhdaaGreatAbX5
import Derived.Test.YtcbkkemcgcdhdaaGreatAbX3
import Derived.Test.YtcbkkemcgcdhdaaGreatAbX2
import Derived.Test.YtcbkkemcgcdhdaaGreatFPureRows
import Derived.Test.YtcbkkemcgcdhdaaGreatProg
namespace Go.Proofs.YtcbkkemcgcdhdaaGreat
open Go Go.RowKit Go.Ab
open Go.IntKind renaming wrap→QA
open _root_.Int renaming fdiv→QB
open _root_.List renaming map_nil→QC,map_cons→QD,mem_cons_of_mem→QE,cons_append→QF,nil_append→QG,length_map→QH
attribute [local irreducible] avc bN aop dgo jH uB tQ wkK K5 stz aYv bF eff bI.st Cf.ok Cf.way Cf.put Cf.putS Cf.putD Cf.A Cf.W Cf.to Cf.reg Cf.withS GQ F3 uC xP rF Lok Jok Cf.kr Cf.ll Cf.dw Cf.stt Cf.z Cf.zW
def cI (n:Int):List D:=[.i .i64 n]
def cU8 (n:Int):List D:=[.i .u8 n]
def cOm (n:Int):List D:=[.i .u64 n]
def cLv (n:Int):List D:=[.i .i32 n]
def cP3 (n:Int):List D:=[.i .u32 n]
def cB (b:Bool):List D:=[.b b]
def cStr (s:List UInt8):List D:=[.s (bs s)]
def cSl {α:Type} (sz:Nat) (f:α→List D) (l:List α):List D:=[.sl sz (l.map f)]
def lM (x:gJ):List D:=[.s (bs x.name),.i .i64 x.type]
def bXa (x:gJ):V:=.agg (lM x)
def bNh (x:gJ):List V:=(lM x).map V.d
def mM (x:eP):List D:=[.s (bs x.name),.sl 2 (x.cols.map lM)]
def aFj (x:eP):V:=.agg (mM x)
def aPl (x:eP):List V:=(mM x).map V.d
def rJ (x:aP):List D:=[.sl 2 (x.tables.map mM)]
def dN (x:aP):V:=.agg (rJ x)
def dX (x:aP):List V:=(rJ x).map V.d
def aB (x:aA):List D:=[.i .i64 x.kind,.i .i64 x.num,.s (bs x.text)]
def bO (x:aA):V:=.agg (aB x)
def wE (x:aA):List V:=(aB x).map V.d
def kV (x:fI):List D:=[.sl 1 (x.rows.map (cSl 3 aB))]
def cL1 (x:fI):V:=.agg (kV x)
def cNr (x:fI):List V:=(kV x).map V.d
def sG (x:GDb):List D:=[.sl 1 (x.tables.map kV)]
def iY (x:GDb):V:=.agg (sG x)
def lG (x:GDb):List V:=(sG x).map V.d
mutual
def aX:aJ→List D
  | ⟨a0,a1,a2,a3,a4,a5,a6,a7⟩=>[.i .i64 a0]++[.i .i64 a1]++[.b a2]++aB a3++[.i .i64 a4]++[.i .i64 a5]++[.sl 10 (O7 a6)]++[.sl 8 (aJc a7)]
def jG:dV→List D
  | ⟨a0,a1⟩=>aX a0++[.b a1]
def eY:aQ→List D
  | ⟨a0,a1,a2,a3,a4,a5,a6,a7⟩=>[.sl 1 (a0.map cI)]++[.sl 1 (aLb a1)]++[.sl 10 (O7 a2)]++[.sl 11 (aK5 a3)]++[.sl 10 (O7 a4)]++[.sl 1 (a5.map cStr)]++[.b a6]++[.i .i64 a7]
def O7:List aJ→List (List D)
  | []=>[]
  | x::l=>aX x::O7 l
def aK5:List dV→List (List D)
  | []=>[]
  | x::l=>jG x::aK5 l
def aJc:List aQ→List (List D)
  | []=>[]
  | x::l=>eY x::aJc l
def aLb:List (List aJ)→List (List D)
  | []=>[]
  | x::l=>[.sl 10 (O7 x)]::aLb l
end
theorem aL5:∀ l:List aJ,O7 l=l.map aX
  | []=>by simp only [O7,QC]
  | x::l=>by simp only [O7,QD,aL5 l]
theorem aPb:∀ l:List dV,aK5 l=l.map jG
  | []=>by simp only [aK5,QC]
  | x::l=>by simp only [aK5,QD,aPb l]
theorem aOx:∀ l:List aQ,aJc l=l.map eY
  | []=>by simp only [aJc,QC]
  | x::l=>by simp only [aJc,QD,aOx l]
theorem aO0:∀ l:List (List aJ),aLb l=l.map (cSl 10 aX)
  | []=>by simp only [aLb,QC]
  | x::l=>by simp only [aLb,QD,aO0 l,cSl,aL5]
def jE (x:aJ):List D:=[.i .i64 x.kind,.i .i64 x.op,.b x.not_,.i .i64 x.value.kind,.i .i64 x.value.num,.s (bs x.value.text),.i .i64 x.up,.i .i64 x.at_,.sl 10 (x.kids.map aX),.sl 8 (x.sub.map eY)]
def aDn (x:dV):List D:=[.i .i64 x.expr.kind,.i .i64 x.expr.op,.b x.expr.not_,.i .i64 x.expr.value.kind,.i .i64 x.expr.value.num,.s (bs x.expr.value.text),.i .i64 x.expr.up,.i .i64 x.expr.at_,.sl 10 (x.expr.kids.map aX),.sl 8 (x.expr.sub.map eY),.b x.desc]
def I1 (x:aQ):List D:=[.sl 1 (x.tables.map cI),.sl 1 (x.on_.map (cSl 10 aX)),.sl 10 (x.where_.map aX),.sl 11 (x.order.map jG),.sl 10 (x.items.map aX),.sl 1 (x.names.map cStr),.b x.distinct,.i .i64 x.limit]
theorem nT (x:aJ):aX x=jE x:=by
  obtain ⟨a0,a1,a2,a3,a4,a5,a6,a7⟩:=x
  simp only [aX,jE,aL5,aPb,aOx,aO0,QF,QG,aB]
theorem aZn (x:dV):jG x=aDn x:=by
  obtain ⟨a0,a1⟩:=x
  simp only [jG,aDn,aL5,aPb,aOx,aO0,nT,jE,QF,QG]
theorem aM8 (x:aQ):eY x=I1 x:=by
  obtain ⟨a0,a1,a2,a3,a4,a5,a6,a7⟩:=x
  simp only [eY,I1,aL5,aPb,aOx,aO0,QF,QG]
def iX (x:aJ):V:=.agg (jE x)
def vN (x:aJ):List V:=(jE x).map V.d
def cO8 (x:dV):V:=.agg (aDn x)
def cOq (x:dV):List V:=(aDn x).map V.d
def fV (x:aQ):V:=.agg (I1 x)
def mR (x:aQ):List V:=(I1 x).map V.d
def aXi (x:aL):List D:=[.sl 1 (x.b.map cU8),.i .i64 x.i,.i .i64 x.h]
def cMg (x:aL):V:=.agg (aXi x)
def bC (x:aL):List V:=(aXi x).map V.d
mutual
def rZ:eT→List D
  | ⟨a0,a1,a2,a3,a4,a5,a6,a7⟩=>[.i .i64 a0]++[.i .i64 a1]++[.b a2]++aB a3++[.s (bs a4)]++[.s (bs a5)]++[.sl 10 (aC5 a6)]++[.sl 6 (aI3 a7)]
def aAs:pX→List D
  | ⟨a0,a1,a2,a3⟩=>[.b a0]++[.s (bs a1)]++rZ a2++[.s (bs a3)]
def wP:jK→List D
  | ⟨a0,a1,a2,a3,a4,a5⟩=>[.b a0]++[.sl 13 (aJz a1)]++[.sl 3 (aHx a2)]++[.sl 10 (aC5 a3)]++[.sl 11 (aKq a4)]++[.i .i64 a5]
def aC4:pY→List D
  | ⟨a0,a1⟩=>rZ a0++[.b a1]
def aCt:qI→List D
  | ⟨a0,a1,a2⟩=>[.s (bs a0)]++[.s (bs a1)]++[.sl 10 (aC5 a2)]
def aC5:List eT→List (List D)
  | []=>[]
  | x::l=>rZ x::aC5 l
def aJz:List pX→List (List D)
  | []=>[]
  | x::l=>aAs x::aJz l
def aI3:List jK→List (List D)
  | []=>[]
  | x::l=>wP x::aI3 l
def aKq:List pY→List (List D)
  | []=>[]
  | x::l=>aC4 x::aKq l
def aHx:List qI→List (List D)
  | []=>[]
  | x::l=>aCt x::aHx l
end
theorem aG9:∀ l:List eT,aC5 l=l.map rZ
  | []=>by simp only [aC5,QC]
  | x::l=>by simp only [aC5,QD,aG9 l]
theorem aEt:∀ l:List pX,aJz l=l.map aAs
  | []=>by simp only [aJz,QC]
  | x::l=>by simp only [aJz,QD,aEt l]
theorem aG0:∀ l:List jK,aI3 l=l.map wP
  | []=>by simp only [aI3,QC]
  | x::l=>by simp only [aI3,QD,aG0 l]
theorem aE6:∀ l:List pY,aKq l=l.map aC4
  | []=>by simp only [aKq,QC]
  | x::l=>by simp only [aKq,QD,aE6 l]
theorem aF9:∀ l:List qI,aHx l=l.map aCt
  | []=>by simp only [aHx,QC]
  | x::l=>by simp only [aHx,QD,aF9 l]
def U3 (x:eT):List D:=[.i .i64 x.kind,.i .i64 x.op,.b x.not_,.i .i64 x.value.kind,.i .i64 x.value.num,.s (bs x.value.text),.s (bs x.qual),.s (bs x.name),.sl 10 (x.kids.map rZ),.sl 6 (x.sub.map wP)]
def aJl (x:pX):List D:=[.b x.star,.s (bs x.qual),.i .i64 x.expr.kind,.i .i64 x.expr.op,.b x.expr.not_,.i .i64 x.expr.value.kind,.i .i64 x.expr.value.num,.s (bs x.expr.value.text),.s (bs x.expr.qual),.s (bs x.expr.name),.sl 10 (x.expr.kids.map rZ),.sl 6 (x.expr.sub.map wP),.s (bs x.as_)]
def aFl (x:jK):List D:=[.b x.distinct,.sl 13 (x.items.map aAs),.sl 3 (x.from_.map aCt),.sl 10 (x.where_.map rZ),.sl 11 (x.order.map aC4),.i .i64 x.limit]
def aI6 (x:pY):List D:=[.i .i64 x.expr.kind,.i .i64 x.expr.op,.b x.expr.not_,.i .i64 x.expr.value.kind,.i .i64 x.expr.value.num,.s (bs x.expr.value.text),.s (bs x.expr.qual),.s (bs x.expr.name),.sl 10 (x.expr.kids.map rZ),.sl 6 (x.expr.sub.map wP),.b x.desc]
def aI8 (x:qI):List D:=[.s (bs x.table),.s (bs x.as_),.sl 10 (x.on_.map rZ)]
theorem aGf (x:eT):rZ x=U3 x:=by
  obtain ⟨a0,a1,a2,a3,a4,a5,a6,a7⟩:=x
  simp only [rZ,U3,aG9,aEt,aG0,aE6,aF9,QF,QG,aB]
theorem bUt (x:pX):aAs x=aJl x:=by
  obtain ⟨a0,a1,a2,a3⟩:=x
  simp only [aAs,aJl,aG9,aEt,aG0,aE6,aF9,aGf,U3,QF,QG]
theorem bLm (x:jK):wP x=aFl x:=by
  obtain ⟨a0,a1,a2,a3,a4,a5⟩:=x
  simp only [wP,aFl,aG9,aEt,aG0,aE6,aF9,QF,QG]
theorem cKq (x:pY):aC4 x=aI6 x:=by
  obtain ⟨a0,a1⟩:=x
  simp only [aC4,aI6,aG9,aEt,aG0,aE6,aF9,aGf,U3,QF,QG]
theorem bNi (x:qI):aCt x=aI8 x:=by
  obtain ⟨a0,a1,a2⟩:=x
  simp only [aCt,aI8,aG9,aEt,aG0,aE6,aF9,QF,QG]
def bM4 (x:eT):V:=.agg (U3 x)
def cE8 (x:eT):List V:=(U3 x).map V.d
def cLb (x:pX):V:=.agg (aJl x)
def cMc (x:pX):List V:=(aJl x).map V.d
def cNj (x:jK):V:=.agg (aFl x)
def cNk (x:jK):List V:=(aFl x).map V.d
def cMz (x:pY):V:=.agg (aI6 x)
def cMo (x:pY):List V:=(aI6 x).map V.d
def cM8 (x:qI):V:=.agg (aI8 x)
def cLs (x:qI):List V:=(aI8 x).map V.d
def aSs (x:lF):List D:=[.b x.op,.b x.not_,.b x.value,.b x.name,.i .i64 x.least,.i .i64 x.most,.i .i64 x.subs]
def aTl (x:lF):V:=.agg (aSs x)
def cLh (x:lF):List V:=(aSs x).map V.d
def aMl (x:bV):D:=.fn 40 [rJ x.c0,sG x.c1,(cSl 1 (cSl 3 aB)) x.c2,jE x.c3]
def iU (x:bV):List D:=[aMl x]
def vC (x:nI):List D:=[aMl x.eval,.b x.desc]
def cMt (x:nI):V:=.agg (vC x)
def cMb (x:nI):List V:=(vC x).map V.d
def bG0 (x:Z9):D:=.fn 42 [(cSl 1 iU) x.c0]
def cMh (x:Z9):List D:=[bG0 x]
def uR (x:eZ):List D:=[.sl 1 (x.tables.map (cSl 1 (cSl 3 aB))),.sl 1 (x.on_.map (cSl 1 iU)),.sl 1 (x.where_.map iU),.sl 2 (x.order.map vC),bG0 x.items,.b x.distinct,.i .i64 x.limit]
def zZ (x:eZ):V:=.agg (uR x)
def aBs (x:eZ):List V:=(uR x).map V.d
def aVe (x:oG):D:=.fn 39 [rJ x.c0,sG x.c1,(cSl 1 (cSl 3 aB)) x.c2]
def cNs (x:oG):List D:=[aVe x]
def aYg (x:pE):List D:=[.i .i64 x.kind,.i .i64 x.op,.b x.not_,.i .i64 x.value.kind,.i .i64 x.value.num,.s (bs x.value.text),.sl 3 (x.kids.map aB),.sl 1 (x.rows.map (cSl 3 aB))]
def bFv (x:pE):V:=.agg (aYg x)
def bR3 (x:pE):List V:=(aYg x).map V.d
def bD (x:aV):List D:=[.sl 3 (x.row.map aB),.sl 3 (x.keys.map aB)]
def kE (x:aV):V:=.agg (bD x)
def aQq (x:aV):List V:=(bD x).map V.d
def mE (x:fD):D:=.fn 144 [uR x.c0]
def cMn (x:fD):List D:=[mE x]
def aMx (x:uU):D:=.fn 145 [(cSl 3 aB) x.c0]
def cMl (x:uU):List D:=[aMx x]
instance:Enc fI:=⟨kV,kV,(fun _=>rfl)⟩
instance:Enc (List aA):=⟨cSl 3 aB,cSl 3 aB,(fun _=>rfl)⟩
instance:Enc aA:=⟨aB,aB,(fun _=>rfl)⟩
instance:Enc (List aJ):=⟨cSl 10 aX,cSl 10 aX,(fun _=>rfl)⟩
instance:Enc dV:=⟨jG,aDn,aZn⟩
instance:Enc aJ:=⟨aX,jE,nT⟩
instance:Enc eP:=⟨mM,mM,(fun _=>rfl)⟩
instance:Enc gJ:=⟨lM,lM,(fun _=>rfl)⟩
instance:Enc (List UInt8):=⟨cStr,cStr,(fun _=>rfl)⟩
instance:Enc aQ:=⟨eY,I1,aM8⟩
instance:Enc eT:=⟨rZ,U3,aGf⟩
instance:Enc jK:=⟨wP,aFl,bLm⟩
instance:Enc nI:=⟨vC,vC,(fun _=>rfl)⟩
instance:Enc (List (List aA)):=⟨cSl 1 (cSl 3 aB),cSl 1 (cSl 3 aB),(fun _=>rfl)⟩
theorem kr {p:Prop} (h:p:=by kernel_rfl):p:=h
def aBo (l:List Int):V:=.d (.sl 1 (l.map cU8))
def gD (l:List Int):V:=.d (.sl 1 (l.map cI))
def fO (l:List aJ):V:=.d (.sl 10 (l.map aX))
def eU (l:List aA):V:=.d (.sl 3 (l.map aB))
def vV (l:List dV):V:=.d (.sl 11 (l.map jG))
def aMw (l:List aQ):V:=.d (.sl 8 (l.map eY))
def aMc (l:List gJ):V:=.d (.sl 2 (l.map lM))
def aPu (l:List (List UInt8)):V:=.d (.sl 1 (l.map cStr))
def aV1 (l:List eP):V:=.d (.sl 2 (l.map mM))
def yN (l:List bV):V:=.d (.sl 1 (l.map iU))
def aZ0 (l:List nI):V:=.d (.sl 2 (l.map vC))
def bRm (l:List fI):V:=.d (.sl 1 (l.map kV))
def nC:V:=(.d (.s (bs [])))
def bL:V:=(.d (.i .i64 0))
def mV:V:=(.d (.b false))

def cAe (y2:aP×GDb×aQ) (y3:(List (List aA))×Int) (x10:List UInt8) (x11:Int):St:=⟨[(4,.ptr 4 0),(6,.tre 378),(10,vS x10),(11,vI x11)],[(4,lG y2.2.1),(378,[.trc 1 (y3.1.map (cSl 3 aB))])]⟩
abbrev bCk:=fun y2 y3 x10 x11 r=>Lok Tryz.prog 3 0 (PQ (fun y=>(vB y)) r) (cAe y2 y3 x10 x11)
def bUf (x10:List UInt8) (y2:aP×GDb×aQ) (x12:Int) (nM:List (List aA)):St:=⟨[(4,.ptr 4 0),(6,.tre 382),(10,vS x10),(12,vI x12)],[(4,lG y2.2.1),(382,[.trc 1 (nM.map (cSl 3 aB))])]⟩
abbrev bCm:=fun x10 y2 x12 nM r=>Lok Tryz.prog 3 1 (PQ (fun y=>(vB y)) r) (bUf x10 y2 x12 nM)
def bRw (x10:List UInt8) (x12:Int) (y2:aP×GDb×aQ) (x13:Int) (kJ:List (List aA)):St:=⟨[(4,.ptr 4 0),(6,.tre 389),(10,vS x10),(12,vI x12),(13,vI x13)],[(4,lG y2.2.1),(389,[.trc 1 (kJ.map (cSl 3 aB))])]⟩
abbrev aUc:=fun x10 x12 y2 x13 kJ r=>Lok Tryz.prog 3 2 (PQ (fun y=>(vB y)) r) (bRw x10 x12 y2 x13 kJ)
def cCy (x10:List UInt8) (y2:aP×GDb×aQ) (x15:Int) (kX:List (List aA)):St:=⟨[(4,.ptr 4 0),(10,vS x10),(14,.tre 392),(15,vI x15)],[(4,lG y2.2.1),(392,[.trc 1 (kX.map (cSl 3 aB))])]⟩
abbrev bDs:=fun x10 y2 x15 kX r=>Lok Tryz.prog 3 3 (PQ (fun y=>(vB y)) r) (cCy x10 y2 x15 kX)
def bPs (x10:List UInt8) (y2:aP×GDb×aQ) (x16:List UInt8) (x17:Int):St:=⟨[(4,.ptr 4 0),(10,vS x10),(16,vS x16),(17,vI x17)],[(4,lG y2.2.1)]⟩
abbrev aZ5:=fun x10 y2 x16 x17 r=>Lok Tryz.prog 3 4 (PQ (fun y=>(vB y)) r) (bPs x10 y2 x16 x17)
def bXq (p0:List (List aA)) (x3:List Int) (x4:Int):St:=⟨[(0,.d (.sl 1 (p0.map (cSl 3 aB)))),(3,.osl 3 5 1 (x3.map cU8)),(4,vI x4)],[]⟩
abbrev bDt:=fun p0 x3 x4 r=>Lok Tryz.prog 8 0 (PQ (fun y=>(vS y)) r) (bXq p0 x3 x4)
def bPc (p0:List (List aA)) (x4:Int) (rG:List Int) (x5:Int):St:=⟨[(0,.d (.sl 1 (p0.map (cSl 3 aB)))),(3,.osl 3 5 1 (rG.map cU8)),(4,vI x4),(5,vI x5)],[]⟩
abbrev aXt:=fun p0 x4 rG x5 r=>Lok Tryz.prog 8 1 (PQ (fun y=>(vS y)) r) (bPc p0 x4 rG x5)
def cIi (p0:List (List aA)) (x4:Int) (x5:Int) (uQ:List Int):St:=⟨[(0,.d (.sl 1 (p0.map (cSl 3 aB)))),(3,.osl 3 5 1 (uQ.map cU8)),(4,vI x4),(5,vI x5)],[]⟩
abbrev aVg:=fun p0 x4 x5 uQ r=>Jok Tryz.prog 8 12 (PQ (fun y=>(vS y)) r) (cIi p0 x4 x5 uQ)


def bZn (p0:List UInt8) (p1:Int) (x5:List Int) (x6:Int):St:=⟨[(0,vS p0),(1,.d (.i .u8 p1)),(5,.osl 5 5 1 (x5.map cU8)),(6,vI x6)],[]⟩
abbrev aXr:=fun p0 p1 x5 x6 r=>Lok Tryz.prog 108 0 (PQ (fun y=>(vS y)) r) (bZn p0 p1 x5 x6)
def bX7 (p0:List UInt8) (p1:Int) (x6:Int) (uK:List Int):St:=⟨[(0,vS p0),(1,.d (.i .u8 p1)),(5,.osl 5 5 1 (uK.map cU8)),(6,vI x6)],[]⟩
abbrev bBf:=fun p0 p1 x6 uK r=>Jok Tryz.prog 108 7 (PQ (fun y=>(vS y)) r) (bX7 p0 p1 x6 uK)
def bQf (p0:Int) (x0:Int) (x4:List UInt8):St:=⟨[(0,vI x0),(3,vB (decide (p0<0))),(4,vS x4)],[]⟩
abbrev aTd:=fun p0 x0 x4 r=>Lok Tryz.prog 58 0 (PQ (fun y=>(vS y)) r) (bQf p0 x0 x4)
def bSr (x0:Int) (p0:Int) (x4:List UInt8) (x5:Int):St:=⟨[(0,vI x0),(3,vB (decide (p0<0))),(4,vS x4),(5,vI x5)],[]⟩
abbrev aZc:=fun x0 p0 x4 x5 r=>Jok Tryz.prog 58 10 (PQ (fun y=>(vS y)) r) (bSr x0 p0 x4 x5)


def cBh (p0:List Int) (x3:Int) (x4:Int):St:=⟨[(0,aBo p0),(3,vI x3),(4,vI x4)],[]⟩
abbrev aVo:=fun p0 x3 x4 r=>Lok Tryz.prog 23 0 (BQ (fun (y:aL)=>(.ptr 31 0)) (fun (y:aL)=>[(31,bC y)]) r) (cBh p0 x3 x4)


def cCv (p1:List (List Int)) (p0:aP) (p2:aQ) (x8:Int):St:=⟨[(1,.d (.sl 1 (p1.map (cSl 1 cI)))),(3,.ptr 3 0),(5,.ptr 5 0),(8,vI x8)],[(3,dX p0),(5,mR p2)]⟩
abbrev Z3 (y:(List Int)×Bool):V:=(.tup [.osl 243 3 1 (y.1.map cI),vB y.2])
abbrev Za (y:(List Int)×Bool):List (Nat×List V):=[]
abbrev aW8:=fun p1 p0 p2 x8 (r:(List Int)×Bool)=>Lok Tryz.prog 48 0 (BQ Z3 Za r) (cCv p1 p0 p2 x8)
def cD3 (y8:List (List Int)) (p0:aP) (p2:aQ) (x14:Int):St:=⟨[(3,.ptr 3 0),(5,.ptr 5 0),(13,.osl 13 30 1 (y8.map (cSl 1 cI))),(14,vI x14)],[(3,dX p0),(5,mR p2)]⟩
abbrev bC4:=fun y8 p0 p2 x14 (r:(List Int)×Bool)=>Lok Tryz.prog 48 1 (BQ Z3 Za r) (cD3 y8 p0 p2 x14)
def bR6 (y8:List (List Int)) (p0:aP) (p2:aQ) (x17:List Int) (x18:Int):St:=⟨[(3,.ptr 3 0),(5,.ptr 5 0),(13,.osl 13 30 1 (y8.map (cSl 1 cI))),(17,.osl 17 3 1 (x17.map cI)),(18,vI x18)],[(3,dX p0),(5,mR p2)]⟩
abbrev bB4:=fun y8 p0 p2 x17 x18 (r:(List Int)×Bool)=>Lok Tryz.prog 48 2 (BQ Z3 Za r) (bR6 y8 p0 p2 x17 x18)
def cK4 (p1:List Int) (p0:aP) (x6:List Int) (x7:Int):St:=⟨[(1,gD p1),(2,.ptr 2 0),(6,.osl 6 3 1 (x6.map cI)),(7,vI x7)],[(2,dX p0)]⟩
abbrev aUo:=fun p1 p0 x6 x7 (r:(List Int)×Bool)=>Lok Tryz.prog 97 0 (BQ Z3 Za r) (cK4 p1 p0 x6 x7)
def bSc (p0:eP) (x3:List Int) (x4:Int):St:=⟨[(1,.ptr 1 0),(3,.osl 3 3 1 (x3.map cI)),(4,vI x4)],[(1,aPl p0)]⟩
abbrev Zc (y:List Int):V:=(.osl 243 3 1 (y.map cI))
abbrev Zd (y:List Int):List (Nat×List V):=[]
abbrev aT5:=fun p0 x3 x4 (r:List Int)=>Lok Tryz.prog 50 0 (BQ Zc Zd r) (bSc p0 x3 x4)
def cCn (p0:aP) (p1:aQ) (x5:Int):St:=⟨[(2,.ptr 2 0),(3,.ptr 3 0),(5,vI x5)],[(2,dX p0),(3,mR p1)]⟩
abbrev bB3:=fun p0 p1 x5 r=>Lok Tryz.prog 96 0 (PQ (fun y=>(vB y)) r) (cCn p0 p1 x5)
def cAt (p0:aP) (p1:aQ) (x6:Int):St:=⟨[(2,.ptr 2 0),(3,.ptr 3 0),(6,vI x6)],[(2,dX p0),(3,mR p1)]⟩
abbrev bBg:=fun p0 p1 x6 r=>Lok Tryz.prog 96 1 (PQ (fun y=>(vB y)) r) (cAt p0 p1 x6)

def cIx (p1:List (List Int)) (p0:aP) (p2:aJ) (x8:List Int) (x9:Int):St:=⟨[(1,.d (.sl 1 (p1.map (cSl 1 cI)))),(3,.ptr 3 0),(5,.ptr 5 0),(8,.osl 8 3 1 (x8.map cI)),(9,vI x9)],[(3,dX p0),(5,vN p2)]⟩
abbrev aUv:=fun p1 p0 p2 x8 x9 (r:Int×Bool)=>Lok Tryz.prog 100 0 (PQ (fun y=>(.tup [vI y.1,vB y.2])) r) (cIx p1 p0 p2 x8 x9)
def bXe (p2:aJ) (U6:List Int):St:=⟨[(5,.ptr 5 0),(8,.osl 8 3 1 (U6.map cI))],[(5,vN p2)]⟩
abbrev cGv:=fun p2 U6 (r:Int×Bool)=>Jok Tryz.prog 100 27 (PQ (fun y=>(.tup [vI y.1,vB y.2])) r) (bXe p2 U6)
def bZr (p0:List Int) (x3:Int) (x4:Int):St:=⟨[(0,gD p0),(3,vI x3),(4,vI x4)],[]⟩
abbrev bDv:=fun p0 x3 x4 r=>Lok Tryz.prog 152 0 (PQ (fun y=>(vB y)) r) (bZr p0 x3 x4)



def bRl (p1:Int) (p2:Int) (x10:Int):St:=⟨[(1,vI p1),(2,vI p2),(10,vI x10)],[]⟩
abbrev cKd:=fun p1 p2 x10 (r:Int×Bool)=>Jok Tryz.prog 150 12 (PQ (fun y=>(.tup [vI y.1,vB y.2])) r) (bRl p1 p2 x10)



def cC0 (p0:aJ) (y3:List eT) (y4:List jK) (oP:List UInt8):St:=⟨[(3,.ptr 3 0)],[(3,cE8 (eT.mk p0.kind p0.op p0.not_ p0.value [] oP y3 y4))]⟩
abbrev cGt:=fun p0 y3 y4 oP r=>Jok Tryz.prog 148 5 (PQ (fun y=>(vB y)) r) (cC0 p0 y3 y4 oP)




def bQc (p1:List (List Int)) (p2:List aJ) (p0:aP) (x7:Int):St:=⟨[(1,.d (.sl 1 (p1.map (cSl 1 cI)))),(2,fO p2),(3,.ptr 3 0),(7,vI x7)],[(3,dX p0)]⟩
abbrev aWp:=fun p1 p2 p0 x7 r=>Lok Tryz.prog 98 0 (PQ (fun y=>(vB y)) r) (bQc p1 p2 p0 x7)
def cBa (p0:aP) (x3:Int):St:=⟨[(1,.ptr 1 0),(3,vI x3)],[(1,dX p0)]⟩
abbrev aUt:=fun p0 x3 r=>Lok Tryz.prog 45 0 (PQ (fun y=>(vB y)) r) (cBa p0 x3)
def cHz (x3:Int) (p0:aP) (y1:eP) (x5:Int):St:=⟨[(1,.ptr 1 0),(3,vI x3),(4,.ptr 4 0),(5,vI x5)],[(1,dX p0),(4,aPl y1)]⟩
abbrev aUu:=fun x3 p0 y1 x5 r=>Lok Tryz.prog 45 1 (PQ (fun y=>(vB y)) r) (cHz x3 p0 y1 x5)
def bSo (p1:List UInt8) (p0:aP) (x5:Int):St:=⟨[(1,vS p1),(2,.ptr 2 0),(5,vI x5)],[(2,dX p0)]⟩
abbrev bDw:=fun p1 p0 x5 r=>Lok Tryz.prog 89 0 (PQ (fun y=>(vI y)) r) (bSo p1 p0 x5)
def cA8 (p1:List UInt8) (p0:eP) (x5:Int):St:=⟨[(1,vS p1),(2,.ptr 2 0),(5,vI x5)],[(2,aPl p0)]⟩
abbrev bBa:=fun p1 p0 x5 r=>Lok Tryz.prog 91 0 (PQ (fun y=>(vI y)) r) (cA8 p1 p0 x5)
def bUv (y1:List aJ) (x3:Int) (x5:Int):St:=⟨[(3,vI x3),(4,.osl 4 55 10 (y1.map aX)),(5,vI x5)],[]⟩
abbrev aWf:=fun y1 x3 x5 r=>Lok Tryz.prog 47 0 (PQ (fun y=>(vI y)) r) (bUv y1 x3 x5)
def cHy (p0:aJ) (x3:Int) (x4:Int):St:=⟨[(1,.ptr 1 0),(3,vI x3),(4,vI x4)],[(1,vN p0)]⟩
abbrev aWv:=fun p0 x3 x4 r=>Lok Tryz.prog 95 0 (PQ (fun y=>(vI y)) r) (cHy p0 x3 x4)
def cAp (p0:aJ) (tK:Int) (x5:Int):St:=⟨[(1,.ptr 1 0),(3,vI tK),(5,vI x5)],[(1,vN p0)]⟩
abbrev aYi:=fun p0 tK x5 r=>Lok Tryz.prog 95 1 (PQ (fun y=>(vI y)) r) (cAp p0 tK x5)
def bVv (p0:aQ) (x3:List aJ) (x4:Int):St:=⟨[(1,.ptr 1 0),(3,.osl 3 55 10 (x3.map aX)),(4,vI x4)],[(1,mR p0)]⟩
abbrev Ze (y:List aJ):V:=(.osl 243 55 10 (y.map aX))
abbrev Zf (y:List aJ):List (Nat×List V):=[]
abbrev aTh:=fun p0 x3 x4 (r:List aJ)=>Lok Tryz.prog 92 0 (BQ Ze Zf r) (bVv p0 x3 x4)
def cJj (p0:aQ) (fE:List aJ) (x5:Int):St:=⟨[(1,.ptr 1 0),(3,.osl 3 55 10 (fE.map aX)),(5,vI x5)],[(1,mR p0)]⟩
abbrev aZy:=fun p0 fE x5 (r:List aJ)=>Lok Tryz.prog 92 1 (BQ Ze Zf r) (cJj p0 fE x5)
def bZ6 (y1:List aJ) (x3:Int) (x5:Int):St:=⟨[(3,vI x3),(4,.osl 4 55 10 (y1.map aX)),(5,vI x5)],[]⟩
abbrev aVn:=fun y1 x3 x5 r=>Lok Tryz.prog 46 0 (PQ (fun y=>(vI y)) r) (bZ6 y1 x3 x5)
def bRx (p0:aJ) (x3:Int) (x4:Int):St:=⟨[(1,.ptr 1 0),(3,vI x3),(4,vI x4)],[(1,vN p0)]⟩
abbrev aSn:=fun p0 x3 x4 r=>Lok Tryz.prog 94 0 (PQ (fun y=>(vI y)) r) (bRx p0 x3 x4)
def cDc (p0:aJ) (fE:Int) (x5:Int):St:=⟨[(1,.ptr 1 0),(3,vI fE),(5,vI x5)],[(1,vN p0)]⟩
abbrev aZw:=fun p0 fE x5 r=>Lok Tryz.prog 94 1 (PQ (fun y=>(vI y)) r) (cDc p0 fE x5)

def bRv (p2:List (List aA)) (p0:aP) (p1:GDb) (p3:aQ) (x11:List (List aA)):St:=⟨[(2,.d (.sl 1 (p2.map (cSl 3 aB)))),(4,.ptr 4 0),(5,.ptr 5 0),(7,.ptr 7 0),(10,.osl 10 45 1 (([]:List (List aA)).map (cSl 3 aB))),(11,.d (.sl 1 (x11.map (cSl 3 aB))))],[(4,dX p0),(5,lG p1),(7,mR p3)]⟩
abbrev aZa:=fun p2 p0 p1 p3 x11 (r:(List (List aA))×Int)=>Jok Tryz.prog 18 13 (PQ (fun y=>(.tup [.d (.sl 1 (y.1.map (cSl 3 aB))),vI y.2])) r) (bRv p2 p0 p1 p3 x11)
def bW3 (p3:aQ) (vY:List (List aA)):St:=⟨[(7,.ptr 7 0),(11,.osl 11 45 1 (vY.map (cSl 3 aB)))],[(7,mR p3)]⟩
abbrev cE7:=fun p3 vY (r:(List (List aA))×Int)=>Jok Tryz.prog 18 22 (PQ (fun y=>(.tup [.d (.sl 1 (y.1.map (cSl 3 aB))),vI y.2])) r) (bW3 p3 vY)
def bXw (V9:List (List aA)):St:=⟨[(11,.d (.sl 1 (V9.map (cSl 3 aB))))],[]⟩
abbrev bTm:=fun V9 (r:(List (List aA))×Int)=>Jok Tryz.prog 18 24 (PQ (fun y=>(.tup [.d (.sl 1 (y.1.map (cSl 3 aB))),vI y.2])) r) (bXw V9)
def bPd (p2:List (List aA)) (p4:List aJ) (p0:aP) (p1:GDb) (x3:List (List aA)) (x12:Int):St:=⟨[(2,.d (.sl 1 (p2.map (cSl 3 aB)))),(3,.d (.sl 1 (x3.map (cSl 3 aB)))),(4,fO p4),(5,.ptr 5 0),(6,.ptr 6 0),(12,vI x12)],[(5,dX p0),(6,lG p1)]⟩
abbrev aYj:=fun p2 p4 p0 p1 x3 x12 (r:(List (List aA))×Int)=>Lok Tryz.prog 53 0 (PQ (fun y=>(.tup [.d (.sl 1 (y.1.map (cSl 3 aB))),vI y.2])) r) (bPd p2 p4 p0 p1 x3 x12)
def bNz (p2:List (List aA)) (x3:List (List aA)) (p4:List aJ) (x12:Int) (p0:aP) (p1:GDb) (kx13:(List (List aA))×Int):St:=⟨[(2,.d (.sl 1 (p2.map (cSl 3 aB)))),(3,.d (.sl 1 (x3.map (cSl 3 aB)))),(4,fO p4),(5,.ptr 5 0),(6,.ptr 6 0),(12,vI x12),(13,.osl 13 45 1 (kx13.1.map (cSl 3 aB))),(14,vI kx13.2)],[(5,dX p0),(6,lG p1)]⟩
abbrev aY3:=fun p2 x3 p4 x12 p0 p1 kx13 (r:(List (List aA))×Int)=>Lok Tryz.prog 53 1 (PQ (fun y=>(.tup [.d (.sl 1 (y.1.map (cSl 3 aB))),vI y.2])) r) (bNz p2 x3 p4 x12 p0 p1 kx13)
def bXl (p2:List (List aA)) (x3:List (List aA)) (p4:List aJ) (x12:Int) (x14:Int) (p0:aP) (kp1:GDb×(List (List aA))):St:=⟨[(2,.d (.sl 1 (p2.map (cSl 3 aB)))),(3,.d (.sl 1 (x3.map (cSl 3 aB)))),(4,fO p4),(5,.ptr 5 0),(6,.ptr 6 0),(12,vI x12),(13,.osl 13 45 1 (kp1.2.map (cSl 3 aB))),(14,vI x14)],[(5,dX p0),(6,lG kp1.1)]⟩
abbrev aS9:=fun p2 x3 p4 x12 x14 p0 kp1 (r:(List (List aA))×Int)=>Jok Tryz.prog 53 11 (PQ (fun y=>(.tup [.d (.sl 1 (y.1.map (cSl 3 aB))),vI y.2])) r) (bXl p2 x3 p4 x12 x14 p0 kp1)
def cF5 (p2:List (List aA)) (p0:aP) (p1:GDb) (p3:aJ) (x10:List aA) (x11:Int):St:=⟨[(2,.d (.sl 1 (p2.map (cSl 3 aB)))),(4,.ptr 4 0),(5,.ptr 5 0),(7,.ptr 7 0),(8,.ptr 8 0),(10,.osl 10 47 3 (x10.map aB)),(11,vI x11)],[(4,dX p0),(5,lG p1),(7,vN p3),(8,[vI 0,vI 0,vS []])]⟩
abbrev aUi:=fun p2 p0 p1 p3 x10 x11 (r:aA×Int)=>Lok Tryz.prog 103 0 (PQ (fun y=>(.tup [bO y.1,vI y.2])) r) (cF5 p2 p0 p1 p3 x10 x11)
def cDp (p2:List (List aA)) (x10:List aA) (p3:aJ) (x14:List (List aA)):St:=⟨[(2,.d (.sl 1 (p2.map (cSl 3 aB)))),(7,.ptr 7 0),(8,.ptr 8 0),(10,.osl 10 47 3 (x10.map aB)),(14,.d (.sl 1 (x14.map (cSl 3 aB))))],[(7,vN p3),(8,[vI 0,vI 0,vS []])]⟩
abbrev bXt:=fun p2 x10 p3 x14 (r:aA×Int)=>Jok Tryz.prog 103 15 (PQ (fun y=>(.tup [bO y.1,vI y.2])) r) (cDp p2 x10 p3 x14)
def cJg (x10:List aA) (x14:List (List aA)) (p3:aJ) (x21:List aA) (x22:Int):St:=⟨[(7,.ptr 7 0),(8,.ptr 8 0),(10,.osl 10 47 3 (x10.map aB)),(14,.d (.sl 1 (x14.map (cSl 3 aB)))),(21,.osl 21 47 3 (x21.map aB)),(22,vI x22)],[(7,vN p3),(8,[vI 0,vI 0,vS []])]⟩
abbrev aXc:=fun x10 x14 p3 x21 x22 (r:aA×Int)=>Lok Tryz.prog 103 1 (PQ (fun y=>(.tup [bO y.1,vI y.2])) r) (cJg x10 x14 p3 x21 x22)


def cD4 (p0:Int) (p1:aA) (p2:aA) (V5:Bool):St:=⟨[(0,vI p0),(4,.ptr 4 0),(5,.ptr 5 0),(6,.ptr 6 0),(112,vB V5)],[(4,wE p1),(5,wE p2),(6,[vI 0,vI 0,vS []])]⟩
abbrev bV6:=fun p0 p1 p2 V5 (r:aA×Int)=>Jok Tryz.prog 155 29 (PQ (fun y=>(.tup [bO y.1,vI y.2])) r) (cD4 p0 p1 p2 V5)














def bYc (p0:aJ) (x13:Bool):St:=⟨[(3,vI (p0.kids.length:Int)),(4,vI (p0.sub.length:Int)),(12,vI p0.kind),(13,vB x13)],[]⟩
abbrev bVz:=fun p0 x13 r=>Jok Tryz.prog 153 5 (PQ (fun y=>(vB y)) r) (bYc p0 x13)
def cEa (p0:aJ) (x20:Bool):St:=⟨[(3,vI (p0.kids.length:Int)),(4,vI (p0.sub.length:Int)),(12,vI p0.kind),(20,vB x20)],[]⟩
abbrev cF4:=fun p0 x20 r=>Jok Tryz.prog 153 8 (PQ (fun y=>(vB y)) r) (cEa p0 x20)
def bRf (p1:List aA) (p0:aA) (x7:Int) (jC:Int) (jA:Int) (iZ:List UInt8):St:=⟨[(1,eU p1),(2,.ptr 2 0),(4,.ptr 4 0),(6,.ptr 6 0),(7,vI x7)],[(2,wE p0),(4,[vI 0,vI 0,vS []]),(6,wE (aA.mk jC jA iZ))]⟩
abbrev bBe:=fun p1 p0 x7 jC jA iZ (r:aA×Int)=>Lok Tryz.prog 158 0 (PQ (fun y=>(.tup [bO y.1,vI y.2])) r) (bRf p1 p0 x7 jC jA iZ)



def bWu (p2:List (List aA)) (p0:aP) (p1:GDb) (p3:aQ) (x10:List (List aA)) (x11:Int):St:=⟨[(2,.d (.sl 1 (p2.map (cSl 3 aB)))),(4,.ptr 4 0),(5,.ptr 5 0),(7,.ptr 7 0),(10,.d (.sl 1 (x10.map (cSl 3 aB)))),(11,vI x11)],[(4,dX p0),(5,lG p1),(7,mR p3)]⟩
abbrev bA1:=fun p2 p0 p1 p3 x10 x11 (r:(List (List aA))×Int)=>Lok Tryz.prog 52 0 (PQ (fun y=>(.tup [.d (.sl 1 (y.1.map (cSl 3 aB))),vI y.2])) r) (bWu p2 p0 p1 p3 x10 x11)
def bO3 (p2:List (List aA)) (x10:List (List aA)) (x11:Int) (y2:fI) (p0:aP) (p1:GDb) (kp3q:aQ×(((List (List aA))×Int))):St:=⟨[(2,.d (.sl 1 (p2.map (cSl 3 aB)))),(4,.ptr 4 0),(5,.ptr 5 0),(7,.ptr 7 0),(10,.d (.sl 1 (x10.map (cSl 3 aB)))),(11,vI x11),(12,.d (.sl 1 (y2.rows.map (cSl 3 aB)))),(13,.osl 13 45 1 (kp3q.2.1.map (cSl 3 aB))),(14,vI kp3q.2.2)],[(4,dX p0),(5,lG p1),(7,mR kp3q.1)]⟩
abbrev bCh:=fun p2 x10 x11 y2 p0 p1 kp3q (r:(List (List aA))×Int)=>Lok Tryz.prog 52 1 (PQ (fun y=>(.tup [.d (.sl 1 (y.1.map (cSl 3 aB))),vI y.2])) r) (bO3 p2 x10 x11 y2 p0 p1 kp3q)
def cCx (p2:List (List aA)) (x10:List (List aA)) (x11:Int) (y2:fI) (x14:Int) (p0:aP) (kp1:GDb×aQ×(((List (List aA))×Int))):St:=⟨[(2,.d (.sl 1 (p2.map (cSl 3 aB)))),(4,.ptr 4 0),(5,.ptr 5 0),(7,.ptr 7 0),(10,.d (.sl 1 (x10.map (cSl 3 aB)))),(11,vI x11),(12,.d (.sl 1 (y2.rows.map (cSl 3 aB)))),(13,.osl 13 45 1 (kp1.2.2.1.map (cSl 3 aB))),(14,vI x14),(15,vI kp1.2.2.2)],[(4,dX p0),(5,lG kp1.1),(7,mR kp1.2.1)]⟩
abbrev aUk:=fun p2 x10 x11 y2 x14 p0 kp1 (r:(List (List aA))×Int)=>Lok Tryz.prog 52 2 (PQ (fun y=>(.tup [.d (.sl 1 (y.1.map (cSl 3 aB))),vI y.2])) r) (cCx p2 x10 x11 y2 x14 p0 kp1)

def bVa (p2:List (List aA)) (p3:List (List aA)) (p4:List dV) (p0:aP) (p1:GDb) (x12:List (List aA)) (kx13:(List (List aA))×Int):St:=⟨[(2,.d (.sl 1 (p2.map (cSl 3 aB)))),(3,.d (.sl 1 (p3.map (cSl 3 aB)))),(4,vV p4),(5,.ptr 5 0),(6,.ptr 6 0),(12,.osl 12 45 1 (x12.map (cSl 3 aB))),(13,.osl 13 45 1 (kx13.1.map (cSl 3 aB))),(14,vI kx13.2)],[(5,dX p0),(6,lG p1)]⟩
abbrev Zg (y:(List (List aA))×Int):V:=(.tup [.osl 243 45 1 (y.1.map (cSl 3 aB)),vI y.2])
abbrev Zh (y:(List (List aA))×Int):List (Nat×List V):=[]
abbrev aZg:=fun p2 p3 p4 p0 p1 x12 kx13 (r:(List (List aA))×Int)=>Lok Tryz.prog 54 0 (BQ Zg Zh r) (bVa p2 p3 p4 p0 p1 x12 kx13)
def cBm (p2:List (List aA)) (p3:List (List aA)) (p4:List dV) (x12:List (List aA)) (x13:List (List aA)) (x14:Int) (kp0q:aP×GDb×(List aA)×Int):St:=⟨[(2,.d (.sl 1 (p2.map (cSl 3 aB)))),(3,.d (.sl 1 (p3.map (cSl 3 aB)))),(4,vV p4),(5,.ptr 5 0),(6,.ptr 6 0),(12,.osl 12 45 1 (x12.map (cSl 3 aB))),(13,.osl 13 45 1 (x13.map (cSl 3 aB))),(14,vI x14),(15,.osl 15 47 3 (kp0q.2.2.1.map aB)),(16,vI kp0q.2.2.2)],[(5,dX kp0q.1),(6,lG kp0q.2.1)]⟩
abbrev aXz:=fun p2 p3 p4 x12 x13 x14 kp0q (r:(List (List aA))×Int)=>Lok Tryz.prog 54 1 (BQ Zg Zh r) (cBm p2 p3 p4 x12 x13 x14 kp0q)
def bZ1 (p2:List (List aA)) (p3:List (List aA)) (p4:List dV) (x12:List (List aA)) (x13:List (List aA)) (x14:Int) (kx15q:(List aA)×aP×GDb×Int):St:=⟨[(2,.d (.sl 1 (p2.map (cSl 3 aB)))),(3,.d (.sl 1 (p3.map (cSl 3 aB)))),(4,vV p4),(5,.ptr 5 0),(6,.ptr 6 0),(12,.osl 12 45 1 (x12.map (cSl 3 aB))),(13,.osl 13 45 1 (x13.map (cSl 3 aB))),(14,vI x14),(15,.osl 15 47 3 (kx15q.1.map aB)),(19,vI kx15q.2.2.2)],[(5,dX kx15q.2.1),(6,lG kx15q.2.2.1)]⟩
abbrev aSm:=fun p2 p3 p4 x12 x13 x14 kx15q (r:(List (List aA))×Int)=>Lok Tryz.prog 54 2 (BQ Zg Zh r) (bZ1 p2 p3 p4 x12 x13 x14 kx15q)
def cBr (p0:List aA) (p1:List aA) (p2:List dV) (x7:Int):St:=⟨[(0,eU p0),(1,eU p1),(2,vV p2),(7,vI x7)],[]⟩
abbrev bCq:=fun p0 p1 p2 x7 r=>Lok Tryz.prog 106 0 (PQ (fun y=>(vB y)) r) (cBr p0 p1 p2 x7)
def bQe (p0:List aA) (p1:List aA) (p2:List dV) (x7:Int) (x8:Int):St:=⟨[(0,eU p0),(1,eU p1),(2,vV p2),(7,vI x7),(8,vI x8)],[]⟩
abbrev aZr:=fun p0 p1 p2 x7 x8 r=>Jok Tryz.prog 106 7 (PQ (fun y=>(vB y)) r) (bQe p0 p1 p2 x7 x8)
def bXh (p0:List (List aA)) (x3:List (List aA)) (x4:Int):St:=⟨[(0,.d (.sl 1 (p0.map (cSl 3 aB)))),(3,.osl 3 45 1 (x3.map (cSl 3 aB))),(4,vI x4)],[]⟩
abbrev Zi (y:List (List aA)):V:=(.osl 243 45 1 (y.map (cSl 3 aB)))
abbrev Zj (y:List (List aA)):List (Nat×List V):=[]
abbrev aT4:=fun p0 x3 x4 (r:List (List aA))=>Lok Tryz.prog 56 0 (BQ Zi Zj r) (bXh p0 x3 x4)
def cAq (p0:List (List aA)) (x3:List (List aA)) (x4:Int) (x5:Bool) (x6:Int):St:=⟨[(0,.d (.sl 1 (p0.map (cSl 3 aB)))),(3,.osl 3 45 1 (x3.map (cSl 3 aB))),(4,vI x4),(5,vB x5),(6,vI x6)],[]⟩
abbrev bCd:=fun p0 x3 x4 x5 x6 (r:List (List aA))=>Lok Tryz.prog 56 1 (BQ Zi Zj r) (cAq p0 x3 x4 x5 x6)
def cIm (p0:List (List aA)) (x4:Int) (uL:List (List aA)):St:=⟨[(0,.d (.sl 1 (p0.map (cSl 3 aB)))),(3,.osl 3 45 1 (uL.map (cSl 3 aB))),(4,vI x4)],[]⟩
abbrev bA5:=fun p0 x4 uL (r:List (List aA))=>Jok Tryz.prog 56 6 (BQ Zi Zj r) (cIm p0 x4 uL)
def cCc (p0:List aA) (p1:List aA) (x5:Int):St:=⟨[(0,eU p0),(1,eU p1),(5,vI x5)],[]⟩
abbrev aVy:=fun p0 p1 x5 r=>Lok Tryz.prog 107 0 (PQ (fun y=>(vB y)) r) (cCc p0 p1 x5)
def bR1 (p0:GDb) (p1:aQ) (x5:Int):St:=⟨[(2,.ptr 2 0),(3,.ptr 3 0),(5,vI x5)],[(2,lG p0),(3,mR p1)]⟩
abbrev bA8:=fun p0 p1 x5 r=>Lok Tryz.prog 51 0 (PQ (fun y=>(vB y)) r) (bR1 p0 p1 x5)
def bUn (p2:List (List aA)) (p3:List (List aA)) (p4:List aJ) (p0:aP) (p1:GDb) (x12:List (List aA)) (x13:Int):St:=⟨[(2,.d (.sl 1 (p2.map (cSl 3 aB)))),(3,.d (.sl 1 (p3.map (cSl 3 aB)))),(4,fO p4),(5,.ptr 5 0),(6,.ptr 6 0),(12,.osl 12 45 1 (x12.map (cSl 3 aB))),(13,vI x13)],[(5,dX p0),(6,lG p1)]⟩
abbrev bAw:=fun p2 p3 p4 p0 p1 x12 x13 (r:(List (List aA))×Int)=>Lok Tryz.prog 55 0 (BQ Zg Zh r) (bUn p2 p3 p4 p0 p1 x12 x13)
def cF0 (p2:List (List aA)) (p3:List (List aA)) (p4:List aJ) (x12:List (List aA)) (x13:Int) (p0:aP) (kp1:GDb×(List aA)×Int):St:=⟨[(2,.d (.sl 1 (p2.map (cSl 3 aB)))),(3,.d (.sl 1 (p3.map (cSl 3 aB)))),(4,fO p4),(5,.ptr 5 0),(6,.ptr 6 0),(12,.osl 12 45 1 (x12.map (cSl 3 aB))),(13,vI x13),(14,.osl 14 47 3 (kp1.2.1.map aB)),(15,vI kp1.2.2)],[(5,dX p0),(6,lG kp1.1)]⟩
abbrev bDy:=fun p2 p3 p4 x12 x13 p0 kp1 (r:(List (List aA))×Int)=>Lok Tryz.prog 55 1 (BQ Zg Zh r) (cF0 p2 p3 p4 x12 x13 p0 kp1)
def cIc (p0:aP) (p1:GDb) (x5:Int):St:=⟨[(2,.ptr 2 0),(3,.ptr 3 0),(5,vI x5)],[(2,dX p0),(3,lG p1)]⟩
abbrev bAy:=fun p0 p1 x5 r=>Lok Tryz.prog 17 0 (PQ (fun y=>(vB y)) r) (cIc p0 p1 x5)
def bQ0 (x5:Int) (p0:aP) (p1:GDb) (x6:Int):St:=⟨[(2,.ptr 2 0),(3,.ptr 3 0),(5,vI x5),(6,vI x6)],[(2,dX p0),(3,lG p1)]⟩
abbrev aUj:=fun x5 p0 p1 x6 r=>Lok Tryz.prog 17 1 (PQ (fun y=>(vB y)) r) (bQ0 x5 p0 p1 x6)
def bU2 (p0:List aA) (p1:List Int) (x5:Int):St:=⟨[(0,eU p0),(1,gD p1),(5,vI x5)],[]⟩
abbrev bB9:=fun p0 p1 x5 r=>Lok Tryz.prog 49 0 (PQ (fun y=>(vB y)) r) (bU2 p0 p1 x5)





def cK7 (p0:List aJ) (x3:Int) (x8:Int):St:=⟨[(3,vI x3),(6,fO p0),(7,vI (p0.length:Int)),(8,vI x8)],[]⟩
abbrev bAk:=fun p0 x3 x8 r=>Lok Tryz.prog 73 0 (PQ (fun y=>(vI y)) r) (cK7 p0 x3 x8)
def bQs (p0:aJ) (x3:Int) (x12:Int):St:=⟨[(3,vI x3),(10,aMw p0.sub),(11,vI (p0.sub.length:Int)),(12,vI x12)],[]⟩
abbrev aXp:=fun p0 x3 x12 r=>Lok Tryz.prog 124 0 (PQ (fun y=>(vI y)) r) (bQs p0 x3 x12)
def bSz (p0:aQ) (x3:List aJ) (x12:Int):St:=⟨[(1,.ptr 1 0),(3,.osl 3 55 10 (x3.map aX)),(10,.d (.sl 1 (p0.on_.map (cSl 10 aX)))),(11,vI (p0.on_.length:Int)),(12,vI x12)],[(1,mR p0)]⟩
abbrev bAl:=fun p0 x3 x12 (r:List aJ)=>Lok Tryz.prog 74 0 (BQ Ze Zf r) (bSz p0 x3 x12)
def bPf (p0:aQ) (fE:List aJ) (x27:Int):St:=⟨[(1,.ptr 1 0),(3,.osl 3 55 10 (fE.map aX)),(25,vV p0.order),(26,vI (p0.order.length:Int)),(27,vI x27)],[(1,mR p0)]⟩
abbrev aXf:=fun p0 fE x27 (r:List aJ)=>Lok Tryz.prog 74 1 (BQ Ze Zf r) (bPf p0 fE x27)
def bY5 (p1:List (List Int)) (y1:(List Int)×Bool) (p2:aQ) (p0:aP) (x41:Int):St:=⟨[(1,.d (.sl 1 (p1.map (cSl 1 cI)))),(3,.ptr 3 0),(5,.ptr 5 0),(8,.osl 8 3 1 (y1.1.map cI)),(39,.d (.sl 1 (p2.on_.map (cSl 10 aX)))),(40,vI (p2.on_.length:Int)),(41,vI x41)],[(3,dX p0),(5,mR p2)]⟩
abbrev aYu:=fun p1 y1 p2 p0 x41 (r:(List Int)×Bool)=>Lok Tryz.prog 34 0 (BQ Z3 Za r) (bY5 p1 y1 p2 p0 x41)
def bOq (y9:List (List Int)) (p2:aQ) (p0:aP) (x76:Int):St:=⟨[(3,.ptr 3 0),(5,.ptr 5 0),(14,.osl 14 30 1 (y9.map (cSl 1 cI))),(74,vV p2.order),(75,vI (p2.order.length:Int)),(76,vI x76)],[(3,dX p0),(5,mR p2)]⟩
abbrev aWl:=fun y9 p2 p0 x76 (r:(List Int)×Bool)=>Lok Tryz.prog 34 1 (BQ Z3 Za r) (bOq y9 p2 p0 x76)
def bQv (y9:List (List Int)) (p2:aQ) (p0:aP) (x19:List Int) (x95:Int):St:=⟨[(3,.ptr 3 0),(14,.osl 14 30 1 (y9.map (cSl 1 cI))),(19,.osl 19 3 1 (x19.map cI)),(93,fO p2.items),(94,vI (p2.items.length:Int)),(95,vI x95)],[(3,dX p0)]⟩
abbrev aVj:=fun y9 p2 p0 x19 x95 (r:(List Int)×Bool)=>Lok Tryz.prog 34 2 (BQ Z3 Za r) (bQv y9 p2 p0 x19 x95)
def bUe (p1:List Int) (p0:aP) (x6:List Int) (x12:Int):St:=⟨[(2,.ptr 2 0),(6,.osl 6 3 1 (x6.map cI)),(10,gD p1),(11,vI (p1.length:Int)),(12,vI x12)],[(2,dX p0)]⟩
abbrev aXl:=fun p1 p0 x6 x12 (r:(List Int)×Bool)=>Lok Tryz.prog 76 0 (BQ Z3 Za r) (bUe p1 p0 x6 x12)
def bY7 (p0:eP) (x3:List Int) (x10:Int):St:=⟨[(3,.osl 3 3 1 (x3.map cI)),(8,aMc p0.cols),(9,vI (p0.cols.length:Int)),(10,vI x10)],[]⟩
abbrev bAe:=fun p0 x3 x10 (r:List Int)=>Lok Tryz.prog 35 0 (BQ Zc Zd r) (bY7 p0 x3 x10)
def cDd (p1:List (List Int)) (p2:aJ) (p0:aP) (x8:List Int) (x64:Int):St:=⟨[(1,.d (.sl 1 (p1.map (cSl 1 cI)))),(3,.ptr 3 0),(5,.ptr 5 0),(8,.osl 8 3 1 (x8.map cI)),(9,.osl 9 3 1 (([]:List Int).map cI)),(62,fO p2.kids),(63,vI (p2.kids.length:Int)),(64,vI x64)],[(3,dX p0),(5,vN p2)]⟩
abbrev bBl:=fun p1 p2 p0 x8 x64 (r:Int×Bool)=>Lok Tryz.prog 80 0 (PQ (fun y=>(.tup [vI y.1,vB y.2])) r) (cDd p1 p2 p0 x8 x64)
def cK6 (p1:List (List Int)) (x8:List Int) (p2:aJ) (p0:aP) (x9:List Int) (x85:Int):St:=⟨[(1,.d (.sl 1 (p1.map (cSl 1 cI)))),(3,.ptr 3 0),(5,.ptr 5 0),(8,.osl 8 3 1 (x8.map cI)),(9,.osl 9 3 1 (x9.map cI)),(83,aMw p2.sub),(84,vI (p2.sub.length:Int)),(85,vI x85)],[(3,dX p0),(5,vN p2)]⟩
abbrev aYm:=fun p1 x8 p2 p0 x9 x85 (r:Int×Bool)=>Lok Tryz.prog 80 1 (PQ (fun y=>(.tup [vI y.1,vB y.2])) r) (cK6 p1 x8 p2 p0 x9 x85)
def bQ9 (p1:List Int) (p2:List Int) (x40:Bool):St:=⟨[(1,gD p1),(2,gD p2),(40,vB x40)],[]⟩
abbrev bX2:=fun p1 p2 x40 (r:Int×Bool)=>Jok Tryz.prog 134 9 (PQ (fun y=>(.tup [vI y.1,vB y.2])) r) (bQ9 p1 p2 x40)




def bU4 (p0:List Int) (x4:Int) (x11:Int):St:=⟨[(4,vI x4),(9,gD p0),(10,vI (p0.length:Int)),(11,vI x11)],[]⟩
abbrev aXa:=fun p0 x4 x11 (r:Int×Bool)=>Lok Tryz.prog 175 0 (PQ (fun y=>(.tup [vI y.1,vB y.2])) r) (bU4 p0 x4 x11)


def bNc (x8:Int) (x9:Bool):St:=⟨[(8,vI x8),(9,vB x9)],[]⟩
abbrev bWi:=fun x8 x9 (r:Int×Bool)=>Jok Tryz.prog 174 2 (PQ (fun y=>(.tup [vI y.1,vB y.2])) r) (bNc x8 x9)








def bPz (p0:List aJ) (c0:aP) (c1_0:List (List Int)) (x8:Int):St:=⟨[(0,fO p0),(1,.fn 131 [.ptr 241 0,.ptr 242 0]),(7,vI (p0.length:Int)),(8,vI x8)],[(241,dX c0),(242,[.d (.sl 1 (c1_0.map (cSl 1 cI)))])]⟩
abbrev Zk (y:Int):V:=(vI y)
abbrev aZj:=fun p0 c0 c1_0 x8 r=>Lok Tryz.prog 171 0 (BQ Zk (fun (y:Int)=>[(241,dX c0),(242,[.d (.sl 1 (c1_0.map (cSl 1 cI)))])]) r) (bPz p0 c0 c1_0 x8)



def cIn (p0:List (List aJ)) (x8:Int):St:=⟨[(0,.d (.sl 1 (p0.map (cSl 10 aX)))),(1,.fn 127 []),(7,vI (p0.length:Int)),(8,vI x8)],[]⟩
abbrev bCf:=fun p0 x8 r=>Lok Tryz.prog 169 0 (PQ (fun y=>(vI y)) r) (cIn p0 x8)


def cG2 (p0:List (List UInt8)) (x8:Int):St:=⟨[(0,aPu p0),(1,.fn 129 []),(7,vI (p0.length:Int)),(8,vI x8)],[]⟩
abbrev aZz:=fun p0 x8 r=>Lok Tryz.prog 170 0 (PQ (fun y=>(vI y)) r) (cG2 p0 x8)



def bT4 (p0:List aJ) (x3:Int) (x8:Int):St:=⟨[(3,vI x3),(6,fO p0),(7,vI (p0.length:Int)),(8,vI x8)],[]⟩
abbrev aWc:=fun p0 x3 x8 r=>Lok Tryz.prog 75 0 (PQ (fun y=>(vI y)) r) (bT4 p0 x3 x8)
def bSi (p0:aJ) (x3:Int) (x13:Int):St:=⟨[(3,vI x3),(11,aMw p0.sub),(12,vI (p0.sub.length:Int)),(13,vI x13)],[]⟩
abbrev bDz:=fun p0 x3 x13 r=>Lok Tryz.prog 125 0 (PQ (fun y=>(vI y)) r) (bSi p0 x3 x13)
def cG9 (p0:aP) (x8:Int):St:=⟨[(1,.ptr 1 0),(6,aV1 p0.tables),(7,vI (p0.tables.length:Int)),(8,vI x8)],[(1,dX p0)]⟩
abbrev aVq:=fun p0 x8 r=>Lok Tryz.prog 30 0 (PQ (fun y=>(vB y)) r) (cG9 p0 x8)

def bO5 (p0:List eP) (c0_0:List UInt8) (x8:Int):St:=⟨[(0,aV1 p0),(1,.fn 123 [.ptr 241 0]),(7,vI (p0.length:Int)),(8,vI x8)],[(241,[vS c0_0])]⟩
abbrev bAu:=fun p0 c0_0 x8 r=>Lok Tryz.prog 122 0 (BQ Zk (fun (y:Int)=>[(241,[vS c0_0])]) r) (bO5 p0 c0_0 x8)

def cG8 (p0:eP) (x8:Int):St:=⟨[(1,.ptr 1 0),(6,aMc p0.cols),(7,vI (p0.cols.length:Int)),(8,vI x8)],[(1,aPl p0)]⟩
abbrev bBj:=fun p0 x8 r=>Lok Tryz.prog 71 0 (PQ (fun y=>(vB y)) r) (cG8 p0 x8)

def cCu (p0:List gJ) (c0_0:List UInt8) (x8:Int):St:=⟨[(0,aMc p0),(1,.fn 168 [.ptr 241 0]),(7,vI (p0.length:Int)),(8,vI x8)],[(241,[vS c0_0])]⟩
abbrev bBb:=fun p0 c0_0 x8 r=>Lok Tryz.prog 167 0 (BQ Zk (fun (y:Int)=>[(241,[vS c0_0])]) r) (cCu p0 c0_0 x8)

def bVc (p3:aQ) (p0:aP) (p1:GDb) (p2:List (List aA)) (x40:Int) (iE:List (List (List aA))):St:=⟨[(4,.ptr 4 0),(5,.ptr 5 0),(6,.ptr 6 0),(7,.ptr 7 0),(10,.ptr 10 0),(38,gD p3.tables),(39,vI (p3.tables.length:Int)),(40,vI x40)],[(4,dX p0),(5,lG p1),(6,[.d (.sl 1 (p2.map (cSl 3 aB)))]),(7,mR p3),(10,[.tre 368,.nil 1,.nil 1,.nil 2,.nf,vB p3.distinct,vI p3.limit]),(368,[.trs 1 (iE.map (cSl 1 (cSl 3 aB)))])]⟩
abbrev Zm (y:(List (List aA))×Int):List (Nat×List V):=[(261,[.trc 1 (y.1.map (cSl 3 aB))])]
abbrev Zl (y:(List (List aA))×Int):V:=(.tup [.tre 261,vI y.2])
abbrev aVv:=fun p3 p0 p1 p2 x40 iE (r:(List (List aA))×Int)=>Lok Tryz.prog 15 0 (BQ Zl Zm r) (bVc p3 p0 p1 p2 x40 iE)
def cJ1 (p0:aP) (p1:GDb) (p2:List (List aA)) (p3:aQ) (iE:List (List (List aA))) (x69:Int) (gZ:List (List bV)):St:=⟨[(7,.ptr 7 0),(10,.ptr 10 0),(13,.d (aVe (oG.mk p0 p1 p2))),(67,.d (.sl 1 (p3.on_.map (cSl 10 aX)))),(68,vI (p3.on_.length:Int)),(69,vI x69)],[(7,mR p3),(10,[.tre 383,.osl 79 85 1 (gZ.map (cSl 1 iU)),.nil 1,.nil 2,.nf,vB p3.distinct,vI p3.limit]),(383,[.trs 1 (iE.map (cSl 1 (cSl 3 aB)))])]⟩
abbrev aXo:=fun p0 p1 p2 p3 iE x69 gZ (r:(List (List aA))×Int)=>Lok Tryz.prog 15 1 (BQ Zl Zm r) (cJ1 p0 p1 p2 p3 iE x69 gZ)
def cIp (p0:aP) (p1:GDb) (p2:List (List aA)) (p3:aQ) (gZ:List (List bV)) (y9:List bV) (lY:(List (List (List aA)))×Int×(List nI)):St:=⟨[(7,.ptr 7 0),(10,.ptr 10 0),(13,.d (aVe (oG.mk p0 p1 p2))),(88,vV p3.order),(89,vI (p3.order.length:Int)),(90,vI lY.2.1)],[(7,mR p3),(10,[.tre 391,.osl 79 85 1 (gZ.map (cSl 1 iU)),.osl 85 96 1 (y9.map iU),.osl 107 98 2 (lY.2.2.map vC),.nf,vB p3.distinct,vI p3.limit]),(391,[.trs 1 (lY.1.map (cSl 1 (cSl 3 aB)))])]⟩
abbrev aZh:=fun p0 p1 p2 p3 gZ y9 lY (r:(List (List aA))×Int)=>Lok Tryz.prog 15 2 (BQ Zl Zm r) (cIp p0 p1 p2 p3 gZ y9 lY)
def cFa (y2:(List (List aA))×Int) (p0:eZ) (x31:Int) (oM:List (List aA)):St:=⟨[(1,.ptr 1 0),(6,.tre 376),(29,.osl 4 45 1 (y2.1.map (cSl 3 aB))),(30,vI (y2.1.length:Int)),(31,vI x31)],[(1,aBs p0),(376,[.trc 1 (oM.map (cSl 3 aB))])]⟩
abbrev aX4:=fun y2 p0 x31 oM (r:(List (List aA))×Int)=>Lok Tryz.prog 44 0 (BQ Zl Zm r) (cFa y2 p0 x31 oM)
def cIw (p0:eZ) (sS:List (List aA)):St:=⟨[(1,.ptr 1 0),(6,.tre 388)],[(1,aBs p0),(388,[.trc 1 (sS.map (cSl 3 aB))])]⟩
abbrev bQh:=fun p0 sS (r:(List (List aA))×Int)=>Jok Tryz.prog 44 20 (BQ Zl Zm r) (cIw p0 sS)
def bY8 (E8:List (List aA)):St:=⟨[(6,.tre 390)],[(390,[.trc 1 (E8.map (cSl 3 aB))])]⟩
abbrev cKv:=fun E8 (r:(List (List aA))×Int)=>Jok Tryz.prog 44 22 (BQ Zl Zm r) (bY8 E8)

def bOn (p1:List aA) (p0:List bV) (x14:Int) (oU:List aA):St:=⟨[(1,eU p1),(6,.tre 355),(12,yN p0),(13,vI (p0.length:Int)),(14,vI x14)],[(355,[.trc 3 (oU.map aB)])]⟩
abbrev Zo (y:(List aA)×Int):List (Nat×List V):=[(261,[.trc 3 (y.1.map aB)])]
abbrev Zn (y:(List aA)×Int):V:=(.tup [.tre 261,vI y.2])
abbrev aU3:=fun p1 p0 x14 oU (r:(List aA)×Int)=>Lok Tryz.prog 43 0 (BQ Zn Zo r) (bOn p1 p0 x14 oU)

def bYl (p2:List (List aA)) (p3:aJ) (p0:aP) (p1:GDb) (x81:Int) (iA:List aA):St:=⟨[(2,.d (.sl 1 (p2.map (cSl 3 aB)))),(4,.ptr 4 0),(5,.ptr 5 0),(7,.ptr 7 0),(8,.ptr 8 0),(10,.ptr 10 0),(79,fO p3.kids),(80,vI (p3.kids.length:Int)),(81,vI x81)],[(4,dX p0),(5,lG p1),(7,vN p3),(8,[vI 0,vI 0,vS []]),(10,[vI p3.kind,vI p3.op,vB p3.not_,vI p3.value.kind,vI p3.value.num,vS p3.value.text,.osl 101 47 3 (iA.map aB),.nil 1])]⟩
abbrev aWy:=fun p2 p3 p0 p1 x81 iA (r:aA×Int)=>Lok Tryz.prog 41 0 (PQ (fun y=>(.tup [bO y.1,vI y.2])) r) (bYl p2 p3 p0 p1 x81 iA)
def bNs (p2:List (List aA)) (p3:aJ) (p0:aP) (p1:GDb) (iA:List aA) (pO:Int) (qY:List (List aA)):St:=⟨[(2,.d (.sl 1 (p2.map (cSl 3 aB)))),(4,.ptr 4 0),(5,.ptr 5 0),(8,.ptr 8 0),(10,.ptr 10 0),(105,aMw p3.sub),(106,vI (p3.sub.length:Int)),(107,vI pO)],[(4,dX p0),(5,lG p1),(8,[vI 0,vI 0,vS []]),(10,[vI p3.kind,vI p3.op,vB p3.not_,vI p3.value.kind,vI p3.value.num,vS p3.value.text,.osl 101 47 3 (iA.map aB),.tre 393]),(393,[.trc 1 (qY.map (cSl 3 aB))])]⟩
abbrev aUe:=fun p2 p3 p0 p1 iA pO qY (r:aA×Int)=>Lok Tryz.prog 41 1 (PQ (fun y=>(.tup [bO y.1,vI y.2])) r) (bNs p2 p3 p0 p1 iA pO qY)

def bQb (p0:Int) (S9:Int):St:=⟨[(2,.ptr 2 0),(4,.ptr 4 0)],[(2,[vB false,vB false,vB false,vB false,vI 0,vI 0,vI 0]),(4,[vI p0,vI S9,vB false,vI 0,vI 0,vS [],vS [],vS [120],.nil 10,.nil 6])]⟩
abbrev bWr:=fun p0 S9 (r:lF×Bool)=>Jok Tryz.prog 136 2 (PQ (fun y=>(.tup [aTl y.1,vB y.2])) r) (bQb p0 S9)


def bRi (p0:Int) (p1:aA) (p2:aA) (x15:Int):St:=⟨[(0,vI p0),(4,.ptr 4 0),(5,.ptr 5 0),(6,.ptr 6 0),(13,.osl 13 47 3 (([p1,p2]:List aA).map aB)),(14,vI (([p1,p2]:List aA).length:Int)),(15,vI x15)],[(4,wE p1),(5,wE p2),(6,[vI 0,vI 0,vS []])]⟩
abbrev bC8:=fun p0 p1 p2 x15 (r:aA×Int)=>Lok Tryz.prog 178 0 (PQ (fun y=>(.tup [bO y.1,vI y.2])) r) (bRi p0 p1 p2 x15)
def bZq (jY:Int):St:=⟨[(2,.ptr 2 0),(3,.ptr 3 0)],[(2,[vI 0,vI 0,vS []]),(3,wE (aA.mk 3 jY []))]⟩
abbrev cAb:=fun jY r=>Jok Tryz.prog 139 2 (PQ (fun y=>(bO y)) r) (bZq jY)
def cI5 (x8:Int) (x9:Bool):St:=⟨[(6,.ptr 6 0),(8,vI x8),(9,vB x9)],[(6,[vI 0,vI 0,vS []])]⟩
abbrev bNr:=fun x8 x9 (r:aA×Int)=>Jok Tryz.prog 177 2 (PQ (fun y=>(.tup [bO y.1,vI y.2])) r) (cI5 x8 x9)







def cJc (p0:List Int) (x8:Int):St:=⟨[(3,vI 0),(6,gD p0),(7,vI (p0.length:Int)),(8,vI x8)],[]⟩
abbrev bCi:=fun p0 x8 r=>Lok Tryz.prog 111 0 (PQ (fun y=>(vI y)) r) (cJc p0 x8)







def cDq (p0:pE) (x4:List aA) (x42:Int):St:=⟨[(1,.ptr 1 0),(2,.ptr 2 0),(4,.osl 4 47 3 (x4.map aB)),(40,.d (.sl 1 (p0.rows.map (cSl 3 aB)))),(41,vI (p0.rows.length:Int)),(42,vI x42)],[(1,bR3 p0),(2,[vI 0,vI 0,vS []])]⟩
abbrev aWt:=fun p0 x4 x42 (r:aA×Int)=>Lok Tryz.prog 140 0 (PQ (fun y=>(.tup [bO y.1,vI y.2])) r) (cDq p0 x4 x42)
def bP9 (p1:List aA) (p0:aA) (x14:Int) (jC:Int) (jA:Int) (iZ:List UInt8):St:=⟨[(2,.ptr 2 0),(4,.ptr 4 0),(6,.ptr 6 0),(12,eU p1),(13,vI (p1.length:Int)),(14,vI x14)],[(2,wE p0),(4,[vI 0,vI 0,vS []]),(6,wE (aA.mk jC jA iZ))]⟩
abbrev aSw:=fun p1 p0 x14 jC jA iZ (r:aA×Int)=>Lok Tryz.prog 183 0 (PQ (fun y=>(.tup [bO y.1,vI y.2])) r) (bP9 p1 p0 x14 jC jA iZ)

def cH0 (p1:List (List aA)) (p0:eZ) (x20:Int) (iG:List aV):St:=⟨[(2,.ptr 2 0),(6,.tre 356),(18,.d (.sl 1 (p1.map (cSl 3 aB)))),(19,vI (p1.length:Int)),(20,vI x20)],[(2,aBs p0),(356,[.trs 2 (iG.map bD)])]⟩
abbrev aVs:=fun p1 p0 x20 iG (r:(List (List aA))×Int)=>Lok Tryz.prog 86 0 (BQ Zg Zh r) (cH0 p1 p0 x20 iG)
def bVh (y1:List aA) (p1:List (List aA)) (x20:Int) (p0:eZ) (iG:List aV) (x9:List aA) (x28:Int):St:=⟨[(2,.ptr 2 0),(6,.tre 366),(8,eU y1),(9,.osl 9 47 3 (x9.map aB)),(18,.d (.sl 1 (p1.map (cSl 3 aB)))),(19,vI (p1.length:Int)),(20,vI x20),(26,aZ0 p0.order),(27,vI (p0.order.length:Int)),(28,vI x28)],[(2,aBs p0),(366,[.trs 2 (iG.map bD)])]⟩
abbrev aSa:=fun y1 p1 x20 p0 iG x9 x28 (r:(List (List aA))×Int)=>Lok Tryz.prog 86 1 (BQ Zg Zh r) (bVh y1 p1 x20 p0 iG x9 x28)
def bVi (y2:List aV) (x14:List (List aA)) (x60:Int):St:=⟨[(14,.osl 14 45 1 (x14.map (cSl 3 aB))),(58,.tre 388),(59,vI (y2.length:Int)),(60,vI x60)],[(388,[.trs 2 (y2.map bD)])]⟩
abbrev aV2:=fun y2 x14 x60 (r:(List (List aA))×Int)=>Lok Tryz.prog 86 2 (BQ Zg Zh r) (bVi y2 x14 x60)

def bOp (p1:Int) (p2:fD) (x7:Int) (x8:Int) (aU:List aV):St:=⟨[(0,.tre 244),(1,vI p1),(2,.d (mE p2)),(6,vI 20),(7,vI x7),(8,vI x8)],[(244,[.trs 2 (aU.map bD)])]⟩
abbrev Zq (y:List aV):List (Nat×List V):=[(244,[.trs 2 (y.map bD)])]
abbrev Zp (y:List aV):V:=(.tup [])
abbrev bAt:=fun p1 p2 x7 x8 aU (r:List aV)=>Lok Tryz.prog 186 0 (BQ Zp Zq r) (bOp p1 p2 x7 x8 aU)
def bVg (p1:Int) (p2:fD) (x6:Int) (iP:List aV):St:=⟨[(0,.tre 244),(1,vI p1),(2,.d (mE p2)),(6,vI x6)],[(244,[.trs 2 (iP.map bD)])]⟩
abbrev aSi:=fun p1 p2 x6 iP (r:List aV)=>Lok Tryz.prog 186 1 (BQ Zp Zq r) (bVg p1 p2 x6 iP)
def bYw (p1:Int) (p2:fD) (x6:Int) (fU:Int) (gI:Int) (gY:List aV):St:=⟨[(0,.tre 244),(1,vI p1),(2,.d (mE p2)),(6,vI x6),(7,vI fU),(8,vI gI)],[(244,[.trs 2 (gY.map bD)])]⟩
abbrev aYn:=fun p1 p2 x6 fU gI gY (r:List aV)=>Lok Tryz.prog 186 2 (BQ Zp Zq r) (bYw p1 p2 x6 fU gI gY)
def bVe (p1:Int) (p2:fD) (x6:Int) (jD:List aV):St:=⟨[(0,.tre 244),(1,vI p1),(2,.d (mE p2)),(6,vI x6)],[(244,[.trs 2 (jD.map bD)])]⟩
abbrev aTx:=fun p1 p2 x6 jD (r:List aV)=>Jok Tryz.prog 186 16 (BQ Zp Zq r) (bVe p1 p2 x6 jD)
def bT3 (p1:Int) (p4:fD) (p0:List aV) (x10:Int) (x11:Int):St:=⟨[(0,.tre 244),(1,vI p1),(4,.d (mE p4)),(10,vI x10),(11,vI x11)],[(244,[.trs 2 (p0.map bD)])]⟩
abbrev bAx:=fun p1 p4 p0 x10 x11 (r:List aV)=>Lok Tryz.prog 211 0 (BQ Zp Zq r) (bT3 p1 p4 p0 x10 x11)
def cHw (p2:Int) (p4:fD) (p0:List aV) (x14:Int) (x15:Int):St:=⟨[(0,.tre 244),(2,vI p2),(4,.d (mE p4)),(14,vI x14),(15,vI x15)],[(244,[.trs 2 (p0.map bD)])]⟩
abbrev aYz:=fun p2 p4 p0 x14 x15 (r:List aV)=>Lok Tryz.prog 211 2 (BQ Zp Zq r) (cHw p2 p4 p0 x14 x15)
def cIg (p1:Int) (p2:Int) (p3:Int) (p4:fD) (p0:List aV) (x20:Int) (x21:Int):St:=⟨[(0,.tre 244),(1,vI p1),(2,vI p2),(3,vI p3),(4,.d (mE p4)),(18,vI (QA .i64 (QB (QA .u64 (QA .i64 (p1+p3))) (2 ^ 1)))),(19,vI (QA .i64 ((QA .i64 (QB (QA .u64 (QA .i64 (p1+p3))) (2 ^ 1)))+p2))),(20,vI x20),(21,vI x21)],[(244,[.trs 2 (p0.map bD)])]⟩
abbrev aTy:=fun p1 p2 p3 p4 p0 x20 x21 (r:List aV)=>Jok Tryz.prog 211 31 (BQ Zp Zq r) (cIg p1 p2 p3 p4 p0 x20 x21)
def bZs (x10:Int) (x13:Int) (aU:List aV):St:=⟨[(0,.tre 244),(10,vI x10),(13,vI x13)],[(244,[.trs 2 (aU.map bD)])]⟩
abbrev bA3:=fun x10 x13 aU (r:List aV)=>Lok Tryz.prog 211 1 (BQ Zp Zq r) (bZs x10 x13 aU)
def bOy (x14:Int) (x17:Int) (eF:List aV):St:=⟨[(0,.tre 244),(14,vI x14),(17,vI x17)],[(244,[.trs 2 (eF.map bD)])]⟩
abbrev bA2:=fun x14 x17 eF (r:List aV)=>Lok Tryz.prog 211 3 (BQ Zp Zq r) (bOy x14 x17 eF)
def bZm (p1:Int) (p2:Int) (p3:Int) (p4:fD) (p0:List aV) (aY:Int) (eG:Int):St:=⟨[(0,.tre 244),(1,vI p1),(2,vI p2),(3,vI p3),(4,.d (mE p4)),(18,vI (QA .i64 (QB (QA .u64 (QA .i64 (p1+p3))) (2 ^ 1)))),(19,vI (QA .i64 ((QA .i64 (QB (QA .u64 (QA .i64 (p1+p3))) (2 ^ 1)))+p2))),(20,vI aY),(21,vI eG),(22,vI (QA .i64 ((QA .i64 ((QA .i64 (QB (QA .u64 (QA .i64 (p1+p3))) (2 ^ 1)))+p2)) - 1)))],[(244,[.trs 2 (p0.map bD)])]⟩
abbrev bD6:=fun p1 p2 p3 p4 p0 aY eG (r:List aV)=>Lok Tryz.prog 211 4 (BQ Zp Zq r) (bZm p1 p2 p3 p4 p0 aY eG)
def cHi (p1:Int) (p3:Int) (p4:fD) (aY:Int) (p2:Int) (iV:List aV):St:=⟨[(0,.tre 244),(1,vI p1),(3,vI p3),(4,.d (mE p4)),(18,vI (QA .i64 (QB (QA .u64 (QA .i64 (p1+p3))) (2 ^ 1)))),(20,vI aY),(24,vI (QA .i64 ((QA .i64 ((QA .i64 (QB (QA .u64 (QA .i64 (p1+p3))) (2 ^ 1)))+p2)) - aY)))],[(244,[.trs 2 (iV.map bD)])]⟩
abbrev aU4:=fun p1 p3 p4 aY p2 iV (r:List aV)=>Jok Tryz.prog 211 42 (BQ Zp Zq r) (cHi p1 p3 p4 aY p2 iV)
def bY9 (p3:Int) (p4:fD) (p1:Int) (p2:Int) (aY:Int) (iM:List aV):St:=⟨[(0,.tre 244),(3,vI p3),(4,.d (mE p4)),(18,vI (QA .i64 (QB (QA .u64 (QA .i64 (p1+p3))) (2 ^ 1)))),(24,vI (QA .i64 ((QA .i64 ((QA .i64 (QB (QA .u64 (QA .i64 (p1+p3))) (2 ^ 1)))+p2)) - aY)))],[(244,[.trs 2 (iM.map bD)])]⟩
abbrev bAj:=fun p3 p4 p1 p2 aY iM (r:List aV)=>Jok Tryz.prog 211 44 (BQ Zp Zq r) (bY9 p3 p4 p1 p2 aY iM)
def cFl (p2:Int) (p4:fD) (x10:Int) (x11:Int) (aU:List aV):St:=⟨[(0,.tre 244),(2,vI p2),(4,.d (mE p4)),(10,vI x10),(11,vI x11)],[(244,[.trs 2 (aU.map bD)])]⟩
abbrev bDx:=fun p2 p4 x10 x11 aU (r:List aV)=>Lok Tryz.prog 215 0 (BQ Zp Zq r) (cFl p2 p4 x10 x11 aU)
def bXz (p1:Int) (p2:Int) (p3:Int) (x10:Int) (aU:List aV):St:=⟨[(0,.tre 244),(1,vI p1),(2,vI p2),(3,vI p3),(10,vI x10)],[(244,[.trs 2 (aU.map bD)])]⟩
abbrev aSf:=fun p1 p2 p3 x10 aU (r:List aV)=>Lok Tryz.prog 216 0 (BQ Zp Zq r) (bXz p1 p2 p3 x10 aU)
def bPu (p2:eZ) (p0:aV) (p1:aV) (x12:Int):St:=⟨[(3,.ptr 3 0),(4,.ptr 4 0),(10,aZ0 p2.order),(11,vI (p2.order.length:Int)),(12,vI x12)],[(3,aQq p0),(4,aQq p1)]⟩
abbrev aXe:=fun p2 p0 p1 x12 r=>Lok Tryz.prog 144 0 (PQ (fun y=>(vI y)) r) (bPu p2 p0 p1 x12)
def bWz (p2:eZ) (x12:Int) (p0:aV) (p1:aV) (x8:Int):St:=⟨[(3,.ptr 3 0),(4,.ptr 4 0),(8,vI x8),(10,aZ0 p2.order),(11,vI (p2.order.length:Int)),(12,vI x12)],[(3,aQq p0),(4,aQq p1)]⟩
abbrev aZq:=fun p2 x12 p0 p1 x8 r=>Jok Tryz.prog 144 8 (PQ (fun y=>(vI y)) r) (bWz p2 x12 p0 p1 x8)
def cFi (p1:Int) (p2:Int) (p3:fD) (x8:Int) (aU:List aV):St:=⟨[(0,.tre 244),(1,vI p1),(2,vI p2),(3,.d (mE p3)),(8,vI x8)],[(244,[.trs 2 (aU.map bD)])]⟩
abbrev aZk:=fun p1 p2 p3 x8 aU (r:List aV)=>Lok Tryz.prog 210 0 (BQ Zp Zq r) (cFi p1 p2 p3 x8 aU)
def cJb (p1:Int) (p2:Int) (p3:fD) (x8:Int) (x9:Int) (bZ:List aV):St:=⟨[(0,.tre 244),(1,vI p1),(2,vI p2),(3,.d (mE p3)),(8,vI x8),(9,vI x9)],[(244,[.trs 2 (bZ.map bD)])]⟩
abbrev bDl:=fun p1 p2 p3 x8 x9 bZ (r:List aV)=>Lok Tryz.prog 210 1 (BQ Zp Zq r) (cJb p1 p2 p3 x8 x9 bZ)
def cFp (p0:List (List aA)) (x9:Int) (bX:List (List aA)):St:=⟨[(3,.tre 354),(7,.d (.sl 1 (p0.map (cSl 3 aB)))),(8,vI (p0.length:Int)),(9,vI x9)],[(354,[.trc 1 (bX.map (cSl 3 aB))])]⟩
abbrev Zs (y:List (List aA)):List (Nat×List V):=[(261,[.trc 1 (y.map (cSl 3 aB))])]
abbrev Zr (y:List (List aA)):V:=(.tre 261)
abbrev aVr:=fun p0 x9 bX (r:List (List aA))=>Lok Tryz.prog 87 0 (BQ Zr Zs r) (cFp p0 x9 bX)
def bO6 (p0:List (List aA)) (x9:Int) (rH:List (List aA)):St:=⟨[(3,.tre 367),(7,.d (.sl 1 (p0.map (cSl 3 aB)))),(8,vI (p0.length:Int)),(9,vI x9)],[(367,[.trc 1 (rH.map (cSl 3 aB))])]⟩
abbrev aXw:=fun p0 x9 rH (r:List (List aA))=>Jok Tryz.prog 87 6 (BQ Zr Zs r) (bO6 p0 x9 rH)


def cGk (p0:List (List aA)) (p1:uU) (x8:Int):St:=⟨[(0,.d (.sl 1 (p0.map (cSl 3 aB)))),(1,.d (aMx p1)),(7,vI (p0.length:Int)),(8,vI x8)],[]⟩
abbrev bDc:=fun p0 p1 x8 r=>Lok Tryz.prog 81 0 (PQ (fun y=>(vI y)) r) (cGk p0 p1 x8)

def cI1 (p0:List aA) (p1:List aA) (x13:Int):St:=⟨[(0,eU p0),(1,eU p1),(12,vI (p0.length:Int)),(13,vI x13)],[]⟩
abbrev aXh:=fun p0 p1 x13 r=>Lok Tryz.prog 146 0 (PQ (fun y=>(vB y)) r) (cI1 p0 p1 x13)
def bRc (p0:eZ) (x4:List (List aA)) (x19:Int):St:=⟨[(1,.ptr 1 0),(4,.d (.sl 1 (x4.map (cSl 3 aB)))),(17,.d (.sl 1 (p0.tables.map (cSl 1 (cSl 3 aB))))),(18,vI (p0.tables.length:Int)),(19,vI x19)],[(1,aBs p0)]⟩
abbrev bA4:=fun p0 x4 x19 (r:(List (List aA))×Int)=>Lok Tryz.prog 85 0 (PQ (fun y=>(.tup [.d (.sl 1 (y.1.map (cSl 3 aB))),vI y.2])) r) (bRc p0 x4 x19)
def cK1 (x19:Int) (y1:List (List aA)) (p0:eZ) (x4:List (List aA)) (x7:List (List aA)) (x27:Int):St:=⟨[(1,.ptr 1 0),(5,vI x19),(6,.d (.sl 1 (y1.map (cSl 3 aB)))),(7,.osl 7 45 1 (x7.map (cSl 3 aB))),(17,.d (.sl 1 (p0.tables.map (cSl 1 (cSl 3 aB))))),(18,vI (p0.tables.length:Int)),(19,vI x19),(25,.d (.sl 1 (x4.map (cSl 3 aB)))),(26,vI (x4.length:Int)),(27,vI x27)],[(1,aBs p0)]⟩
abbrev bBw:=fun x19 y1 p0 x4 x7 x27 (r:(List (List aA))×Int)=>Lok Tryz.prog 85 1 (PQ (fun y=>(.tup [.d (.sl 1 (y.1.map (cSl 3 aB))),vI y.2])) r) (cK1 x19 y1 p0 x4 x7 x27)
def bZ9 (x19:Int) (y1:List (List aA)) (y3:List aA) (p0:eZ) (x4:List (List aA)) (x27:Int) (nE:(List (List aA))×Int):St:=⟨[(1,.ptr 1 0),(5,vI x19),(6,.d (.sl 1 (y1.map (cSl 3 aB)))),(7,.osl 7 45 1 (nE.1.map (cSl 3 aB))),(9,eU y3),(17,.d (.sl 1 (p0.tables.map (cSl 1 (cSl 3 aB))))),(18,vI (p0.tables.length:Int)),(19,vI x19),(25,.d (.sl 1 (x4.map (cSl 3 aB)))),(26,vI (x4.length:Int)),(27,vI x27),(31,.d (.sl 1 (y1.map (cSl 3 aB)))),(32,vI (y1.length:Int)),(33,vI nE.2)],[(1,aBs p0)]⟩
abbrev aYf:=fun x19 y1 y3 p0 x4 x27 nE (r:(List (List aA))×Int)=>Lok Tryz.prog 85 2 (PQ (fun y=>(.tup [.d (.sl 1 (y.1.map (cSl 3 aB))),vI y.2])) r) (bZ9 x19 y1 y3 p0 x4 x27 nE)
def bVm (p0:List (List aA)) (x3:Int) (x11:Int):St:=⟨[(0,.d (.sl 1 (p0.map (cSl 3 aB)))),(3,vI x3),(9,.d (.sl 1 (p0.map (cSl 3 aB)))),(10,vI (p0.length:Int)),(11,vI x11)],[]⟩
abbrev Zt (y:List aA):V:=(.osl 243 47 3 (y.map aB))
abbrev Zu (y:List aA):List (Nat×List V):=[]
abbrev aVw:=fun p0 x3 x11 (r:List aA)=>Lok Tryz.prog 141 0 (BQ Zt Zu r) (bVm p0 x3 x11)
def bXk (p0:List (List aA)) (x3:Int) (y1:List aA) (x11:Int):St:=⟨[(0,.d (.sl 1 (p0.map (cSl 3 aB)))),(3,vI (QA .i64 (x3+(y1.length:Int)))),(9,.d (.sl 1 (p0.map (cSl 3 aB)))),(10,vI (p0.length:Int)),(11,vI x11)],[]⟩
abbrev aWg:=fun p0 x3 y1 x11 (r:List aA)=>Jok Tryz.prog 141 6 (BQ Zt Zu r) (bXk p0 x3 y1 x11)
def cBq (p0:List (List aA)) (x6:List aA) (x27:Int):St:=⟨[(6,.osl 6 47 3 (x6.map aB)),(25,.d (.sl 1 (p0.map (cSl 3 aB)))),(26,vI (p0.length:Int)),(27,vI x27)],[]⟩
abbrev aSk:=fun p0 x6 x27 (r:List aA)=>Lok Tryz.prog 141 1 (BQ Zt Zu r) (cBq p0 x6 x27)

def bQd (p1:List bV) (x0:List (List aA)) (x15:Int):St:=⟨[(0,.d (.sl 1 (x0.map (cSl 3 aB)))),(13,yN p1),(14,vI (p1.length:Int)),(15,vI x15)],[]⟩
abbrev aU5:=fun p1 x0 x15 (r:(List (List aA))×Int)=>Lok Tryz.prog 142 0 (PQ (fun y=>(.tup [.d (.sl 1 (y.1.map (cSl 3 aB))),vI y.2])) r) (bQd p1 x0 x15)
def cJk (y1:bV) (p1:List bV) (x15:Int) (x0:List (List aA)) (x8:List (List aA)) (x22:Int):St:=⟨[(7,.d (aMl y1)),(8,.osl 8 45 1 (x8.map (cSl 3 aB))),(13,yN p1),(14,vI (p1.length:Int)),(15,vI x15),(20,.d (.sl 1 (x0.map (cSl 3 aB)))),(21,vI (x0.length:Int)),(22,vI x22)],[]⟩
abbrev aX5:=fun y1 p1 x15 x0 x8 x22 (r:(List (List aA))×Int)=>Lok Tryz.prog 142 1 (PQ (fun y=>(.tup [.d (.sl 1 (y.1.map (cSl 3 aB))),vI y.2])) r) (cJk y1 p1 x15 x0 x8 x22)
def bSa (y1:bV) (p1:List bV) (x15:Int) (x0:List (List aA)) (x22:Int) (qX:List (List aA)):St:=⟨[(7,.d (aMl y1)),(8,.osl 8 45 1 (qX.map (cSl 3 aB))),(13,yN p1),(14,vI (p1.length:Int)),(15,vI x15),(20,.d (.sl 1 (x0.map (cSl 3 aB)))),(21,vI (x0.length:Int)),(22,vI x22)],[]⟩
abbrev aT1:=fun y1 p1 x15 x0 x22 qX (r:(List (List aA))×Int)=>Jok Tryz.prog 142 12 (PQ (fun y=>(.tup [.d (.sl 1 (y.1.map (cSl 3 aB))),vI y.2])) r) (bSa y1 p1 x15 x0 x22 qX)

def bXn (p1:aP) (p2:GDb) (p3:List (List aA)) (p0:List aJ) (x6:List bV) (x12:Int):St:=⟨[(1,.rp [.sl 2 (p1.tables.map mM)]),(2,.rp [.sl 1 (p2.tables.map kV)]),(3,.rp [.sl 1 (p3.map (cSl 3 aB))]),(6,.osl 6 96 1 (x6.map iU)),(10,fO p0),(11,vI (p0.length:Int)),(12,vI x12)],[]⟩
abbrev Zv (y:List bV):V:=(.osl 243 96 1 (y.map iU))
abbrev aT2:=fun p1 p2 p3 p0 x6 x12 (r:List bV)=>Lok Tryz.prog 39 0 (BQ Zv (fun (y:List bV)=>[]) r) (bXn p1 p2 p3 p0 x6 x12)
def cDo (p1:GDb) (p0:aP) (x23:Int):St:=⟨[(2,.ptr 2 0),(21,bRm p1.tables),(22,vI (p1.tables.length:Int)),(23,vI x23)],[(2,dX p0)]⟩
abbrev bBi:=fun p1 p0 x23 r=>Lok Tryz.prog 14 0 (PQ (fun y=>(vB y)) r) (cDo p1 p0 x23)

def bV3 (p0:List (List aA)) (c0_0:List Int) (x8:Int):St:=⟨[(0,.d (.sl 1 (p0.map (cSl 3 aB)))),(1,.fn 37 [.ptr 241 0]),(7,vI (p0.length:Int)),(8,vI x8)],[(241,[gD c0_0])]⟩
abbrev aT3:=fun p0 c0_0 x8 r=>Lok Tryz.prog 81 0 (BQ Zk (fun (y:Int)=>[(241,[.d (.sl 1 (c0_0.map cI))])]) r) (bV3 p0 c0_0 x8)

def bOs (p1:List Int) (p0:List aA) (x14:Int):St:=⟨[(1,gD p1),(12,eU p0),(13,vI (p0.length:Int)),(14,vI x14)],[]⟩
abbrev aSv:=fun p1 p0 x14 r=>Lok Tryz.prog 38 0 (PQ (fun y=>(vB y)) r) (bOs p1 p0 x14)


def cCr (p0:List (List aA)) (x9:Int) (bX:List (List aA)):St:=⟨[(3,.tre 354),(7,.d (.sl 1 (p0.map (cSl 3 aB)))),(8,vI (p0.length:Int)),(9,vI x9)],[(354,[.trc 1 (bX.map (cSl 3 aB))])]⟩
abbrev aWo:=fun p0 x9 bX (r:List (List aA))=>Lok Tryz.prog 20 0 (BQ Zr Zs r) (cCr p0 x9 bX)


def cGh (p1:Int) (x7:Int) (x8:Int) (aU:List (Value×(List aA))):St:=⟨[(0,.tre 244),(1,vI p1),(2,.fn 22 []),(6,vI 20),(7,vI x7),(8,vI x8)],[(244,[(.trs 1 (aU.map (cRw (fun (x:List aA)=>.sl 3 (x.map aB)))))])]⟩
abbrev aXb:=fun p1 x7 x8 aU (r:List (Value×(List aA)))=>Lok Tryz.prog 61 0 (BQ (fun (y:List (Value×(List aA)))=>(.tup [])) (fun (y:List (Value×(List aA)))=>[(244,[(.trs 1 (y.map (cRw (fun (x:List aA)=>.sl 3 (x.map aB)))))])]) r) (cGh p1 x7 x8 aU)
def bPw (p1:Int) (x6:Int) (iP:List (Value×(List aA))):St:=⟨[(0,.tre 244),(1,vI p1),(2,.fn 22 []),(6,vI x6)],[(244,[(.trs 1 (iP.map (cRw (fun (x:List aA)=>.sl 3 (x.map aB)))))])]⟩
abbrev aW7:=fun p1 x6 iP (r:List (Value×(List aA)))=>Lok Tryz.prog 61 1 (BQ (fun (y:List (Value×(List aA)))=>(.tup [])) (fun (y:List (Value×(List aA)))=>[(244,[(.trs 1 (y.map (cRw (fun (x:List aA)=>.sl 3 (x.map aB)))))])]) r) (bPw p1 x6 iP)
def cDz (p1:Int) (x6:Int) (fU:Int) (gI:Int) (gY:List (Value×(List aA))):St:=⟨[(0,.tre 244),(1,vI p1),(2,.fn 22 []),(6,vI x6),(7,vI fU),(8,vI gI)],[(244,[(.trs 1 (gY.map (cRw (fun (x:List aA)=>.sl 3 (x.map aB)))))])]⟩
abbrev aTu:=fun p1 x6 fU gI gY (r:List (Value×(List aA)))=>Lok Tryz.prog 61 2 (BQ (fun (y:List (Value×(List aA)))=>(.tup [])) (fun (y:List (Value×(List aA)))=>[(244,[(.trs 1 (y.map (cRw (fun (x:List aA)=>.sl 3 (x.map aB)))))])]) r) (cDz p1 x6 fU gI gY)
def bUr (p1:Int) (x6:Int) (jD:List (Value×(List aA))):St:=⟨[(0,.tre 244),(1,vI p1),(2,.fn 22 []),(6,vI x6)],[(244,[(.trs 1 (jD.map (cRw (fun (x:List aA)=>.sl 3 (x.map aB)))))])]⟩
abbrev bC0:=fun p1 x6 jD (r:List (Value×(List aA)))=>Jok Tryz.prog 61 16 (BQ (fun (y:List (Value×(List aA)))=>(.tup [])) (fun (y:List (Value×(List aA)))=>[(244,[(.trs 1 (y.map (cRw (fun (x:List aA)=>.sl 3 (x.map aB)))))])]) r) (bUr p1 x6 jD)
def bOf (p1:Int) (p0:List (Value×(List aA))) (x10:Int) (x11:Int):St:=⟨[(0,.tre 244),(1,vI p1),(4,.fn 22 []),(10,vI x10),(11,vI x11)],[(244,[(.trs 1 (p0.map (cRw (fun (x:List aA)=>.sl 3 (x.map aB)))))])]⟩
abbrev bDq:=fun p1 p0 x10 x11 (r:List (Value×(List aA)))=>Lok Tryz.prog 110 0 (BQ (fun (y:List (Value×(List aA)))=>(.tup [])) (fun (y:List (Value×(List aA)))=>[(244,[(.trs 1 (y.map (cRw (fun (x:List aA)=>.sl 3 (x.map aB)))))])]) r) (bOf p1 p0 x10 x11)
def bZ5 (p2:Int) (p0:List (Value×(List aA))) (x14:Int) (x15:Int):St:=⟨[(0,.tre 244),(2,vI p2),(4,.fn 22 []),(14,vI x14),(15,vI x15)],[(244,[(.trs 1 (p0.map (cRw (fun (x:List aA)=>.sl 3 (x.map aB)))))])]⟩
abbrev bDn:=fun p2 p0 x14 x15 (r:List (Value×(List aA)))=>Lok Tryz.prog 110 2 (BQ (fun (y:List (Value×(List aA)))=>(.tup [])) (fun (y:List (Value×(List aA)))=>[(244,[(.trs 1 (y.map (cRw (fun (x:List aA)=>.sl 3 (x.map aB)))))])]) r) (bZ5 p2 p0 x14 x15)
def cAn (p1:Int) (p2:Int) (p3:Int) (p0:List (Value×(List aA))) (x20:Int) (x21:Int):St:=⟨[(0,.tre 244),(1,vI p1),(2,vI p2),(3,vI p3),(4,.fn 22 []),(18,vI (QA .i64 (QB (QA .u64 (QA .i64 (p1+p3))) (2 ^ 1)))),(19,vI (QA .i64 ((QA .i64 (QB (QA .u64 (QA .i64 (p1+p3))) (2 ^ 1)))+p2))),(20,vI x20),(21,vI x21)],[(244,[(.trs 1 (p0.map (cRw (fun (x:List aA)=>.sl 3 (x.map aB)))))])]⟩
abbrev bAh:=fun p1 p2 p3 p0 x20 x21 (r:List (Value×(List aA)))=>Jok Tryz.prog 110 31 (BQ (fun (y:List (Value×(List aA)))=>(.tup [])) (fun (y:List (Value×(List aA)))=>[(244,[(.trs 1 (y.map (cRw (fun (x:List aA)=>.sl 3 (x.map aB)))))])]) r) (cAn p1 p2 p3 p0 x20 x21)
def bZg (x10:Int) (x13:Int) (aU:List (Value×(List aA))):St:=⟨[(0,.tre 244),(10,vI x10),(13,vI x13)],[(244,[(.trs 1 (aU.map (cRw (fun (x:List aA)=>.sl 3 (x.map aB)))))])]⟩
abbrev aXv:=fun x10 x13 aU (r:List (Value×(List aA)))=>Lok Tryz.prog 110 1 (BQ (fun (y:List (Value×(List aA)))=>(.tup [])) (fun (y:List (Value×(List aA)))=>[(244,[(.trs 1 (y.map (cRw (fun (x:List aA)=>.sl 3 (x.map aB)))))])]) r) (bZg x10 x13 aU)
def cGu (x14:Int) (x17:Int) (eF:List (Value×(List aA))):St:=⟨[(0,.tre 244),(14,vI x14),(17,vI x17)],[(244,[(.trs 1 (eF.map (cRw (fun (x:List aA)=>.sl 3 (x.map aB)))))])]⟩
abbrev aWx:=fun x14 x17 eF (r:List (Value×(List aA)))=>Lok Tryz.prog 110 3 (BQ (fun (y:List (Value×(List aA)))=>(.tup [])) (fun (y:List (Value×(List aA)))=>[(244,[(.trs 1 (y.map (cRw (fun (x:List aA)=>.sl 3 (x.map aB)))))])]) r) (cGu x14 x17 eF)
def bTy (p1:Int) (p2:Int) (p3:Int) (p0:List (Value×(List aA))) (aY:Int) (eG:Int):St:=⟨[(0,.tre 244),(1,vI p1),(2,vI p2),(3,vI p3),(4,.fn 22 []),(18,vI (QA .i64 (QB (QA .u64 (QA .i64 (p1+p3))) (2 ^ 1)))),(19,vI (QA .i64 ((QA .i64 (QB (QA .u64 (QA .i64 (p1+p3))) (2 ^ 1)))+p2))),(20,vI aY),(21,vI eG),(22,vI (QA .i64 ((QA .i64 ((QA .i64 (QB (QA .u64 (QA .i64 (p1+p3))) (2 ^ 1)))+p2)) - 1)))],[(244,[(.trs 1 (p0.map (cRw (fun (x:List aA)=>.sl 3 (x.map aB)))))])]⟩
abbrev aYe:=fun p1 p2 p3 p0 aY eG (r:List (Value×(List aA)))=>Lok Tryz.prog 110 4 (BQ (fun (y:List (Value×(List aA)))=>(.tup [])) (fun (y:List (Value×(List aA)))=>[(244,[(.trs 1 (y.map (cRw (fun (x:List aA)=>.sl 3 (x.map aB)))))])]) r) (bTy p1 p2 p3 p0 aY eG)
def cAw (p1:Int) (p3:Int) (aY:Int) (p2:Int) (iV:List (Value×(List aA))):St:=⟨[(0,.tre 244),(1,vI p1),(3,vI p3),(4,.fn 22 []),(18,vI (QA .i64 (QB (QA .u64 (QA .i64 (p1+p3))) (2 ^ 1)))),(20,vI aY),(24,vI (QA .i64 ((QA .i64 ((QA .i64 (QB (QA .u64 (QA .i64 (p1+p3))) (2 ^ 1)))+p2)) - aY)))],[(244,[(.trs 1 (iV.map (cRw (fun (x:List aA)=>.sl 3 (x.map aB)))))])]⟩
abbrev aUh:=fun p1 p3 aY p2 iV (r:List (Value×(List aA)))=>Jok Tryz.prog 110 42 (BQ (fun (y:List (Value×(List aA)))=>(.tup [])) (fun (y:List (Value×(List aA)))=>[(244,[(.trs 1 (y.map (cRw (fun (x:List aA)=>.sl 3 (x.map aB)))))])]) r) (cAw p1 p3 aY p2 iV)
def bS5 (p3:Int) (p1:Int) (p2:Int) (aY:Int) (iM:List (Value×(List aA))):St:=⟨[(0,.tre 244),(3,vI p3),(4,.fn 22 []),(18,vI (QA .i64 (QB (QA .u64 (QA .i64 (p1+p3))) (2 ^ 1)))),(24,vI (QA .i64 ((QA .i64 ((QA .i64 (QB (QA .u64 (QA .i64 (p1+p3))) (2 ^ 1)))+p2)) - aY)))],[(244,[(.trs 1 (iM.map (cRw (fun (x:List aA)=>.sl 3 (x.map aB)))))])]⟩
abbrev aSe:=fun p3 p1 p2 aY iM (r:List (Value×(List aA)))=>Jok Tryz.prog 110 44 (BQ (fun (y:List (Value×(List aA)))=>(.tup [])) (fun (y:List (Value×(List aA)))=>[(244,[(.trs 1 (y.map (cRw (fun (x:List aA)=>.sl 3 (x.map aB)))))])]) r) (bS5 p3 p1 p2 aY iM)
def bZo (p2:Int) (x10:Int) (x11:Int) (aU:List (Value×(List aA))):St:=⟨[(0,.tre 244),(2,vI p2),(4,.fn 22 []),(10,vI x10),(11,vI x11)],[(244,[(.trs 1 (aU.map (cRw (fun (x:List aA)=>.sl 3 (x.map aB)))))])]⟩
abbrev bCb:=fun p2 x10 x11 aU (r:List (Value×(List aA)))=>Lok Tryz.prog 160 0 (BQ (fun (y:List (Value×(List aA)))=>(.tup [])) (fun (y:List (Value×(List aA)))=>[(244,[(.trs 1 (y.map (cRw (fun (x:List aA)=>.sl 3 (x.map aB)))))])]) r) (bZo p2 x10 x11 aU)
def cAv (p1:Int) (p2:Int) (p3:Int) (x10:Int) (aU:List (Value×(List aA))):St:=⟨[(0,.tre 244),(1,vI p1),(2,vI p2),(3,vI p3),(10,vI x10)],[(244,[(.trs 1 (aU.map (cRw (fun (x:List aA)=>.sl 3 (x.map aB)))))])]⟩
abbrev aTa:=fun p1 p2 p3 x10 aU (r:List (Value×(List aA)))=>Lok Tryz.prog 201 0 (BQ (fun (y:List (Value×(List aA)))=>(.tup [])) (fun (y:List (Value×(List aA)))=>[(244,[(.trs 1 (y.map (cRw (fun (x:List aA)=>.sl 3 (x.map aB)))))])]) r) (cAv p1 p2 p3 x10 aU)

def cKm (p0:List aA) (p1:List aA) (x13:Int):St:=⟨[(0,eU p0),(1,eU p1),(2,.fn 63 []),(11,eU p0),(12,vI (p0.length:Int)),(13,vI x13)],[]⟩
abbrev bBc:=fun p0 p1 x13 r=>Lok Tryz.prog 62 0 (PQ (fun y=>(vI y)) r) (cKm p0 p1 x13)
def bYq (p1:Int) (p2:Int) (x8:Int) (aU:List (Value×(List aA))):St:=⟨[(0,.tre 244),(1,vI p1),(2,vI p2),(3,.fn 22 []),(8,vI x8)],[(244,[(.trs 1 (aU.map (cRw (fun (x:List aA)=>.sl 3 (x.map aB)))))])]⟩
abbrev bC3:=fun p1 p2 x8 aU (r:List (Value×(List aA)))=>Lok Tryz.prog 109 0 (BQ (fun (y:List (Value×(List aA)))=>(.tup [])) (fun (y:List (Value×(List aA)))=>[(244,[(.trs 1 (y.map (cRw (fun (x:List aA)=>.sl 3 (x.map aB)))))])]) r) (bYq p1 p2 x8 aU)
def bSl (p1:Int) (p2:Int) (x8:Int) (x9:Int) (bZ:List (Value×(List aA))):St:=⟨[(0,.tre 244),(1,vI p1),(2,vI p2),(3,.fn 22 []),(8,vI x8),(9,vI x9)],[(244,[(.trs 1 (bZ.map (cRw (fun (x:List aA)=>.sl 3 (x.map aB)))))])]⟩
abbrev aUp:=fun p1 p2 x8 x9 bZ (r:List (Value×(List aA)))=>Lok Tryz.prog 109 1 (BQ (fun (y:List (Value×(List aA)))=>(.tup [])) (fun (y:List (Value×(List aA)))=>[(244,[(.trs 1 (y.map (cRw (fun (x:List aA)=>.sl 3 (x.map aB)))))])]) r) (bSl p1 p2 x8 x9 bZ)

def cE3 (p1:aP) (x6:Int) (eB:List Int) (dR:Int) (eD:Int) (bX:List fI):St:=⟨[(0,.ptr 241 0),(3,.ptr 3 0),(4,.ptr 4 0),(5,.ptr 5 0),(6,vI x6)],[(3,dX p1),(4,[.nil 1]),(5,[.tre 354]),(241,bC (aL.mk eB dR eD)),(354,[.trs 1 (bX.map kV)])]⟩
abbrev Zy (y:GDb×aL):List (Nat×List V):=[(261,[.trs 1 (y.1.tables.map kV)]),(241,bC y.2)]
abbrev Zx (y:GDb×aL):V:=(.agv [.tre 261])
abbrev aTe:=fun p1 x6 eB dR eD bX (r:GDb×aL)=>Lok Tryz.prog 27 0 (BQ Zx Zy r) (cE3 p1 x6 eB dR eD bX)
def cJo (x6:Int) (y1:Int×aL) (p1:aP) (bX:List fI) (x9:Int) (gK:List (List aA)) (mK:(List Int)×Int×Int):St:=⟨[(0,.ptr 241 0),(3,.ptr 3 0),(4,.ptr 4 0),(5,.ptr 5 0),(6,vI x6),(7,.ptr 7 0),(8,vI y1.1),(9,vI x9)],[(3,dX p1),(4,[.nil 1]),(5,[.tre 366]),(7,[.osl 59 45 1 (gK.map (cSl 3 aB))]),(241,bC (aL.mk mK.1 mK.2.1 mK.2.2)),(366,[.trs 1 (bX.map kV)])]⟩
abbrev aUl:=fun x6 y1 p1 bX x9 gK mK (r:GDb×aL)=>Lok Tryz.prog 27 1 (BQ Zx Zy r) (cJo x6 y1 p1 bX x9 gK mK)
def bOx (x6:Int) (y1:Int×aL) (x9:Int) (p1:aP) (gK:List (List aA)) (bX:List fI) (x10:List aA) (kx11:Int×(List Int)×Int×Int):St:=⟨[(0,.ptr 241 0),(3,.ptr 3 0),(4,.ptr 4 0),(5,.ptr 5 0),(6,vI x6),(7,.ptr 7 0),(8,vI y1.1),(9,vI x9),(10,.osl 10 47 3 (x10.map aB)),(11,vI kx11.1)],[(3,dX p1),(4,[.nil 1]),(5,[.tre 377]),(7,[.osl 59 45 1 (gK.map (cSl 3 aB))]),(241,bC (aL.mk kx11.2.1 kx11.2.2.1 kx11.2.2.2)),(377,[.trs 1 (bX.map kV)])]⟩
abbrev aU2:=fun x6 y1 x9 p1 gK bX x10 kx11 (r:GDb×aL)=>Lok Tryz.prog 27 2 (BQ Zx Zy r) (bOx x6 y1 x9 p1 gK bX x10 kx11)


def cGq (p0:aL) (x3:Int) (dR:Int):St:=⟨[(3,vI x3)],[(241,bC (aL.mk p0.b dR (QA .i64 ((QA .i64 (p0.h * 6364136223846793005))+1442695040888963407))))]⟩
abbrev ZA (y:Int×aL):List (Nat×List V):=[(241,bC y.2)]
abbrev Zz (y:Int×aL):V:=(vI y.1)
abbrev bO0:=fun p0 x3 dR (r:Int×aL)=>Jok Tryz.prog 66 3 (BQ Zz ZA r) (cGq p0 x3 dR)





def bQl (p1:Int) (y1:aP×aL) (x7:List Int) (eB:List Int) (dR:Int) (eD:Int):St:=⟨[(0,.ptr 241 0),(1,vI p1),(4,.ptr 4 0),(5,.ptr 5 0),(6,.ptr 6 0),(7,.osl 7 3 1 (x7.map cI))],[(4,[.nil 2]),(5,[.nil 1,.nil 1,.nil 10,.nil 11,.nil 10,.nil 1,vB false,vI 0]),(6,dX y1.1),(241,bC (aL.mk eB dR eD))]⟩
abbrev ZC (y:aP×aQ×aL):List (Nat×List V):=[(269,[.trc 1 (y.2.1.tables.map cI)]),(270,[.trc 1 (y.2.1.on_.map (cSl 10 aX))]),(271,[.trc 10 (y.2.1.where_.map aX)]),(272,[.trc 11 (y.2.1.order.map jG)]),(273,[.trc 10 (y.2.1.items.map aX)]),(274,[.trc 1 (y.2.1.names.map cStr)]),(241,bC y.2.2)]
abbrev ZB (y:aP×aQ×aL):V:=(.tup [dN y.1,.agv [.tre 269,.tre 270,.tre 271,.tre 272,.tre 273,.tre 274,vB y.2.1.distinct,vI y.2.1.limit]])
abbrev cDa:=fun p1 y1 x7 eB dR eD (r:aP×aQ×aL)=>Jok Tryz.prog 24 3 (BQ ZB ZC r) (bQl p1 y1 x7 eB dR eD)
def bXb (p2:List (List Int)) (p3:List Int) (p4:Int) (y2:Int×aL) (p1:aP) (y1:Bool×aL) (kx13:Int×(List Int)×Int×Int×(((List (List aJ))×(List Int)))):St:=⟨[(0,.ptr 241 0),(2,.d (.sl 1 (p2.map (cSl 1 cI)))),(3,gD p3),(4,vI p4),(6,.ptr 6 0),(10,.ptr 10 0),(11,.ptr 11 0),(12,vI (QA .i64 (1+y2.1))),(13,vI kx13.1)],[(6,dX p1),(10,[.nil 1,.nil 1,.nil 10,.nil 11,.nil 10,.nil 1,vB false,vI 0]),(11,[.tre 357,.tre 358,.nil 10,.nil 11,.nil 10,.nil 1,vB y1.1,vI (-1)]),(241,bC (aL.mk kx13.2.1 kx13.2.2.1 kx13.2.2.2.1)),(358,[.trc 1 (kx13.2.2.2.2.1.map (cSl 10 aX))]),(357,[.trc 1 (kx13.2.2.2.2.2.map cI)])]⟩
abbrev ZE (y:aQ×aL):List (Nat×List V):=[(261,[.trc 1 (y.1.tables.map cI)]),(262,[.trc 1 (y.1.on_.map (cSl 10 aX))]),(263,[.trc 10 (y.1.where_.map aX)]),(264,[.trc 11 (y.1.order.map jG)]),(265,[.trc 10 (y.1.items.map aX)]),(266,[.trc 1 (y.1.names.map cStr)]),(241,bC y.2)]
abbrev ZD (y:aQ×aL):V:=(.agv [.tre 261,.tre 262,.tre 263,.tre 264,.tre 265,.tre 266,vB y.1.distinct,vI y.1.limit])
abbrev aUq:=fun p2 p3 p4 y2 p1 y1 kx13 (r:aQ×aL)=>Lok Tryz.prog 65 0 (BQ ZD ZE r) (bXb p2 p3 p4 y2 p1 y1 kx13)
def bNn (p2:List (List Int)) (p3:List Int) (p4:Int) (y2:Int×aL) (x13:Int) (p1:aP) (y1:Bool×aL) (ky4:(List Int)×(((List (List aJ))×(List Int)×Int×Int×(List aJ)))):St:=⟨[(0,.ptr 241 0),(2,.d (.sl 1 (p2.map (cSl 1 cI)))),(3,gD p3),(4,vI p4),(6,.ptr 6 0),(10,.ptr 10 0),(11,.ptr 11 0),(12,vI (QA .i64 (1+y2.1))),(13,vI x13),(16,.tre 379)],[(6,dX p1),(10,[.nil 1,.nil 1,.nil 10,.nil 11,.nil 10,.nil 1,vB false,vI 0]),(11,[.tre 380,.tre 381,.nil 10,.nil 11,.nil 10,.nil 1,vB y1.1,vI (-1)]),(241,bC (aL.mk ky4.2.2.1 ky4.2.2.2.1 ky4.2.2.2.2.1)),(379,[.trc 10 (ky4.2.2.2.2.2.map aX)]),(380,[.trc 1 (ky4.1.map cI)]),(381,[.trc 1 (ky4.2.1.map (cSl 10 aX))])]⟩
abbrev aVa:=fun p2 p3 p4 y2 x13 p1 y1 ky4 (r:aQ×aL)=>Jok Tryz.prog 65 11 (BQ ZD ZE r) (bNn p2 p3 p4 y2 x13 p1 y1 ky4)
def cJl (p3:List Int) (p4:Int) (y15:List (List Int)) (p1:aP) (y1:Bool×aL) (gH:List (List aJ)) (gL:List Int) (kx20:Int×(List Int)×Int×Int×(((List (List UInt8))×(List aJ)))):St:=⟨[(0,.ptr 241 0),(3,gD p3),(4,vI p4),(6,.ptr 6 0),(10,.ptr 10 0),(11,.ptr 11 0),(19,.osl 19 30 1 (y15.map (cSl 1 cI))),(20,vI kx20.1)],[(6,dX p1),(10,[.nil 1,.nil 1,.nil 10,.nil 11,.nil 10,.nil 1,vB false,vI 0]),(11,[.tre 384,.tre 385,.nil 10,.nil 11,.tre 386,.tre 387,vB y1.1,vI (-1)]),(241,bC (aL.mk kx20.2.1 kx20.2.2.1 kx20.2.2.2.1)),(387,[.trc 1 (kx20.2.2.2.2.1.map cStr)]),(386,[.trc 10 (kx20.2.2.2.2.2.map aX)]),(385,[.trc 1 (gH.map (cSl 10 aX))]),(384,[.trc 1 (gL.map cI)])]⟩
abbrev aX9:=fun p3 p4 y15 p1 y1 gH gL kx20 (r:aQ×aL)=>Lok Tryz.prog 65 1 (BQ ZD ZE r) (cJl p3 p4 y15 p1 y1 gH gL kx20)
def bPj (p4:Int) (y15:List (List Int)) (p1:aP) (y1:Bool×aL) (gN:List (List UInt8)) (gM:List aJ) (jU:(List (List aJ))×(List Int)×(List Int)×Int×Int×(List aJ)):St:=⟨[(0,.ptr 241 0),(4,vI p4),(6,.ptr 6 0),(10,.ptr 10 0),(11,.ptr 11 0),(19,.osl 19 30 1 (y15.map (cSl 1 cI)))],[(6,dX p1),(10,[.nil 1,.nil 1,.nil 10,.nil 11,.nil 10,.nil 1,vB false,vI 0]),(11,[.tre 394,.tre 395,.tre 396,.nil 11,.tre 397,.tre 398,vB y1.1,vI (-1)]),(241,bC (aL.mk jU.2.2.1 jU.2.2.2.1 jU.2.2.2.2.1)),(396,[.trc 10 (jU.2.2.2.2.2.map aX)]),(398,[.trc 1 (gN.map cStr)]),(397,[.trc 10 (gM.map aX)]),(395,[.trc 1 (jU.1.map (cSl 10 aX))]),(394,[.trc 1 (jU.2.1.map cI)])]⟩
abbrev aVx:=fun p4 y15 p1 y1 gN gM jU (r:aQ×aL)=>Jok Tryz.prog 65 21 (BQ ZD ZE r) (bPj p4 y15 p1 y1 gN gM jU)
def cCi (y1:Bool×aL) (nR:List aJ) (gN:List (List UInt8)) (gM:List aJ) (gH:List (List aJ)) (gL:List Int) (Q9:List Int) (W9:Int) (aAk:Int) (nQ:List dV):St:=⟨[(0,.ptr 241 0),(10,.ptr 10 0),(11,.ptr 11 0)],[(10,[.nil 1,.nil 1,.nil 10,.nil 11,.nil 10,.nil 1,vB false,vI 0]),(11,[.tre 399,.tre 400,.tre 401,.tre 402,.tre 403,.tre 404,vB y1.1,vI (-1)]),(241,bC (aL.mk Q9 W9 aAk)),(402,[.trc 11 (nQ.map jG)]),(401,[.trc 10 (nR.map aX)]),(404,[.trc 1 (gN.map cStr)]),(403,[.trc 10 (gM.map aX)]),(400,[.trc 1 (gH.map (cSl 10 aX))]),(399,[.trc 1 (gL.map cI)])]⟩
abbrev bU1:=fun y1 nR gN gM gH gL Q9 W9 aAk nQ (r:aQ×aL)=>Jok Tryz.prog 65 23 (BQ ZD ZE r) (cCi y1 nR gN gM gH gL Q9 W9 aAk nQ)
def bTw (y1:Bool×aL) (nQ:List dV) (nR:List aJ) (gN:List (List UInt8)) (gM:List aJ) (gH:List (List aJ)) (gL:List Int) (K8:Int) (F8:List Int) (D7:Int) (F5:Int):St:=⟨[(10,.ptr 10 0),(11,.ptr 11 0)],[(10,[.nil 1,.nil 1,.nil 10,.nil 11,.nil 10,.nil 1,vB false,vI 0]),(11,[.tre 405,.tre 406,.tre 407,.tre 408,.tre 409,.tre 410,vB y1.1,vI K8]),(241,bC (aL.mk F8 D7 F5)),(408,[.trc 11 (nQ.map jG)]),(407,[.trc 10 (nR.map aX)]),(410,[.trc 1 (gN.map cStr)]),(409,[.trc 10 (gM.map aX)]),(406,[.trc 1 (gH.map (cSl 10 aX))]),(405,[.trc 1 (gL.map cI)])]⟩
abbrev bOu:=fun y1 nQ nR gN gM gH gL K8 F8 D7 F5 (r:aQ×aL)=>Jok Tryz.prog 65 25 (BQ ZD ZE r) (bTw y1 nQ nR gN gM gH gL K8 F8 D7 F5)

def bU7 (p2:List (List Int)) (p3:Int) (p4:Int) (p5:Int) (p1:aP) (x14:Int) (jF:(List Int)×Int×Int×(List aJ)):St:=⟨[(0,.ptr 241 0),(2,.d (.sl 1 (p2.map (cSl 1 cI)))),(3,vI p3),(4,vI p4),(5,vI p5),(7,.ptr 7 0),(13,.tre 353),(14,vI x14)],[(7,dX p1),(241,bC (aL.mk jF.1 jF.2.1 jF.2.2.1)),(353,[.trc 10 (jF.2.2.2.map aX)])]⟩
abbrev ZG (y:(List aJ)×aL):List (Nat×List V):=[(261,[.trc 10 (y.1.map aX)]),(241,bC y.2)]
abbrev ZF (y:(List aJ)×aL):V:=(.tre 261)
abbrev aYc:=fun p2 p3 p4 p5 p1 x14 jF (r:(List aJ)×aL)=>Lok Tryz.prog 165 0 (BQ ZF ZG r) (bU7 p2 p3 p4 p5 p1 x14 jF)
def cE4 (p2:List (List Int)) (p3:Int) (y1:Int×aL) (y2:Bool×aL) (y3:Int×aL) (p1:aP) (x18:Bool):St:=⟨[(0,.ptr 241 0),(2,.d (.sl 1 (p2.map (cSl 1 cI)))),(3,vI p3),(5,.ptr 5 0),(8,.ptr 8 0),(9,vI (QA .i64 (1+y1.1))),(10,vB y2.1),(17,vI y3.1),(18,vB x18)],[(5,dX p1),(8,[vI 0,vI 0,vB false,vI 0,vI 0,vS [],vI 0,vI 0,.nil 10,.nil 8]),(241,bC y3.2)]⟩
abbrev ZH (y:aJ×aL):V:=(.agv [vI y.1.kind,vI y.1.op,vB y.1.not_,vI y.1.value.kind,vI y.1.value.num,vS y.1.value.text,vI y.1.up,vI y.1.at_,.tre 267,.tre 268])
abbrev ZI (y:aJ×aL):List (Nat×List V):=[(267,[.trc 10 (y.1.kids.map aX)]),(268,[.trc 8 (y.1.sub.map eY)]),(241,bC y.2)]
abbrev aV5:=fun p2 p3 y1 y2 y3 p1 x18 (r:aJ×aL)=>Jok Tryz.prog 166 5 (BQ ZH ZI r) (cE4 p2 p3 y1 y2 y3 p1 x18)
def bQo (p2:List (List Int)) (p3:Int) (y1:Int×aL) (p1:aP) (y3:Int×aL):St:=⟨[(0,.ptr 241 0),(2,.d (.sl 1 (p2.map (cSl 1 cI)))),(3,vI p3),(5,.ptr 5 0),(8,.ptr 8 0),(9,vI (QA .i64 (1+y1.1)))],[(5,dX p1),(8,[vI 0,vI 0,vB false,vI 0,vI 0,vS [],vI 0,vI 0,.nil 10,.nil 8]),(241,bC y3.2)]⟩
abbrev bAq:=fun p2 p3 y1 p1 y3 (r:aJ×aL)=>Jok Tryz.prog 166 3 (BQ ZH ZI r) (bQo p2 p3 y1 p1 y3)
def bTu (y1:aA×aL) (P5:Int) (eB:List Int) (dR:Int) (eD:Int):St:=⟨[(4,.ptr 4 0),(5,.ptr 5 0)],[(4,[vI 0,vI 0,vS []]),(5,wE (aA.mk y1.1.kind P5 y1.1.text)),(241,bC (aL.mk eB dR eD))]⟩
abbrev ZK (y:aA×aL):List (Nat×List V):=[(241,bC y.2)]
abbrev ZJ (y:aA×aL):V:=(bO y.1)
abbrev bXv:=fun y1 P5 eB dR eD (r:aA×aL)=>Jok Tryz.prog 163 2 (BQ ZJ ZK r) (bTu y1 P5 eB dR eD)
def bXj (p1:List (List Int)) (p2:Int) (x7:Int) (x9:Int) (rD:Int) (qW:Int) (rA:Int) (gU:(List UInt8)×Int×Int×(List Int)×Int×Int):St:=⟨[(0,.ptr 241 0),(1,.d (.sl 1 (p1.map (cSl 1 cI)))),(2,vI p2),(6,.ptr 6 0),(7,vI x7),(8,.ptr 8 0),(9,vI x9)],[(6,[vI 0,vI 0,vB false,vI 0,vI 0,vS [],vI 0,vI 0,.nil 10,.nil 8]),(8,[vI rD,vI 0,vB false,vI qW,vI rA,vS gU.1,vI gU.2.1,vI gU.2.2.1,.nil 10,.nil 8]),(241,bC (aL.mk gU.2.2.2.1 gU.2.2.2.2.1 gU.2.2.2.2.2))]⟩
abbrev aV6:=fun p1 p2 x7 x9 rD qW rA gU (r:aJ×aL)=>Lok Tryz.prog 164 0 (BQ ZH ZI r) (bXj p1 p2 x7 x9 rD qW rA gU)
def cA6 (p1:List (List Int)) (p2:Int) (x9:Int) (pM:Int) (x10:Int) (qN:Int) (sH:Int) (rQ:Int) (iC:(List UInt8)×Int×Int×(List Int)×Int×Int):St:=⟨[(0,.ptr 241 0),(1,.d (.sl 1 (p1.map (cSl 1 cI)))),(2,vI p2),(6,.ptr 6 0),(7,vI pM),(8,.ptr 8 0),(9,vI x9),(10,vI x10)],[(6,[vI 0,vI 0,vB false,vI 0,vI 0,vS [],vI 0,vI 0,.nil 10,.nil 8]),(8,[vI qN,vI 0,vB false,vI sH,vI rQ,vS iC.1,vI iC.2.1,vI iC.2.2.1,.nil 10,.nil 8]),(241,bC (aL.mk iC.2.2.2.1 iC.2.2.2.2.1 iC.2.2.2.2.2))]⟩
abbrev aWm:=fun p1 p2 x9 pM x10 qN sH rQ iC (r:aJ×aL)=>Lok Tryz.prog 164 1 (BQ ZH ZI r) (cA6 p1 p2 x9 pM x10 qN sH rQ iC)
def cBe (p1:List (List Int)) (p2:Int) (x9:Int) (x10:Int) (uG:Int) (uO:Int) (uN:Int) (uX:Int) (lW:(List UInt8)×Int×Int×(List Int)×Int×Int):St:=⟨[(0,.ptr 241 0),(1,.d (.sl 1 (p1.map (cSl 1 cI)))),(2,vI p2),(6,.ptr 6 0),(7,vI uG),(8,.ptr 8 0),(9,vI x9),(10,vI x10)],[(6,[vI 0,vI 0,vB false,vI 0,vI 0,vS [],vI 0,vI 0,.nil 10,.nil 8]),(8,[vI uO,vI 0,vB false,vI uN,vI uX,vS lW.1,vI lW.2.1,vI lW.2.2.1,.nil 10,.nil 8]),(241,bC (aL.mk lW.2.2.2.1 lW.2.2.2.2.1 lW.2.2.2.2.2))]⟩
abbrev aVz:=fun p1 p2 x9 x10 uG uO uN uX lW (r:aJ×aL)=>Jok Tryz.prog 164 11 (BQ ZH ZI r) (cBe p1 p2 x9 x10 uG uO uN uX lW)
def cC4 (y1:Int×aL) (x6:Int) (dI:List eP) (eB:List Int) (dR:Int) (eD:Int):St:=⟨[(0,.ptr 241 0),(2,.ptr 2 0),(3,.ptr 3 0),(4,.osl 4 9 1 (([[116],[117],[118]]:List (List UInt8)).map cStr)),(5,vI (QA .i64 (1+y1.1))),(6,vI x6)],[(2,[.nil 2]),(3,[.osl 61 79 2 (dI.map mM)]),(241,bC (aL.mk eB dR eD))]⟩
abbrev ZM (y:aP×aL):List (Nat×List V):=[(241,bC y.2)]
abbrev ZL (y:aP×aL):V:=(dN y.1)
abbrev aV8:=fun y1 x6 dI eB dR eD (r:aP×aL)=>Lok Tryz.prog 64 0 (BQ ZL ZM r) (cC4 y1 x6 dI eB dR eD)
def cAm (y1:Int×aL) (x6:Int) (y3:Int×aL) (dI:List eP) (y2:List UInt8) (x9:Int) (jX:(List gJ)×(List Int)×Int×Int):St:=⟨[(0,.ptr 241 0),(2,.ptr 2 0),(3,.ptr 3 0),(4,.osl 4 9 1 (([[116],[117],[118]]:List (List UInt8)).map cStr)),(5,vI (QA .i64 (1+y1.1))),(6,vI x6),(7,.ptr 7 0),(8,vI (QA .i64 (1+y3.1))),(9,vI x9)],[(2,[.nil 2]),(3,[.osl 61 79 2 (dI.map mM)]),(7,[vS y2,.osl 55 118 2 (jX.1.map lM)]),(241,bC (aL.mk jX.2.1 jX.2.2.1 jX.2.2.2))]⟩
abbrev aZ4:=fun y1 x6 y3 dI y2 x9 jX (r:aP×aL)=>Lok Tryz.prog 64 1 (BQ ZL ZM r) (cAm y1 x6 y3 dI y2 x9 jX)
def cI0 (y1:Int×aL) (x6:Int) (y3:Int×aL) (x9:Int) (dI:List eP) (y2:List UInt8) (qF:List gJ) (ky8:(Int×aL)×(List UInt8)×(List Int)×Int×Int):St:=⟨[(0,.ptr 241 0),(2,.ptr 2 0),(3,.ptr 3 0),(4,.osl 4 9 1 (([[116],[117],[118]]:List (List UInt8)).map cStr)),(5,vI (QA .i64 (1+y1.1))),(6,vI x6),(7,.ptr 7 0),(8,vI (QA .i64 (1+y3.1))),(9,vI x9),(10,.ptr 10 0)],[(2,[.nil 2]),(3,[.osl 61 79 2 (dI.map mM)]),(7,[vS y2,.osl 55 118 2 (qF.map lM)]),(10,bNh (gJ.mk ky8.2.1 ky8.1.1)),(241,bC (aL.mk ky8.2.2.1 ky8.2.2.2.1 ky8.2.2.2.2))]⟩
abbrev aSt:=fun y1 x6 y3 x9 dI y2 qF ky8 (r:aP×aL)=>Jok Tryz.prog 64 17 (BQ ZL ZM r) (cI0 y1 x6 y3 x9 dI y2 qF ky8)
def bRt (y1:Int×aL) (x6:Int) (y3:Int×aL) (x9:Int) (dI:List eP) (y2:List UInt8) (mX:(List Int)×Int×Int×(List gJ)):St:=⟨[(0,.ptr 241 0),(2,.ptr 2 0),(3,.ptr 3 0),(4,.osl 4 9 1 (([[116],[117],[118]]:List (List UInt8)).map cStr)),(5,vI (QA .i64 (1+y1.1))),(6,vI x6),(7,.ptr 7 0),(8,vI (QA .i64 (1+y3.1))),(9,vI x9)],[(2,[.nil 2]),(3,[.osl 61 79 2 (dI.map mM)]),(7,[vS y2,.osl 55 118 2 (mX.2.2.2.map lM)]),(241,bC (aL.mk mX.1 mX.2.1 mX.2.2.1))]⟩
abbrev bDf:=fun y1 x6 y3 x9 dI y2 mX (r:aP×aL)=>Jok Tryz.prog 64 15 (BQ ZL ZM r) (bRt y1 x6 y3 x9 dI y2 mX)


def bS4 (y1:aL×aP×GDb×aQ) (X4:List Int) (O3:Int) (M8:Int) (nK:List aJ):St:=⟨[(2,.ptr 2 0),(3,.ptr 3 0),(4,.ptr 4 0),(5,.ptr 11 0),(6,.ptr 6 0),(7,.ptr 7 0),(8,.ptr 8 0)],[(2,[.nil 2]),(3,[.nil 1]),(4,[.nil 1,.nil 1,.nil 10,.nil 11,.nil 10,.nil 1,vB false,vI 0]),(6,dX y1.2.1),(7,[.tre 359]),(8,[.tre 360,.tre 361,.tre 362,.tre 363,.tre 364,.tre 365,vB y1.2.2.2.distinct,vI y1.2.2.2.limit]),(11,bC (aL.mk X4 O3 M8)),(359,[.trs 1 (y1.2.2.1.tables.map kV)]),(360,[.trc 1 (y1.2.2.2.tables.map cI)]),(361,[.trc 1 (y1.2.2.2.on_.map (cSl 10 aX))]),(362,[.trc 10 (y1.2.2.2.where_.map aX)]),(363,[.trc 11 (y1.2.2.2.order.map jG)]),(364,[.trc 10 (nK.map aX)]),(365,[.trc 1 (y1.2.2.2.names.map cStr)])]⟩
abbrev cJ5:=fun y1 X4 O3 M8 nK (r:aP×GDb×aQ)=>Jok Tryz.prog 5 2 (PQ (fun y=>(.tup [dN y.1,iY y.2.1,fV y.2.2])) r) (bS4 y1 X4 O3 M8 nK)
def cAk (y1:aL×aP×GDb×aQ) (nK:List aJ) (F9:List fI):St:=⟨[(2,.ptr 2 0),(3,.ptr 3 0),(4,.ptr 4 0),(6,.ptr 6 0),(7,.ptr 7 0),(8,.ptr 8 0)],[(2,[.nil 2]),(3,[.nil 1]),(4,[.nil 1,.nil 1,.nil 10,.nil 11,.nil 10,.nil 1,vB false,vI 0]),(6,dX y1.2.1),(7,[.tre 369]),(8,[.tre 370,.tre 371,.tre 372,.tre 373,.tre 374,.tre 375,vB y1.2.2.2.distinct,vI y1.2.2.2.limit]),(369,[.trs 1 (F9.map kV)]),(370,[.trc 1 (y1.2.2.2.tables.map cI)]),(371,[.trc 1 (y1.2.2.2.on_.map (cSl 10 aX))]),(372,[.trc 10 (y1.2.2.2.where_.map aX)]),(373,[.trc 11 (y1.2.2.2.order.map jG)]),(374,[.trc 10 (nK.map aX)]),(375,[.trc 1 (y1.2.2.2.names.map cStr)])]⟩
abbrev bS1:=fun y1 nK F9 (r:aP×GDb×aQ)=>Jok Tryz.prog 5 4 (PQ (fun y=>(.tup [dN y.1,iY y.2.1,fV y.2.2])) r) (cAk y1 nK F9)
def bZf (p1:aJ) (dI:Int) (jY:Int) (oI:Bool) (G9:Int) (yO:Int) (yP:List UInt8) (zJ:Int) (oP:Int) (eB:List Int) (dR:Int) (eD:Int) (zX:List aQ):St:=⟨[(3,.ptr 3 0),(4,.ptr 4 0)],[(3,[vI dI,vI jY,vB oI,vI G9,vI yO,vS yP,vI zJ,vI oP,.tre 245,.tre 384]),(4,[vI 0,vI 0,vB false,vI 0,vI 0,vS [],vI 0,vI 0,.nil 10,.nil 8]),(241,bC (aL.mk eB dR eD)),(245,[.trc 10 (p1.kids.map aX)]),(384,[.trc 8 (zX.map eY)])]⟩
abbrev ZN (y:aJ×aL):List (Nat×List V):=[(267,[.trc 10 (y.1.kids.map aX)]),(268,[.trc 8 (y.1.sub.map eY)]),(241,bC y.2),(245,[.trd]),(246,[.trd])]
abbrev bVn:=fun p1 dI jY oI G9 yO yP zJ oP eB dR eD zX (r:aJ×aL)=>Jok Tryz.prog 12 6 (BQ ZH ZN r) (bZf p1 dI jY oI G9 yO yP zJ oP eB dR eD zX)
def cD6 (dI:Int) (jY:Int) (oI:List UInt8) (eB:List Int) (dR:Int) (eD:Int):St:=⟨[(2,.ptr 2 0),(3,.ptr 3 0)],[(2,[vI 0,vI 0,vS []]),(3,wE (aA.mk dI jY oI)),(241,bC (aL.mk eB dR eD))]⟩
abbrev bNu:=fun dI jY oI eB dR eD (r:aA×aL)=>Jok Tryz.prog 29 2 (BQ ZJ ZK r) (cD6 dI jY oI eB dR eD)
def bNv (y1:aA×aL) (oJ:List UInt8) (uY:List Int) (uD:Int) (uM:Int):St:=⟨[(0,.ptr 241 0),(2,.ptr 2 0),(3,.ptr 3 0)],[(2,[vI 0,vI 0,vS []]),(3,wE (aA.mk y1.1.kind y1.1.num oJ)),(241,bC (aL.mk uY uD uM))]⟩
abbrev aT7:=fun y1 oJ uY uD uM (r:aA×aL)=>Lok Tryz.prog 29 0 (BQ ZJ ZK r) (bNv y1 oJ uY uD uM)

theorem bNl (x:gJ) (h:∀ d∈lM x,OkD d):okGCol x:=⟨yD _ (dW h 0 1),nA _ (dW h 1 1)⟩
theorem bUo (x:eP) (h:∀ d∈mM x,OkD d):okGTable x:=⟨yD _ (dW h 0 1),mQ _ (fun y hy=>bNl y hy) (dW h 1 1)⟩
theorem cMa (x:aP) (h:∀ d∈rJ x,OkD d):okGCatalog x:=mQ _ (fun y hy=>bUo y hy) (dW h 0 1)
theorem zQ (x:aA) (h:∀ d∈aB x,OkD d):okGValue x:=⟨nA _ (dW h 0 1),nA _ (dW h 1 1),yD _ (dW h 2 1)⟩
theorem bPb (x:fI) (h:∀ d∈kV x,OkD d):okGData x:=mQ _ (fun y hy=>mQ _ (fun y hy=>zQ y hy) hy) (dW h 0 1)
theorem cM7 (x:GDb) (h:∀ d∈sG x,OkD d):okGDb x:=mQ _ (fun y hy=>bPb y hy) (dW h 0 1)
mutual
theorem bEl:∀ x:aJ,(∀ d∈aX x,OkD d)→okGPExpr x
  | ⟨a0,a1,a2,a3,a4,a5,a6,a7⟩,h0=>by
    rw [nT] at h0
    have h:∀ d∈jE ⟨a0,a1,a2,a3,a4,a5,a6,a7⟩,OkD d:=h0
    unfold okGPExpr
    exact ⟨nA _ (dW h 0 1),nA _ (dW h 1 1),trivial,zQ a3 (dW h 3 3),nA _ (dW h 6 1),nA _ (dW h 7 1),⟨by simpa using (jQ (dW h 8 1)).1,aKw a6 (jQ (dW h 8 1)).2⟩,⟨by simpa using (jQ (dW h 9 1)).1,bMx a7 (jQ (dW h 9 1)).2⟩⟩
theorem bYj:∀ x:dV,(∀ d∈jG x,OkD d)→okGPSort x
  | ⟨a0,a1⟩,h0=>by
    rw [aZn] at h0
    have h:∀ d∈aDn ⟨a0,a1⟩,OkD d:=h0
    unfold okGPSort
    exact ⟨bEl a0 (by rw [nT]; exact (dW h 0 10)),trivial⟩
theorem bRn:∀ x:aQ,(∀ d∈eY x,OkD d)→okGPlan x
  | ⟨a0,a1,a2,a3,a4,a5,a6,a7⟩,h0=>by
    rw [aM8] at h0
    have h:∀ d∈I1 ⟨a0,a1,a2,a3,a4,a5,a6,a7⟩,OkD d:=h0
    unfold okGPlan
    exact ⟨mQ _ (fun y hy=>nA _ hy) (dW h 0 1),⟨by simpa using (jQ (dW h 1 1)).1,bFb a1 (jQ (dW h 1 1)).2⟩,⟨by simpa using (jQ (dW h 2 1)).1,aKw a2 (jQ (dW h 2 1)).2⟩,⟨by simpa using (jQ (dW h 3 1)).1,bKo a3 (jQ (dW h 3 1)).2⟩,⟨by simpa using (jQ (dW h 4 1)).1,aKw a4 (jQ (dW h 4 1)).2⟩,mQ _ (fun y hy=>yD _ hy) (dW h 5 1),trivial,nA _ (dW h 7 1)⟩
theorem aKw:∀ l:List aJ,(∀ x∈l.map aX,∀ d∈x,OkD d)→okLGPExpr l
  | [],_=>by unfold okLGPExpr; trivial
  | x::l,h=>by
    unfold okLGPExpr
    exact ⟨bEl x (h _ (by simp)),aKw l fun y hy=>h y (QE _ hy)⟩
theorem bKo:∀ l:List dV,(∀ x∈l.map jG,∀ d∈x,OkD d)→okLGPSort l
  | [],_=>by unfold okLGPSort; trivial
  | x::l,h=>by
    unfold okLGPSort
    exact ⟨bYj x (h _ (by simp)),bKo l fun y hy=>h y (QE _ hy)⟩
theorem bMx:∀ l:List aQ,(∀ x∈l.map eY,∀ d∈x,OkD d)→okLGPlan l
  | [],_=>by unfold okLGPlan; trivial
  | x::l,h=>by
    unfold okLGPlan
    exact ⟨bRn x (h _ (by simp)),bMx l fun y hy=>h y (QE _ hy)⟩
theorem bFb:∀ l:List (List aJ),(∀ x∈l.map (cSl 10 aX),∀ d∈x,OkD d)→okLLGPExpr l
  | [],_=>by unfold okLLGPExpr; trivial
  | x::l,h=>by
    unfold okLLGPExpr
    have h1:∀ d∈cSl 10 aX x,OkD d:=h _ (by simp)
    exact ⟨⟨by simpa using (jQ h1).1,aKw x (jQ h1).2⟩,bFb l fun y hy=>h y (QE _ hy)⟩
end
theorem cMj (x:aL) (h:∀ d∈aXi x,OkD d):okGL1Cur x:=⟨mQ _ (fun y hy=>bEo _ hy) (dW h 0 1),nA _ (dW h 1 1),nA _ (dW h 2 1)⟩
mutual
theorem aYr:∀ x:eT,(∀ d∈rZ x,OkD d)→okGExpr x
  | ⟨a0,a1,a2,a3,a4,a5,a6,a7⟩,h0=>by
    rw [aGf] at h0
    have h:∀ d∈U3 ⟨a0,a1,a2,a3,a4,a5,a6,a7⟩,OkD d:=h0
    unfold okGExpr
    exact ⟨nA _ (dW h 0 1),nA _ (dW h 1 1),trivial,zQ a3 (dW h 3 3),yD _ (dW h 6 1),yD _ (dW h 7 1),⟨by simpa using (jQ (dW h 8 1)).1,aQu a6 (jQ (dW h 8 1)).2⟩,⟨by simpa using (jQ (dW h 9 1)).1,bM3 a7 (jQ (dW h 9 1)).2⟩⟩
theorem bNj:∀ x:pX,(∀ d∈aAs x,OkD d)→okGItem x
  | ⟨a0,a1,a2,a3⟩,h0=>by
    rw [bUt] at h0
    have h:∀ d∈aJl ⟨a0,a1,a2,a3⟩,OkD d:=h0
    unfold okGItem
    exact ⟨trivial,yD _ (dW h 1 1),aYr a2 (by rw [aGf]; exact (dW h 2 10)),yD _ (dW h 12 1)⟩
theorem cBx:∀ x:jK,(∀ d∈wP x,OkD d)→okGQuery x
  | ⟨a0,a1,a2,a3,a4,a5⟩,h0=>by
    rw [bLm] at h0
    have h:∀ d∈aFl ⟨a0,a1,a2,a3,a4,a5⟩,OkD d:=h0
    unfold okGQuery
    exact ⟨trivial,⟨by simpa using (jQ (dW h 1 1)).1,bKm a1 (jQ (dW h 1 1)).2⟩,⟨by simpa using (jQ (dW h 2 1)).1,bHt a2 (jQ (dW h 2 1)).2⟩,⟨by simpa using (jQ (dW h 3 1)).1,aQu a3 (jQ (dW h 3 1)).2⟩,⟨by simpa using (jQ (dW h 4 1)).1,bJl a4 (jQ (dW h 4 1)).2⟩,nA _ (dW h 5 1)⟩
theorem bTq:∀ x:pY,(∀ d∈aC4 x,OkD d)→okGSortKey x
  | ⟨a0,a1⟩,h0=>by
    rw [cKq] at h0
    have h:∀ d∈aI6 ⟨a0,a1⟩,OkD d:=h0
    unfold okGSortKey
    exact ⟨aYr a0 (by rw [aGf]; exact (dW h 0 10)),trivial⟩
theorem bWe:∀ x:qI,(∀ d∈aCt x,OkD d)→okGSource x
  | ⟨a0,a1,a2⟩,h0=>by
    rw [bNi] at h0
    have h:∀ d∈aI8 ⟨a0,a1,a2⟩,OkD d:=h0
    unfold okGSource
    exact ⟨yD _ (dW h 0 1),yD _ (dW h 1 1),⟨by simpa using (jQ (dW h 2 1)).1,aQu a2 (jQ (dW h 2 1)).2⟩⟩
theorem aQu:∀ l:List eT,(∀ x∈l.map rZ,∀ d∈x,OkD d)→okLGExpr l
  | [],_=>by unfold okLGExpr; trivial
  | x::l,h=>by
    unfold okLGExpr
    exact ⟨aYr x (h _ (by simp)),aQu l fun y hy=>h y (QE _ hy)⟩
theorem bKm:∀ l:List pX,(∀ x∈l.map aAs,∀ d∈x,OkD d)→okLGItem l
  | [],_=>by unfold okLGItem; trivial
  | x::l,h=>by
    unfold okLGItem
    exact ⟨bNj x (h _ (by simp)),bKm l fun y hy=>h y (QE _ hy)⟩
theorem bM3:∀ l:List jK,(∀ x∈l.map wP,∀ d∈x,OkD d)→okLGQuery l
  | [],_=>by unfold okLGQuery; trivial
  | x::l,h=>by
    unfold okLGQuery
    exact ⟨cBx x (h _ (by simp)),bM3 l fun y hy=>h y (QE _ hy)⟩
theorem bJl:∀ l:List pY,(∀ x∈l.map aC4,∀ d∈x,OkD d)→okLGSortKey l
  | [],_=>by unfold okLGSortKey; trivial
  | x::l,h=>by
    unfold okLGSortKey
    exact ⟨bTq x (h _ (by simp)),bJl l fun y hy=>h y (QE _ hy)⟩
theorem bHt:∀ l:List qI,(∀ x∈l.map aCt,∀ d∈x,OkD d)→okLGSource l
  | [],_=>by unfold okLGSource; trivial
  | x::l,h=>by
    unfold okLGSource
    exact ⟨bWe x (h _ (by simp)),bHt l fun y hy=>h y (QE _ hy)⟩
end
theorem cOy (x:lF) (h:∀ d∈aSs x,OkD d):okGForm x:=⟨trivial,trivial,trivial,trivial,nA _ (dW h 4 1),nA _ (dW h 5 1),nA _ (dW h 6 1)⟩
theorem cHf (x:nI) (h:∀ d∈vC x,OkD d):okGSortBy x:=⟨trivial,trivial⟩
theorem cOp (x:eZ) (h:∀ d∈uR x,OkD d):okGExecution x:=⟨mQ _ (fun y hy=>mQ _ (fun y hy=>mQ _ (fun y hy=>zQ y hy) hy) hy) (dW h 0 1),mQ _ (fun y hy=>mQ _ (fun y hy=>trivial) hy) (dW h 1 1),mQ _ (fun y hy=>trivial) (dW h 2 1),mQ _ (fun y hy=>cHf y hy) (dW h 3 1),trivial,trivial,nA _ (dW h 6 1)⟩
theorem cNf (x:pE) (h:∀ d∈aYg x,OkD d):okGNode x:=⟨nA _ (dW h 0 1),nA _ (dW h 1 1),trivial,zQ x.value (dW h 3 3),mQ _ (fun y hy=>zQ y hy) (dW h 6 1),mQ _ (fun y hy=>mQ _ (fun y hy=>zQ y hy) hy) (dW h 7 1)⟩
theorem cMe (x:aV) (h:∀ d∈bD x,OkD d):okGKeyed x:=⟨mQ _ (fun y hy=>zQ y hy) (dW h 0 1),mQ _ (fun y hy=>zQ y hy) (dW h 1 1)⟩
theorem de5 {l:List D} (h:WtC Tryz.prog 5 l):∃ x:Int,l=cU8 x:=(cD9 h (k:=.u8) kr)
theorem bQj {l:List D} (h:WtC Tryz.prog 22 l):∃ x:(List Int),l=(cSl 1 cU8) x:=(cJt h (e:=5) (n:=1) (c:=cU8) kr kr fun x hx=>de5 hx)
abbrev ZO (y:Bool):V:=(vB y)
theorem bS3 (p0:gJ) (c0_0:List UInt8):cO Tryz.prog 168 [bXa p0,.ptr 241 0] [(241,[vS c0_0])] ZO (fun (y:Bool)=>[(241,[vS c0_0])]) (aO8 p0 c0_0):=by
 refine aoB fun r h=>?_;rw [aO8] at h;exact rb' h
abbrev bWg (p0) (c0_0):=X5.partial_correctness p0 c0_0 (bBb p0 c0_0) (by intro cLk bAm x8 r h;refine Lok.un ?_;refine cd' h ?_ ?_<;>intro h;refine iq' h fun y1 h=>(cg' c1_ h (bS3 _ _) fun y2 h=>?_);refine cd' h ?_ ?_<;>intro h;exact rb' h;exact lb' (bAm _ _ h) (wr [] eS bS);exact rb' h)
abbrev bAm:=bWg
theorem cJ3 (p0:List gJ) (c0_0:List UInt8):cO Tryz.prog 167 [aMc p0,.fn 168 [.ptr 241 0]] [(241,[vS c0_0])] Zk (fun (y:Int)=>[(241,[vS c0_0])]) (aNn p0 c0_0):=by
 refine aoB fun r h=>?_;rw [aNn] at h;exact lq' p0 (lb' (bAm _ _ _ _ h) (wr [] eS bS))
theorem cHs (p0:eP) (p1:List UInt8):FOk Tryz.prog 121 [aFj p0,vS p1] (fun y=>(vI y)) (aK6 p0 p1):=by
 refine aoP fun r h=>?_;rw [aK6] at h;exact cg' ⟨[(241,3)],[],[],[],[],[],[],[],[]⟩ h (cJ3 _ _) fun y1 h=>(rp' h)
theorem aIw (p0:List UInt8):FOk Tryz.prog 120 [vS p0] (fun y=>(vB y)) (qZ p0):=by
 refine aoP fun r h=>?_;rw [qZ] at h;exact bU h fun y1 h=>(rp' h)
abbrev cGw (p0):=X6.partial_correctness p0 (bBj p0) (by intro cP4 bC7 x8 r h;refine Lok.un ?_;refine cd' h ?_ ?_<;>intro h;refine iq' h fun y1 h=>(cs' h (aIw _) fun y2 h=>(cK h fun y3 h=>(cK h fun y4 h=>(gc' h (cHs _ _) fun y5 h=>(cK h fun y6 h=>?_)))));refine cd' h ?_ ?_<;>intro h;exact rp' h;exact lb' (bC7 _ _ h) (wr [] eS bS);exact cs' h (aIw _) fun y7 h=>(jM p0.cols (bU h fun y8 h=>(jM p0.cols (bU h fun y9 h=>(rp' h))))))
abbrev bC7:=cGw
theorem bT5 (p0:eP):FOk Tryz.prog 71 [aFj p0] (fun y=>(vB y)) (aKp p0):=by
 refine aoP fun r h=>?_;rw [aKp] at h;exact lq' p0.cols (lb' (bC7 _ _ _ h) (wr [] eS bS))
theorem bPo (p0:eP) (c0_0:List UInt8):cO Tryz.prog 123 [aFj p0,.ptr 241 0] [(241,[vS c0_0])] ZO (fun (y:Bool)=>[(241,[vS c0_0])]) (aO9 p0 c0_0):=by
 refine aoB fun r h=>?_;rw [aO9] at h;exact rb' h
abbrev bTp (p0) (c0_0):=M9.partial_correctness p0 c0_0 (bAu p0 c0_0) (by intro cN2 bCz x8 r h;refine Lok.un ?_;refine cd' h ?_ ?_<;>intro h;refine iq' h fun y1 h=>(cg' c1_ h (bPo _ _) fun y2 h=>?_);refine cd' h ?_ ?_<;>intro h;exact rb' h;exact lb' (bCz _ _ h) (wr [] eS bS);exact rb' h)
abbrev bCz:=bTp
theorem bZc (p0:List eP) (c0_0:List UInt8):cO Tryz.prog 122 [aV1 p0,.fn 123 [.ptr 241 0]] [(241,[vS c0_0])] Zk (fun (y:Int)=>[(241,[vS c0_0])]) (aQ6 p0 c0_0):=by
 refine aoB fun r h=>?_;rw [aQ6] at h;exact lq' p0 (lb' (bCz _ _ _ _ h) (wr [] eS bS))
theorem bZ3 (p0:aP) (p1:List UInt8):FOk Tryz.prog 72 [dN p0,vS p1] (fun y=>(vI y)) (aK0 p0 p1):=by
 refine aoP fun r h=>?_;rw [aK0] at h;exact cg' ⟨[(241,3)],[],[],[],[],[],[],[],[]⟩ h (bZc _ _) fun y1 h=>(rp' h)
abbrev bXs (p0):=aAi.partial_correctness p0 (aVq p0) (by intro cKy aSg x8 r h;refine Lok.un ?_;refine cd' h ?_ ?_<;>intro h;refine iq' h fun y1 h=>(cs' h (bT5 _) fun y2 h=>(gc' h (bZ3 _ _) fun y3 h=>(cK h fun y4 h=>?_)));refine cd' h ?_ ?_<;>intro h;exact rp' h;exact lb' (aSg _ _ h) (wr [] eS bS);exact lq' p0.tables (rp' h))
abbrev aSg:=bXs
theorem bL6 (p0:aP):FOk Tryz.prog 30 [dN p0] (fun y=>(vB y)) (aGe p0):=by
 refine aoP fun r h=>?_;rw [aGe] at h;exact lq' p0.tables (lb' (aSg _ _ _ h) (wr [] eS bS))
theorem aJ4 (p0:aA):FOk Tryz.prog 135 [bO p0] (fun y=>(vB y)) (qP p0):=by
 refine aoP fun r h=>?_;rw [qP] at h;refine cd' h ?_ ?_<;>intro h;exact bU h fun y1 h=>(rp' h);refine cd' h ?_ ?_<;>intro h;exact rp' h;refine cd' h ?_ ?_<;>intro h;exact bU h fun y2 h=>(rp' h);refine cd' h ?_ ?_<;>intro h;exact cK h fun y3 h=>(bU h fun y4 h=>(rp' h));exact rp' h
theorem bW2 (p0:aA) (p1:Int):FOk Tryz.prog 82 [bO p0,vI p1] (fun y=>(vB y)) (aId p0 p1):=by
 refine aoP fun r h=>?_;rw [aId] at h;refine cs' h (aJ4 _) fun y1 h=>?_;refine aO (.g 7 true (.pick 16 11 (kB true) 15)) (gv true y1 ZO h (fun y hy hc=>jP hy (p:=true) (q:=((true&&(y1==true))&&((decide (p0.kind=0))==false))) (Eq.trans (b:=([true&&(y1==true)]:List Bool).all id) kr (dU hc rfl)) kr kr kr (fun _=>rfl) (fun hb=>tY hc hb)) fun y2 h=>oC ?_);exact bU h fun y3 h=>(rp' h)
abbrev bR8 (p1) (p0):=M3.partial_correctness p1 p0 (aSv p1 p0) (by intro cL0 bB6 x14 r h;refine Lok.un ?_;refine cd' h ?_ ?_<;>intro h;refine iq' h fun y1 h=>(iQ cI h fun y2 h=>(cs' h (bW2 _ _) fun y3 h=>?_));refine cd' h ?_ ?_<;>intro h;exact rp' h;exact lb' (bB6 _ _ h) (wr [] eS bA);exact rp' h)
abbrev bB6:=bR8
theorem cFm (p0:List aA) (p1:List Int):FOk Tryz.prog 38 [eU p0,gD p1] (fun y=>(vB y)) (aL0 p0 p1):=by
 refine aoP fun r h=>?_;rw [aL0] at h;refine lq' p0 (kS cI p1 ?_);refine cd' h ?_ ?_<;>intro h;exact rp' h;exact lq' p0 (lb' (bB6 _ _ _ _ h) (wr [] eS bA))
theorem bW9 (p0:List aA) (c0_0:List Int):cO Tryz.prog 37 [eU p0,.ptr 241 0] [(241,[gD c0_0])] ZO (fun (y:Bool)=>[(241,[gD c0_0])]) (aQy p0 c0_0):=by
 refine aoB fun r h=>?_;rw [aQy] at h;exact cs' h (cFm _ _) fun y1 h=>(rb' h)
abbrev cH1 (p0) (c0_0):=aAo.partial_correctness p0 c0_0 (aT3 p0 c0_0) (by intro cNo aTo x8 r h;refine Lok.un ?_;refine cd' h ?_ ?_<;>intro h;refine iq' h fun y1 h=>(cg' c1_ h (bW9 _ _) fun y2 h=>?_);refine cd' h ?_ ?_<;>intro h;exact rb' h;exact lb' (aTo _ _ h) (wr [] eS bS);exact rb' h)
abbrev aTo:=cH1
theorem bP4 (p0:List (List aA)) (c0_0:List Int):cO Tryz.prog 81 [.d (.sl 1 (p0.map (cSl 3 aB))),.fn 37 [.ptr 241 0]] [(241,[gD c0_0])] Zk (fun (y:Int)=>[(241,[gD c0_0])]) (aRd p0 c0_0):=by
 refine aoB fun r h=>?_;rw [aRd] at h;exact lq' p0 (lb' (aTo _ _ _ _ h) (wr [] eS bS))
theorem bOv (p0:List (List aA)) (c0_0:List Int):cO Tryz.prog 36 [.d (.sl 1 (p0.map (cSl 3 aB))),.fn 37 [.ptr 241 0]] [(241,[gD c0_0])] ZO (fun (y:Bool)=>[(241,[gD c0_0])]) (aLg p0 c0_0):=by
 refine aoB fun r h=>?_;rw [aLg] at h;exact cg' c1_ h (bP4 _ _) fun y1 h=>(rb' h)
abbrev cEy (p0):=wK.partial_correctness p0 (bAe p0) (by intro cP1 aY2 x3 x10 r h;refine Lok.un ?_;refine cd' h ?_ ?_<;>intro h;refine iq' h fun y1 h=>?_;refine aO (.bsl 17 3 1 [16]) (bM (l:=([y1.type]:List Int)) (f:=cI) (g:=cI) kr (fun _=>rfl) kr (oC ?_));exact aq' 3 cI h fun y2 h=>(lb' (aY2 _ _ _ h) (wr [(3,.old 3)] (eo 3 eS) bA));exact rw' (s':=⟨[(2,.osl 243 3 1 (x3.map cI))],[]⟩) (wr [(243,.old 2)] (eo 2 kG) bA) (rb' h))
abbrev aY2:=cEy
theorem bJv (p0:eP):cO Tryz.prog 35 [aFj p0] [] Zc Zd (aA9 p0):=by
 refine aoB fun r h=>?_;rw [aA9] at h;refine aO (.bsl 6 3 1 []) (bM (l:=([]:List Int)) (f:=cI) (g:=cI) kr (fun _=>rfl) kr (oC ?_));exact lq' p0.cols (lb' (aY2 _ _ _ _ h) (wr [(3,.old 3)] (eo 3 eS) bA))
abbrev bOb (p1) (p0):=J6.partial_correctness p1 p0 (bBi p1 p0) (by intro cN0 aTw x23 r h;refine Lok.un ?_;refine cd' h ?_ ?_<;>intro h;refine iq' h fun y3 h=>(iq' h fun y4 h=>(cg' ⟨[],[],[],[],[],[(243,33)],[],[33],[]⟩ h (bJv _) fun y5 h=>(lq' y3.rows ?_)));refine aO (.g 38 false (.call (some 42) 36 [40,41])) (aKy ⟨[(241,7)],[],[],[],[],[],[],[33],[]⟩ (p:=true) (b:=(decide (6<(ln y3.rows)))) (m:=aLg y3.rows y5) (dflt:=(default:Bool)) h kr (bOv _ _) (fun hc=>by kernel_rfl) kr kr kr (fun y=>by kernel_rfl) kr (fun hc=>(Eq.trans (b:=([true&&((decide (6<(ln y3.rows)))==false),true&&((decide (6<(ln y3.rows)))==false)]:List Bool).all id) kr (dU hc (dU hc rfl)))) (fun _=>rfl) fun y6 h=>oC ?_);refine cK h fun y7 h=>?_;refine cd' h ?_ ?_<;>intro h;exact rp' h;exact lb' (aTw _ _ h) (wr [] eS bS);exact rp' h)
abbrev aTw:=bOb
theorem bQt (p0:aP) (p1:GDb):FOk Tryz.prog 14 [dN p0,iY p1] (fun y=>(vB y)) (aFk p0 p1):=by
 refine aoP fun r h=>?_;rw [aFk] at h;refine cs' h (bL6 _) fun y1 h=>(jM p1.tables (jM p0.tables (cK h fun y2 h=>?_)));refine cd' h ?_ ?_<;>intro h;exact rp' h;exact lq' p1.tables (lb' (aTw _ _ _ _ h) (wr [] eS bS))
abbrev cIu (p1) (p2) (p3) (p0):=aB7.partial_correctness p1 p2 p3 p0 (aT2 p1 p2 p3 p0) (by intro cN7 bD9 x6 x12 r h;refine Lok.un ?_;refine cd' h ?_ ?_<;>intro h;refine iq' h fun y1 h=>(tw' 0 [.fzb 8] ?_);refine aO (.bsl 18 96 1 [17]) (bM (l:=([bV.mk p1 p2 p3 y1]:List bV)) (f:=iU) (g:=iU) kr (fun _=>rfl) kr (oC ?_));exact aq' 6 iU h fun y2 h=>(lb' (bD9 _ _ _ h) (wr [(6,.old 6)] (es (es (es (eo 6 eS)))) bA));exact rw' (s':=⟨[(5,.osl 243 96 1 (x6.map iU))],[]⟩) (wr [(243,.old 5)] (eo 5 kG) bA) (rb' h))
abbrev bD9:=cIu
theorem aPs (p0:List aJ) (p1:aP) (p2:GDb) (p3:List (List aA)):cO Tryz.prog 39 [fO p0,.rp (rJ p1),.rp (sG p2),.rp [.sl 1 (p3.map (cSl 3 aB))]] [] Zv (fun (y:List bV)=>[]) (U7 p0 p1 p2 p3):=by
 refine aoB fun r h=>?_;rw [U7] at h;refine aO (.bsl 9 96 1 []) (bM (l:=([]:List bV)) (f:=iU) (g:=iU) kr (fun _=>rfl) kr (oC ?_));exact lq' p0 (lb' (bD9 _ _ _ _ _ _ _ h) (wr [(6,.old 6)] (es (es (es (eo 6 eS)))) bA))
abbrev cCs (p0):=wY.partial_correctness p0 (aSk p0) (by intro cP0 aTg x6 x27 r h;refine Lok.un ?_;refine cd' h ?_ ?_<;>intro h;exact iq' h fun y3 h=>(aq' 6 aB h fun y4 h=>(lb' (aTg _ _ _ h) (wr [(6,.old 6)] (eo 6 eS) bA)));exact rw' (s':=⟨[(2,.osl 243 47 3 (x6.map aB))],[]⟩) (wr [(243,.old 2)] (eo 2 kG) bA) (rb' h))
abbrev aTg:=cCs
theorem cJq (p0:List aA) (p1:Int):cO Tryz.prog 184 [.osl 247 47 3 (p0.map aB),vI p1] [] Zt Zu (aRx p0 p1):=by
 exact cDg sh184 rfl rfl
abbrev bFl (p0):=aF4.mutual_partial_correctness p0 (aWg p0) (aVw p0) (by intro cO9 aUy x3 y1 x11 r h;exact Jok.un (lb' (aUy _ _ _ h) (wr [] eS bA))) (by intro cOa bEm x3 x11 r h;refine Lok.un ?_;refine cd' h ?_ ?_<;>intro h;refine iq' h fun y1 h=>(lq' y1 ?_);refine cd' h ?_ ?_<;>intro h;exact nomatch h;exact jn' (bEm _ _ _ _ h) (wr [] eS bA);exact cg' ⟨[],[],[(247,47,3)],[some 247,none],[],[(243,24)],[],[24],[]⟩ h (cJq _ _) fun y2 h=>(lq' p0 (lb' (aTg _ _ _ _ h) (wr [(6,.old 6)] (eo 6 eS) bA))))
abbrev bEm:=fun p0=>(bFl p0).1
abbrev aUy:=fun p0=>(bFl p0).2
theorem cK5 (p0:List (List aA)):cO Tryz.prog 141 [.d (.sl 1 (p0.map (cSl 3 aB)))] [] Zt Zu (aKv p0):=by
 refine aoB fun r h=>?_;rw [aKv] at h;exact lq' p0 (lb' (aUy _ _ _ _ h) (wr [] eS bA))
theorem cBc (p0:aA):FOk Tryz.prog 185 [bO p0] (fun y=>(vB y)) (aL8 p0):=by
 refine aoP fun r h=>?_;rw [aL8] at h;exact bU h fun y1 h=>(rp' h)
theorem bLz (jY r) (h:aOk jY=some r):cAb jY r:=by
 rw [aOk] at h;exact Jok.un (rp' h)
theorem vM (p0:Bool):FOk Tryz.prog 139 [vB p0] (fun y=>(bO y)) (qJ p0):=by
 refine aoP fun r h=>?_;rw [qJ] at h;refine cd' h ?_ ?_<;>intro h;exact jn' (bLz _ _ h) (wr [] eS bS);exact jn' (bLz _ _ h) (wr [] eS bS)
theorem cHh (p0:Int) (p1:Int):FOk Tryz.prog 205 [vI p0,vI p1] (fun y=>(.tup [vI y.1,vB y.2])) (aH1 p0 p1):=by
 refine aoP fun r h=>?_;rw [aH1] at h;refine bU h fun y1 h=>?_;refine aO (.g 14 false (.pick 22 17 21 (kB false))) (gv true y1 ZO h (fun y hy hc=>jP hy (p:=((true&&(y1==false))&&((decide (p1<0))==true))) (q:=true) (Eq.trans (b:=([true&&(y1==false)]:List Bool).all id) kr (dU hc rfl)) kr kr kr (fun hb=>qR hc hb) (fun _=>rfl)) fun y2 h=>oC ?_);refine cK h fun y3 h=>?_;refine cd' h ?_ ?_<;>intro h;exact rp' h;exact rp' h
theorem aU0 (p0:Int):FOk Tryz.prog 209 [vI p0] (fun y=>(bO y)) (aAq p0):=by
 refine aoP fun r h=>?_;rw [aAq] at h;exact rp' h
theorem aY6 (x8 x9 r) (h:aHc x8 x9=some r):bNr x8 x9 r:=by
 rw [aHc] at h;refine Jok.un ?_;refine cd' h ?_ ?_<;>intro h;exact rp' h;exact cs' h (aU0 _) fun y5 h=>(rp' h)
theorem bYk (p0:Int) (p1:Int) (p2:Int):FOk Tryz.prog 208 [vI p0,vI p1,vI p2] (fun y=>(.tup [bO y.1,vI y.2])) (aMt p0 p1 p2):=by
 refine aoP fun r h=>?_;rw [aMt] at h;refine cd' h ?_ ?_<;>intro h;exact rp' h;refine cd' h ?_ ?_<;>intro h;refine aO (.bin 17 .rem 15 16) (vs Zk h (fun y hy=>aP8 (k:=.i64) (a:=p1) (b:=p2) hy kr kr kr) fun y1 h=>oC ?_);exact cs' h (aU0 _) fun y2 h=>(rp' h);refine bU h fun y3 h=>?_;refine cd' h ?_ ?_<;>intro h;exact rp' h;refine aO (.bin 29 .quo 27 28) (vs Zk h (fun y hy=>aS7 (k:=.i64) (a:=p1) (b:=p2) hy kr kr kr) fun y4 h=>oC ?_);exact cs' h (aU0 _) fun y5 h=>(rp' h)
theorem bWt (p0:Int) (p1:Int):FOk Tryz.prog 207 [vI p0,vI p1] (fun y=>(.tup [vI y.1,vB y.2])) (aKl p0 p1):=by
 refine aoP fun r h=>?_;rw [aKl] at h;refine aO (.g 12 true (.bin 15 .quo 13 14)) (gv true (!decide (p0=0)) Zk h (fun y hy hc=>aS7 (k:=.i64) (a:=(QA .i64 (p0 * p1))) (b:=p0) hy (Eq.trans (b:=([true&&((!decide (p0=0))==true),true&&((!decide (p0=0))==true)]:List Bool).all id) kr (dU hc (dU hc rfl))) kr kr) fun y1 h=>oC ?_);refine aO (.g 18 false (.pick 24 21 23 (kB false))) (gv (true&&((!decide (p0=0))==true)) (!decide (y1=p1)) ZO h (fun y hy hc=>jP hy (p:=(((true&&((!decide (p0=0))==true))&&((!decide (y1=p1))==false))&&((decide (p0=(-1)))==true))) (q:=true) (Eq.trans (b:=([(true&&((!decide (p0=0))==true))&&((!decide (y1=p1))==false)]:List Bool).all id) kr (dU hc rfl)) kr kr kr (fun hb=>qR hc hb) (fun _=>rfl)) fun y2 h=>oC ?_);refine aO (.g 12 true (.pick 25 18 (kB true) 24)) (gv true (!decide (p0=0)) ZO h (fun y hy hc=>jP hy (p:=true) (q:=((true&&((!decide (p0=0))==true))&&((!decide (y1=p1))==false))) (Eq.trans (b:=([true&&((!decide (p0=0))==true)]:List Bool).all id) kr (dU hc rfl)) kr kr kr (fun _=>rfl) (fun hb=>tY hc hb)) fun y3 h=>oC ?_);refine bU h fun y4 h=>?_;refine cd' h ?_ ?_<;>intro h;exact rp' h;exact rp' h
theorem cIa (p0:Int) (p1:Int):FOk Tryz.prog 206 [vI p0,vI p1] (fun y=>(.tup [vI y.1,vB y.2])) (aEz p0 p1):=by
 refine aoP fun r h=>?_;rw [aEz] at h;refine bU h fun y1 h=>?_;refine aO (.g 14 false (.pick 22 17 21 (kB false))) (gv true y1 ZO h (fun y hy hc=>jP hy (p:=((true&&(y1==false))&&((decide (0<p1))==true))) (q:=true) (Eq.trans (b:=([true&&(y1==false)]:List Bool).all id) kr (dU hc rfl)) kr kr kr (fun hb=>qR hc hb) (fun _=>rfl)) fun y2 h=>oC ?_);refine cK h fun y3 h=>?_;refine cd' h ?_ ?_<;>intro h;exact rp' h;exact rp' h
theorem bJb (p0:Int) (p1:Int) (p2:Int):FOk Tryz.prog 177 [vI p0,vI p1,vI p2] (fun y=>(.tup [bO y.1,vI y.2])) (aH8 p0 p1 p2):=by
 refine aoP fun r h=>?_;rw [aH8] at h;refine cd' h ?_ ?_<;>intro h;exact cs' h (cHh _ _) fun y1 h=>(jn' (aY6 _ _ _ h) (wr [] eS bS));refine cd' h ?_ ?_<;>intro h;exact cs' h (cIa _ _) fun y2 h=>(jn' (aY6 _ _ _ h) (wr [] eS bS));refine cd' h ?_ ?_<;>intro h;exact cs' h (bWt _ _) fun y3 h=>(jn' (aY6 _ _ _ h) (wr [] eS bS));exact cs' h (bYk _ _ _) fun y4 h=>(rp' h)
theorem bJ7 (p0:Int):FOk Tryz.prog 161 [vI p0] (fun y=>(vB y)) (aKr p0):=by
 refine aoP fun r h=>?_;rw [aKr] at h;exact rp' h
theorem bGl (p0:Int) (p1:Int):FOk Tryz.prog 112 [vI p0,vI p1] (fun y=>(vI y)) (aGx p0 p1):=by
 refine aoP fun r h=>?_;rw [aGx] at h;refine cs' h (bJ7 _) fun y1 h=>(cs' h (bJ7 _) fun y2 h=>?_);refine cd' h ?_ ?_<;>intro h;refine cd' h ?_ ?_<;>intro h;exact rp' h;exact rp' h;refine cd' h ?_ ?_<;>intro h;exact rp' h;refine cd' h ?_ ?_<;>intro h;exact rp' h;refine cd' h ?_ ?_<;>intro h;exact rp' h;exact rp' h
theorem bFd (p0:List UInt8):FOk Tryz.prog 162 [vS p0] (fun y=>(vB y)) (aJp p0):=by
 refine aoP fun r h=>?_;rw [aJp] at h;exact rp' h
theorem cFr (p0:List UInt8) (p1:List UInt8):FOk Tryz.prog 113 [vS p0,vS p1] (fun y=>(vI y)) (aJv p0 p1):=by
 refine aoP fun r h=>?_;rw [aJv] at h;refine cs' h (bFd _) fun y1 h=>(cs' h (bFd _) fun y2 h=>?_);refine cd' h ?_ ?_<;>intro h;refine cd' h ?_ ?_<;>intro h;exact rp' h;exact rp' h;refine cd' h ?_ ?_<;>intro h;exact rp' h;refine cd' h ?_ ?_<;>intro h;exact rp' h;refine cd' h ?_ ?_<;>intro h;exact rp' h;exact rp' h
abbrev bVs (p0):=G7.partial_correctness p0 (bCi p0) (by intro cLd bDj x8 r h;refine Lok.un ?_;refine cd' h ?_ ?_<;>intro h;refine iQ cI h fun y1 h=>?_;refine cd' h ?_ ?_<;>intro h;exact rp' h;exact lb' (bDj _ _ h) (wr [] eS bA);exact rp' h)
abbrev bDj:=bVs
theorem bPp (p0:List Int):FOk Tryz.prog 111 [gD p0] (fun y=>(vI y)) (aIf p0):=by
 refine aoP fun r h=>?_;rw [aIf] at h;exact kS cI p0 (lb' (bDj _ _ _ h) (wr [] eS bA))
theorem aSb (p0:aA) (p1:aA):FOk Tryz.prog 63 [bO p0,bO p1] (fun y=>(vI y)) (Y5 p0 p1):=by
 refine aoP fun r h=>?_;rw [Y5] at h;refine cs' h (bGl _ _) fun y1 h=>(cs' h (bGl _ _) fun y2 h=>(cs' h (cFr _ _) fun y3 h=>?_));refine dO (.bsl 20 3 1 [9,14,19]) (uF (l:=([y1,y2,y3]:List Int)) (f:=cI) (g:=cI) kr (fun _=>rfl) (dC ?_));exact cs' h (bPp _) fun y4 h=>(rp' h)
theorem cEi (p0:Int) (p1:aA) (p2:aA):FOk Tryz.prog 180 [vI p0,bO p1,bO p2] (fun y=>(bO y)) (aD6 p0 p1 p2):=by
 refine aoP fun r h=>?_;rw [aD6] at h;refine cs' h (aSb _ _) fun y1 h=>?_;refine cd' h ?_ ?_<;>intro h;exact cs' h (vM _) fun y2 h=>(rp' h);refine cd' h ?_ ?_<;>intro h;exact cs' h (vM _) fun y3 h=>(rp' h);refine cd' h ?_ ?_<;>intro h;exact cs' h (vM _) fun y4 h=>(rp' h);refine cd' h ?_ ?_<;>intro h;exact cs' h (vM _) fun y5 h=>(rp' h);refine cd' h ?_ ?_<;>intro h;exact cs' h (vM _) fun y6 h=>(rp' h);exact cs' h (vM _) fun y7 h=>(rp' h)
theorem bHm (p0:Int) (p1:aA):FOk Tryz.prog 179 [vI p0,bO p1] (fun y=>(vB y)) (aAg p0 p1):=by
 refine aoP fun r h=>?_;rw [aAg] at h;refine cK h fun y1 h=>?_;refine cd' h ?_ ?_<;>intro h;exact rp' h;refine cd' h ?_ ?_<;>intro h;exact rp' h;exact rp' h
abbrev cJw (p0) (p1) (p2):=M0.partial_correctness p0 p1 p2 (bC8 p0 p1 p2) (by intro cLo bAv x15 r h;refine Lok.un ?_;refine cd' h ?_ ?_<;>intro h;refine iq' h fun y1 h=>(bU h fun y2 h=>?_);refine cd' h ?_ ?_<;>intro h;exact rp' h;exact lb' (bAv _ _ h) (wr [(13,.old 13)] (es (es (es (es (eo 13 eS))))) bS);refine cs' h (vM _) fun y3 h=>(cK h fun y4 h=>?_);refine cd' h ?_ ?_<;>intro h;exact rp' h;refine cK h fun y5 h=>?_;refine cd' h ?_ ?_<;>intro h;exact rp' h;exact cs' h (vM _) fun y6 h=>(rp' h))
abbrev bAv:=cJw
theorem cE9 (p0:Int) (p1:aA) (p2:aA):FOk Tryz.prog 178 [vI p0,bO p1,bO p2] (fun y=>(.tup [bO y.1,vI y.2])) (aIi p0 p1 p2):=by
 refine aoP fun r h=>?_;rw [aIi] at h;refine aO (.bsl 13 47 3 [11,12]) (bM (l:=([p1,p2]:List aA)) (f:=aB) (g:=aB) kr (fun _=>rfl) kr (oC ?_));refine lq' ([p1,p2]:List aA) ?_;exact lb' (bAv _ _ _ _ _ h) (wr [(13,.old 13)] (es (es (es (es (eo 13 eS))))) bS)
theorem bR0 (p0:List UInt8):FOk Tryz.prog 181 [vS p0] (fun y=>(bO y)) (aQz p0):=by
 refine aoP fun r h=>?_;rw [aQz] at h;exact rp' h
abbrev ZP (y:List UInt8):V:=(vS y)
theorem aGd (p0:Int) (p1:aA) (p2:aA):FOk Tryz.prog 138 [vI p0,bO p1,bO p2] (fun y=>(.tup [bO y.1,vI y.2])) (tH p0 p1 p2):=by
 refine aoP fun r h=>?_;rw [tH] at h;refine cK h fun y1 h=>(gc' h (aJ4 _) fun y2 h=>(cK h fun y3 h=>(gc' h (aJ4 _) fun y4 h=>(cK h fun y5 h=>?_))));refine cd' h ?_ ?_<;>intro h;exact rp' h;refine cd' h ?_ ?_<;>intro h;exact cs' h (cE9 _ _ _) fun y6 h=>(rp' h);refine cK h fun y7 h=>(cs' h (bHm _ _) fun y8 h=>(gc' h (bHm _ _) fun y9 h=>(cK h fun y10 h=>?_)));refine aO (.g 52 false (.pick 58 55 57 (kB false))) (gv true y10 ZO h (fun y hy hc=>jP hy (p:=((true&&(y10==false))&&((decide (p0≤8))==true))) (q:=true) (Eq.trans (b:=([true&&(y10==false)]:List Bool).all id) kr (dU hc rfl)) kr kr kr (fun hb=>qR hc hb) (fun _=>rfl)) fun y11 h=>oC ?_);refine aO (.g 52 false (.pick 65 59 64 (kB false))) (gv true y10 ZO h (fun y hy hc=>jP hy (p:=((true&&(y10==false))&&(y11==true))) (q:=true) (Eq.trans (b:=([true&&(y10==false)]:List Bool).all id) kr (dU hc rfl)) kr kr kr (fun hb=>qR hc hb) (fun _=>rfl)) fun y12 h=>oC ?_);refine cK h fun y13 h=>?_;refine cd' h ?_ ?_<;>intro h;exact rp' h;refine cd' h ?_ ?_<;>intro h;exact rp' h;refine cd' h ?_ ?_<;>intro h;exact cs' h (cEi _ _ _) fun y14 h=>(rp' h);refine cd' h ?_ ?_<;>intro h;exact cs' h (bJb _ _ _) fun y15 h=>(rp' h);refine cd' h ?_ ?_<;>intro h;exact rp' h;refine aO (.bin 102 .add 99 101) (vs ZP h (fun y hy=>yJ (a:=p1.text) (b:=p2.text) hy kr kr kr) fun y16 h=>oC ?_);exact cs' h (bR0 _) fun y17 h=>(rp' h)
theorem bT9 (p0:aA) (p1:aA) (p2:aA):FOk Tryz.prog 182 [bO p0,bO p1,bO p2] (fun y=>(.tup [bO y.1,vI y.2])) (aIc p0 p1 p2):=by
 refine aoP fun r h=>?_;rw [aIc] at h;refine cs' h (aGd _ _ _) fun y1 h=>?_;refine cd' h ?_ ?_<;>intro h;exact rp' h;refine cs' h (aGd _ _ _) fun y2 h=>?_;refine cd' h ?_ ?_<;>intro h;exact rp' h;exact cs' h (aGd _ _ _) fun y3 h=>(rp' h)
abbrev cFn (p1) (p0):=V3.partial_correctness p1 p0 (aSw p1 p0) (by intro cMk aZe x14 jC jA iZ r h;refine Lok.un ?_;refine cd' h ?_ ?_<;>intro h;refine iq' h fun y2 h=>(cs' h (aGd _ _ _) fun y3 h=>?_);refine cd' h ?_ ?_<;>intro h;exact rp' h;refine cs' h (aGd _ _ _) fun y4 h=>?_;refine cd' h ?_ ?_<;>intro h;exact rp' h;exact lb' (aZe _ _ _ _ _ h) (wr [] eS bS);exact rp' h)
abbrev aZe:=cFn
theorem bGb (p0:aA) (p1:List aA):FOk Tryz.prog 183 [bO p0,eU p1] (fun y=>(.tup [bO y.1,vI y.2])) (aGb p0 p1):=by
 refine aoP fun r h=>?_;rw [aGb] at h;exact cs' h (vM _) fun y1 h=>(lq' p1 (lb' (aZe _ _ _ _ _ _ _ h) (wr [] eS bS)))
abbrev cFu (p0):=F6.partial_correctness p0 (aWt p0) (by intro cM4 aTj x4 x42 r h;refine Lok.un ?_;refine cd' h ?_ ?_<;>intro h;refine iq' h fun y8 h=>(lq' y8 ?_);refine cd' h ?_ ?_<;>intro h;exact rp' h;refine iq' h fun y9 h=>?_;refine aO (.bsl 54 47 3 [53]) (bM (l:=([y9]:List aA)) (f:=aB) (g:=aB) kr (fun _=>rfl) kr (oC ?_));exact aq' 4 aB h fun y10 h=>(lb' (aTj _ _ _ h) (wr [(4,.old 4)] (es (es (eo 4 eS))) bS));exact iq' h fun y11 h=>(cs' h (bGb _ _) fun y12 h=>(rp' h)))
abbrev aTj:=cFu
theorem bZe (p0:pE):FOk Tryz.prog 140 [bFv p0] (fun y=>(.tup [bO y.1,vI y.2])) (aF1 p0):=by
 refine aoP fun r h=>?_;rw [aF1] at h;refine cd' h ?_ ?_<;>intro h;exact iq' h fun y1 h=>(iq' h fun y2 h=>(iq' h fun y3 h=>(cs' h (bT9 _ _ _) fun y4 h=>(rp' h))));refine cd' h ?_ ?_<;>intro h;refine iq' h fun y5 h=>?_;refine dO (.slc 34 3 33 (some (kI 1)) none none) (dL (m:=iR p0.kids 1 (ln p0.kids)) (v':=fun y=>(eU y)) h rfl rfl (fun y hy=>J5 (l:=p0.kids) (f:=aB) (lo:=1) (hi:=(ln p0.kids)) hy kr kr rfl ⟨kr,.i64,kr⟩) fun y6 h=>dC ?_);exact cs' h (bGb _ _) fun y7 h=>(rp' h);refine aO (.bsl 38 47 3 []) (bM (l:=([]:List aA)) (f:=aB) (g:=aB) kr (fun _=>rfl) kr (oC ?_));exact lq' p0.rows (lb' (aTj _ _ _ _ h) (wr [(4,.old 4)] (es (es (eo 4 eS))) bS))
theorem bIy (p0:Int) (p1:aA):FOk Tryz.prog 137 [vI p0,bO p1] (fun y=>(.tup [bO y.1,vI y.2])) (aC3 p0 p1):=by
 refine aoP fun r h=>?_;rw [aC3] at h;refine cs' h (aJ4 _) fun y1 h=>?_;refine aO (.g 9 false (.pick 15 12 14 (kB false))) (gv true (!y1) ZO h (fun y hy hc=>jP hy (p:=((true&&((!y1)==false))&&((!decide (p0=15))==true))) (q:=true) (Eq.trans (b:=([true&&((!y1)==false)]:List Bool).all id) kr (dU hc rfl)) kr kr kr (fun hb=>qR hc hb) (fun _=>rfl)) fun y2 h=>oC ?_);refine cK h fun y3 h=>?_;refine cd' h ?_ ?_<;>intro h;exact rp' h;refine cd' h ?_ ?_<;>intro h;exact rp' h;refine bU h fun y4 h=>?_;refine cd' h ?_ ?_<;>intro h;exact cs' h (vM _) fun y5 h=>(rp' h);refine bU h fun y6 h=>?_;refine cd' h ?_ ?_<;>intro h;exact cs' h (bJb _ _ _) fun y7 h=>(rp' h);exact rp' h
theorem cC3 (p0:pE):FOk Tryz.prog 84 [bFv p0] (fun y=>(.tup [bO y.1,vI y.2])) (aJf p0):=by
 refine aoP fun r h=>?_;rw [aJf] at h;refine cd' h ?_ ?_<;>intro h;exact rp' h;refine cd' h ?_ ?_<;>intro h;exact iq' h fun y1 h=>(cs' h (bIy _ _) fun y2 h=>(rp' h));refine cd' h ?_ ?_<;>intro h;exact iq' h fun y3 h=>(iq' h fun y4 h=>(cs' h (aGd _ _ _) fun y5 h=>(rp' h)));refine cd' h ?_ ?_<;>intro h;exact iq' h fun y6 h=>(cs' h (vM _) fun y7 h=>(rp' h));refine cd' h ?_ ?_<;>intro h;exact lq' p0.rows (cs' h (vM _) fun y8 h=>(rp' h));refine cs' h (bZe _) fun y9 h=>?_;refine cd' h ?_ ?_<;>intro h;exact rp' h;refine cd' h ?_ ?_<;>intro h;exact cs' h (bIy _ _) fun y10 h=>(rp' h);exact rp' h
theorem bVo (p0:aA):FOk Tryz.prog 202 [bO p0] (fun y=>(vB y)) (aCo p0):=by
 refine aoP fun r h=>?_;rw [aCo] at h;refine cs' h (aJ4 _) fun y1 h=>?_;refine aO (.g 5 true (.pick 13 9 (kB true) 12)) (gv true y1 ZO h (fun y hy hc=>jP hy (p:=true) (q:=((true&&(y1==true))&&((!decide (p0.kind=1))==false))) (Eq.trans (b:=([true&&(y1==true)]:List Bool).all id) kr (dU hc rfl)) kr kr kr (fun _=>rfl) (fun hb=>tY hc hb)) fun y2 h=>oC ?_);exact bU h fun y3 h=>(bU h fun y4 h=>(rp' h))
theorem bJ8 (p0:eT):FOk Tryz.prog 172 [bM4 p0] (fun y=>(.tup [aTl y.1,vB y.2])) (K4 p0):=by
 refine aoP fun r h=>?_;rw [K4] at h;refine cd' h ?_ ?_<;>intro h;exact cs' h (bVo _) fun y1 h=>(rp' h);refine cd' h ?_ ?_<;>intro h;refine cs' h (aIw _) fun y2 h=>(gc' h (aIw _) fun y3 h=>?_);refine aO (.g 18 true (.pick 26 22 (kB true) 25)) (gv true y2 ZO h (fun y hy hc=>jP hy (p:=true) (q:=((true&&(y2==true))&&((decide (p0.qual=[]))==false))) (Eq.trans (b:=([true&&(y2==true)]:List Bool).all id) kr (dU hc rfl)) kr kr kr (fun _=>rfl) (fun hb=>tY hc hb)) fun y4 h=>oC ?_);exact bU h fun y5 h=>(rp' h);refine cd' h ?_ ?_<;>intro h;exact cK h fun y6 h=>(rp' h);refine cd' h ?_ ?_<;>intro h;exact bU h fun y7 h=>(rp' h);refine cd' h ?_ ?_<;>intro h;exact rp' h;refine cd' h ?_ ?_<;>intro h;exact rp' h;refine cd' h ?_ ?_<;>intro h;exact rp' h;refine cd' h ?_ ?_<;>intro h;exact rp' h;refine cd' h ?_ ?_<;>intro h;exact rp' h;exact rp' h
theorem bGt (p0 S9 r) (h:aHh p0 S9=some r):bWr p0 S9 r:=by
 rw [aHh] at h;exact Jok.un (cs' h (bJ8 _) fun y1 h=>(rp' h))
theorem bTd (p0:Int):FOk Tryz.prog 136 [vI p0] (fun y=>(.tup [aTl y.1,vB y.2])) (aNm p0):=by
 refine aoP fun r h=>?_;rw [aNm] at h;refine aO (.bld 6 [bL,bL,mV,bL,bL,nC,nC,nC,.nil 10,.nil 6] [(0,1,5),(1,1,kI 15),(7,1,.c (.d (.s (bs [120]))))]) (nW (c:=[vI p0,vI 15,vB false,vI 0,vI 0,vS [],vS [],vS [120],.nil 10,.nil 6]) kr kr rfl (oC ?_));refine cd' h ?_ ?_<;>intro h;exact jn' (bGt _ _ _ h) (wr [] eS bS);exact jn' (bGt _ _ _ h) (wr [] eS bS)
theorem cF8 (p0:Int) (p1:Int) (p2:Int):FOk Tryz.prog 83 [vI p0,vI p1,vI p2] (fun y=>(vB y)) (aL1 p0 p1 p2):=by
 refine aoP fun r h=>?_;rw [aL1] at h;exact cs' h (bTd _) fun y1 h=>(bU h fun y2 h=>(bU h fun y3 h=>(bU h fun y4 h=>(rp' h))))
theorem bGx (p0:List aA):cO Tryz.prog 60 [eU p0] [] (fun (y:List aA)=>(.tre 261)) (fun (y:List aA)=>[(261,[.trc 3 (y.map aB)])]) (aD3 p0):=by
 refine aoB fun r h=>?_;rw [aD3] at h;refine aO (.eqn 4 false 3) (bJp (sz:=3) (l:=p0) (f:=aB) h kr kr (fun hl h=>oC ?_) fun hl h=>?_);refine aOv ?_;refine aO (.bsl 5 47 3 []) (pU (l:=([]:List aA)) (f:=aB) (g:=aB) [] kr (fun _=>rfl) kr rfl (oC ?_));refine aO (.app 7 47 3 32 5 6) (bHa (l:=([]:List aA)) (m:=p0) (f:=aB) [5] h kr kr kr (fun _=>rfl) kr (fun _=>rfl) fun y1 h=>oC ?_);exact rw' (s':=⟨[(2,.tre 261)],[(261,[.trc 3 (y1.map aB)])]⟩) (tw [.rn [(7,261)]] (wr [] eS bS)) (rb' h)
 subst hl
 refine ⟨oC ?_,oC ?_⟩
 replace h:((appG 32 ([]:List aA) ([]:List aA))>>=fun (y2:List aA)=>some y2:Option (List aA))=some r:=h
 refine aOv ?_;refine aO (.bsl 5 47 3 []) (pU (l:=([]:List aA)) (f:=aB) (g:=aB) [] kr (fun _=>rfl) kr rfl (oC ?_));refine aO (.app 7 47 3 32 5 6) (bHa (l:=([]:List aA)) (m:=([]:List aA)) (f:=aB) [5] h kr kr kr (fun _=>rfl) kr (fun _=>rfl) fun y2 h=>oC ?_);exact rw' (s':=⟨[(2,.tre 261)],[(261,[.trc 3 (y2.map aB)])]⟩) (tw [.rn [(7,261)]] (wr [] eS bS)) (rb' h);exact bGc (rw' (s':=⟨[(2,.tre 261)],[(261,[.trc 3 (([]:List aA).map aB)])]⟩) (tw [.ne 2 0 261] (wr [] eS bS)) (rb' h))
abbrev cEg (p0) (p1):=Q7.partial_correctness p0 p1 (aXh p0 p1) (by intro cOo bE0 x13 r h;refine Lok.un ?_;refine cd' h ?_ ?_<;>intro h;refine iq' h fun y1 h=>(iq' h fun y2 h=>?_);refine cd' h ?_ ?_<;>intro h;exact rp' h;exact lb' (bE0 _ _ h) (wr [] eS bA);exact rp' h)
abbrev bE0:=cEg
theorem bVj (p0:List aA) (p1:List aA):FOk Tryz.prog 146 [eU p0,eU p1] (fun y=>(vB y)) (aKz p0 p1):=by
 refine aoP fun r h=>?_;rw [aKz] at h;refine lq' p0 (lq' p1 ?_);refine cd' h ?_ ?_<;>intro h;exact rp' h;exact lq' p0 (lb' (bE0 _ _ _ _ h) (wr [] eS bA))
theorem cCh (p0:List aA) (p1:List aA):FOk Tryz.prog 145 [eU p0,.rp [.sl 3 (p1.map aB)]] (fun y=>(vB y)) (aJh p0 p1):=by
 refine aoP fun r h=>?_;rw [aJh] at h;exact cs' h (bVj _ _) fun y1 h=>(rp' h)
abbrev cJ2 (p0) (p1):=Y4.partial_correctness p0 p1 (bDc p0 p1) (by intro cNh aTr x8 r h;refine Lok.un ?_;refine cd' h ?_ ?_<;>intro h;refine iq' h fun y1 h=>?_;refine aO (.callv (some 16) 11 [15]) (aAz (m:=aJh y1 p1.c0) (caps:=[.rp [.sl 3 (p1.c0.map aB)]]) (args:=[eU y1,.rp [.sl 3 (p1.c0.map aB)]]) (v':=(fun y=>(vB y))) h kr kr (cCh _ _) kr kr (fun _=>rfl) fun y2 h=>oC ?_);refine cd' h ?_ ?_<;>intro h;exact rp' h;exact lb' (aTr _ _ h) (wr [] eS bA);exact rp' h)
abbrev aTr:=cJ2
theorem cIv (p0:List (List aA)) (p1:uU):FOk Tryz.prog 81 [.d (.sl 1 (p0.map (cSl 3 aB))),.d (aMx p1)] (fun y=>(vI y)) (aOt p0 p1):=by
 refine aoP fun r h=>?_;rw [aOt] at h;exact lq' p0 (lb' (aTr _ _ _ _ h) (wr [] eS bA))
theorem bO9 (p0:List (List aA)) (p1:uU):FOk Tryz.prog 36 [.d (.sl 1 (p0.map (cSl 3 aB))),.d (aMx p1)] (fun y=>(vB y)) (aLo p0 p1):=by
 refine aoP fun r h=>?_;rw [aLo] at h;exact cs' h (cIv _ _) fun y1 h=>(rp' h)
abbrev bEs (p0):=aDx.mutual_partial_correctness p0 (aXw p0) (aVr p0) (by intro cNa aUz x9 rH r h;exact Jok.un (lb' (aUz _ _ _ h) (tw [.rn [(367,354)]] (wr [] eS bS)))) (by intro cO4 aWs x9 bX r h;refine Lok.un ?_;refine cd' h ?_ ?_<;>intro h;refine iq' h fun y1 h=>(tw' 0 [.fzb 5] (cg' ⟨[],[],[],[],[],[],[],[],[354]⟩ h (bO9 _ _).toB fun y2 h=>?_));refine cd' h ?_ ?_<;>intro h;refine cg' ⟨[],[],[],[],[],[],[(261,315)],[],[]⟩ h (bGx _) fun y3 h=>?_;refine aO (.bsl 20 45 1 [19]) (pU (l:=([y3]:List (List aA))) (f:=(cSl 3 aB)) (g:=(cSl 3 aB)) [315] kr (fun _=>rfl) kr rfl (oC ?_));refine aO (.app 21 45 1 24 17 20) (aDg (l:=bX) (m:=([y3]:List (List aA))) (f:=(cSl 3 aB)) [354] [20] h kr kr kr kr (fun _=>rfl) fun y4 h=>oC ?_);exact jn' (aWs _ _ _ h) (tw [.rn [(21,367)]] (wr [] eS bS));exact jn' (aWs _ _ _ h) (tw [.rn [(354,367)]] (wr [] eS bS));exact rw' (s':=⟨[(2,.tre 261)],[(261,[.trc 1 (bX.map (cSl 3 aB))])]⟩) (tw [.rn [(354,261)]] (wr [] eS bS)) (rb' h))
abbrev aWs:=fun p0=>(bEs p0).1
abbrev aUz:=fun p0=>(bEs p0).2
theorem cH9 (p0:List (List aA)):cO Tryz.prog 87 [.d (.sl 1 (p0.map (cSl 3 aB)))] [] Zr Zs (aCw p0):=by
 refine aoB fun r h=>?_;rw [aCw] at h;refine aO (.bsl 6 45 1 []) (pU (l:=([]:List (List aA))) (f:=(cSl 3 aB)) (g:=(cSl 3 aB)) [] kr (fun _=>rfl) kr rfl (oC ?_));exact lq' p0 (lb' (aUz _ _ _ _ h) (tw [.rn [(6,354)]] (wr [] eS bS)))
theorem bLp (E8 r) (h:aLw E8=some r):cKv E8 r:=by
 rw [aLw] at h;exact Jok.un (rw' (s':=⟨[(2,.tre 261),(3,vI 0)],[(261,[.trc 1 (E8.map (cSl 3 aB))])]⟩) (tw [.rn [(390,261)]] (wr [] eS bS)) (rb' h))
theorem bI9 (p0 sS r) (h:xX p0 sS=some r):bQh p0 sS r:=by
 rw [xX] at h;refine Jok.un ?_;refine aO (.g 57 true (.len 61 60)) (gp true (decide (0≤p0.limit)) (vI (ln sS)) (fun hc=>bW8 (n:=388) (l:=sS.map (cSl 3 aB)) (L:=sS.length) (Eq.trans (b:=([true&&((decide (0≤p0.limit))==true)]:List Bool).all id) kr (dU hc rfl)) kr kr (QH ..)) (oC ?_));refine bU h fun y7 h=>?_;refine cd' h ?_ ?_<;>intro h;refine aO (.slc 67 1 64 none (some 66) none) (bOw (l:=sS) (f:=(cSl 3 aB)) (k:=p0.limit) 388 h kr kr kr ⟨kr,.i64,kr⟩ kr (fun _=>rfl) fun y8 h=>oC ?_);exact jn' (bLp _ _ h) (tw [.rn [(67,390)]] (wr [] eS bS));exact jn' (bLp _ _ h) (tw [.rn [(388,390)]] (wr [] eS bS))
abbrev bJy (p2) (p0) (p1):=aBc.mutual_partial_correctness p2 p0 p1 (fun x12=>aZq p2 x12 p0 p1) (aXe p2 p0 p1) (by intro cN9 aSq x12 x8 r h;refine Jok.un ?_;refine cd' h ?_ ?_<;>intro h;exact rp' h;exact lb' (aSq _ _ h) (wr [] eS bS)) (by intro cNl aZo x12 r h;refine Lok.un ?_;refine cd' h ?_ ?_<;>intro h;refine iq' h fun y1 h=>(iq' h fun y2 h=>(iq' h fun y3 h=>(cs' h (aSb _ _) fun y4 h=>?_)));refine cd' h ?_ ?_<;>intro h;exact jn' (aZo _ _ _ h) (wr [] eS bS);exact jn' (aZo _ _ _ h) (wr [] eS bS);exact rp' h)
abbrev aZo:=fun p2 x12 p0 p1=>(bJy p2 p0 p1).1 x12
abbrev aSq:=fun p2 p0 p1=>(bJy p2 p0 p1).2
theorem aNw (p0:aV) (p1:aV) (p2:eZ):FOk Tryz.prog 144 [kE p0,kE p1,.rp (uR p2)] (fun y=>(vI y)) (vX p0 p1 p2):=by
 refine aoP fun r h=>?_;rw [vX] at h;exact lq' p2.order (lb' (aSq _ _ _ _ _ h) (wr [] eS bS))
abbrev bN1 (p1) (p2) (p3):=aA8.mutual_partial_correctness p1 p2 p3 (bDl p1 p2 p3) (aZk p1 p2 p3) (by intro bY4 cLz aMi bDp x8 x9 bZ r h;refine Lok.un ?_;refine dO (.g 21 true (.ia 25 2 23 24)) (pG (p:=true) (b:=(decide (p1<x9))) (m:=idx bZ x9) (dflt:=default) (v':=fun y=>(.trp 244 2 (x9).toNat 0)) h kr rfl rfl (fun y hy hc=>fB (n:=244) (l:=bZ) (f:=bD) (k:=.i64) (i:=x9) hy kr (Eq.trans (b:=([true&&((decide (p1<x9))==true),true&&((decide (p1<x9))==true)]:List Bool).all id) kr (dU hc (dU hc rfl))) kr kr) fun y2 h=>dC ?_);refine dO (.g 21 true (.ld 26 2 true 25)) (pG (p:=true) (b:=(decide (p1<x9))) (m:=idx bZ x9) (dflt:=default) (v':=fun y=>(kE y)) h kr rfl rfl (fun y hy hc=>iL (off:=0) (n:=244) (sz:=2) (l:=bZ) (f:=bD) (g:=bD) (j:=x9) hy (fun _=>rfl) kr (Eq.trans (b:=([true&&((decide (p1<x9))==true)]:List Bool).all id) kr (dU hc rfl)) kr kr) fun y3 h=>dC ?_);refine dO (.g 21 true (.ia 30 2 27 29)) (pG (p:=true) (b:=(decide (p1<x9))) (m:=idx bZ (QA .i64 (x9 - 1))) (dflt:=default) (v':=fun y=>(.trp 244 2 ((QA .i64 (x9 - 1))).toNat 0)) h kr rfl rfl (fun y hy hc=>fB (n:=244) (l:=bZ) (f:=bD) (k:=.i64) (i:=(QA .i64 (x9 - 1))) hy kr (Eq.trans (b:=([true&&((decide (p1<x9))==true),true&&((decide (p1<x9))==true)]:List Bool).all id) kr (dU hc (dU hc rfl))) kr kr) fun y4 h=>dC ?_);refine dO (.g 21 true (.ld 31 2 true 30)) (pG (p:=true) (b:=(decide (p1<x9))) (m:=idx bZ (QA .i64 (x9 - 1))) (dflt:=default) (v':=fun y=>(kE y)) h kr rfl rfl (fun y hy hc=>iL (off:=0) (n:=244) (sz:=2) (l:=bZ) (f:=bD) (g:=bD) (j:=(QA .i64 (x9 - 1))) hy (fun _=>rfl) kr (Eq.trans (b:=([true&&((decide (p1<x9))==true)]:List Bool).all id) kr (dU hc rfl)) kr kr) fun y5 h=>dC ?_);refine dO (.g 21 true (.callv (some 32) 22 [26,31])) (bEt (caps:=[.rp (uR p3.c0)]) (p:=true) (b:=(decide (p1<x9))) (m:=vX y3 y5 p3.c0) (dflt:=default) (args:=[kE y3,kE y5,.rp (uR p3.c0)]) (v':=(fun y=>(vI y))) h kr kr kr (aNw _ _ _) (fun hc=>by kernel_rfl) kr (fun _=>rfl) (fun hc=>(Eq.trans (b:=([true&&((decide (p1<x9))==true),true&&((decide (p1<x9))==true),true&&((decide (p1<x9))==true)]:List Bool).all id) kr (dU hc (dU hc (dU hc rfl))))) fun y6 h=>dC ?_);refine bU h fun y7 h=>?_;refine cd' h ?_ ?_<;>intro h;refine dO (.ia 45 2 42 44) (dL (m:=idx bZ (QA .i64 (x9 - 1))) (v':=fun y=>(.trp 244 2 ((QA .i64 (x9 - 1))).toNat 0)) h rfl rfl (fun y hy=>fB (n:=244) (l:=bZ) (f:=bD) (k:=.i64) (i:=(QA .i64 (x9 - 1))) hy kr kr kr kr) fun y8 h=>dC ?_);refine dO (.ld 46 2 true 45) (dL (m:=idx bZ (QA .i64 (x9 - 1))) (v':=fun y=>(kE y)) h rfl rfl (fun y hy=>iL (off:=0) (n:=244) (sz:=2) (l:=bZ) (f:=bD) (g:=bD) (j:=(QA .i64 (x9 - 1))) hy (fun _=>rfl) kr kr kr kr) fun y9 h=>dC ?_);refine dO (.ia 49 2 47 48) (dL (m:=idx bZ x9) (v':=fun y=>(.trp 244 2 (x9).toNat 0)) h rfl rfl (fun y hy=>fB (n:=244) (l:=bZ) (f:=bD) (k:=.i64) (i:=x9) hy kr kr kr kr) fun y10 h=>dC ?_);refine dO (.ld 50 2 true 49) (dL (m:=idx bZ x9) (v':=fun y=>(kE y)) h rfl rfl (fun y hy=>iL (off:=0) (n:=244) (sz:=2) (l:=bZ) (f:=bD) (g:=bD) (j:=x9) hy (fun _=>rfl) kr kr kr kr) fun y11 h=>dC ?_);refine dO (.ia 51 2 37 38) (dL (m:=idx bZ x9) (v':=fun y=>(.trp 244 2 (x9).toNat 0)) h rfl rfl (fun y hy=>fB (n:=244) (l:=bZ) (f:=bD) (k:=.i64) (i:=x9) hy kr kr kr kr) fun y12 h=>dC ?_);refine dO (.st 2 51 46) (qE (n:=244) (sz:=2) (l:=bZ) (f:=bD) (j:=x9) (v:=y9) h kr kr (fun _=>rfl) kr kr (fun _=>rfl) fun y13 h=>dC ?_);refine dO (.ia 52 2 39 41) (dL (m:=idx y13 (QA .i64 (x9 - 1))) (v':=fun y=>(.trp 244 2 ((QA .i64 (x9 - 1))).toNat 0)) h rfl rfl (fun y hy=>fB (n:=244) (l:=y13) (f:=bD) (k:=.i64) (i:=(QA .i64 (x9 - 1))) hy kr kr kr kr) fun y14 h=>dC ?_);refine dO (.st 2 52 50) (qE (n:=244) (sz:=2) (l:=y13) (f:=bD) (j:=(QA .i64 (x9 - 1))) (v:=y11) h kr kr (fun _=>rfl) kr kr (fun _=>rfl) fun y15 h=>dC ?_);exact lb' (aMi _ _ _ _ h) (wr [] eS bS);exact lb' (bDp _ _ _ h) (wr [] eS bS)) (by intro bY4 aMi x8 aU r h;refine Lok.un ?_;refine cd' h ?_ ?_<;>intro h;exact lb' (aMi _ _ _ _ h) (wr [] eS bS);exact rb' h)
abbrev aMi:=fun p1 p2 p3=>(bN1 p1 p2 p3).1
abbrev bDp:=fun p1 p2 p3=>(bN1 p1 p2 p3).2
theorem bN2 (p0:List aV) (p1:Int) (p2:Int) (p3:fD):cO Tryz.prog 210 [.tre 244,vI p1,vI p2,.d (mE p3)] [(244,[.trs 2 (p0.map bD)])] Zp Zq (aEf p0 p1 p2 p3):=by
 refine aoB fun r h=>?_;rw [aEf] at h;exact lb' (bDp _ _ _ _ _ _ h) (wr [] eS bS)
abbrev bQ3 (p1) (p2) (p3):=aI2.partial_correctness p1 p2 p3 (aSf p1 p2 p3) (by intro cN6 aV0 x10 aU r h;refine Lok.un ?_;refine cd' h ?_ ?_<;>intro h;refine dO (.ia 28 2 24 27) (dL (m:=idx aU (QA .i64 (p2+x10))) (v':=fun y=>(.trp 244 2 ((QA .i64 (p2+x10))).toNat 0)) h rfl rfl (fun y hy=>fB (n:=244) (l:=aU) (f:=bD) (k:=.i64) (i:=(QA .i64 (p2+x10))) hy kr kr kr kr) fun y1 h=>dC ?_);refine dO (.ld 29 2 true 28) (dL (m:=idx aU (QA .i64 (p2+x10))) (v':=fun y=>(kE y)) h rfl rfl (fun y hy=>iL (off:=0) (n:=244) (sz:=2) (l:=aU) (f:=bD) (g:=bD) (j:=(QA .i64 (p2+x10))) hy (fun _=>rfl) kr kr kr kr) fun y2 h=>dC ?_);refine dO (.ia 34 2 30 33) (dL (m:=idx aU (QA .i64 (p1+x10))) (v':=fun y=>(.trp 244 2 ((QA .i64 (p1+x10))).toNat 0)) h rfl rfl (fun y hy=>fB (n:=244) (l:=aU) (f:=bD) (k:=.i64) (i:=(QA .i64 (p1+x10))) hy kr kr kr kr) fun y3 h=>dC ?_);refine dO (.ld 35 2 true 34) (dL (m:=idx aU (QA .i64 (p1+x10))) (v':=fun y=>(kE y)) h rfl rfl (fun y hy=>iL (off:=0) (n:=244) (sz:=2) (l:=aU) (f:=bD) (g:=bD) (j:=(QA .i64 (p1+x10))) hy (fun _=>rfl) kr kr kr kr) fun y4 h=>dC ?_);refine dO (.ia 36 2 16 19) (dL (m:=idx aU (QA .i64 (p1+x10))) (v':=fun y=>(.trp 244 2 ((QA .i64 (p1+x10))).toNat 0)) h rfl rfl (fun y hy=>fB (n:=244) (l:=aU) (f:=bD) (k:=.i64) (i:=(QA .i64 (p1+x10))) hy kr kr kr kr) fun y5 h=>dC ?_);refine dO (.st 2 36 29) (qE (n:=244) (sz:=2) (l:=aU) (f:=bD) (j:=(QA .i64 (p1+x10))) (v:=y2) h kr kr (fun _=>rfl) kr kr (fun _=>rfl) fun y6 h=>dC ?_);refine dO (.ia 37 2 20 23) (dL (m:=idx y6 (QA .i64 (p2+x10))) (v':=fun y=>(.trp 244 2 ((QA .i64 (p2+x10))).toNat 0)) h rfl rfl (fun y hy=>fB (n:=244) (l:=y6) (f:=bD) (k:=.i64) (i:=(QA .i64 (p2+x10))) hy kr kr kr kr) fun y7 h=>dC ?_);refine dO (.st 2 37 35) (qE (n:=244) (sz:=2) (l:=y6) (f:=bD) (j:=(QA .i64 (p2+x10))) (v:=y4) h kr kr (fun _=>rfl) kr kr (fun _=>rfl) fun y8 h=>dC ?_);exact lb' (aV0 _ _ _ h) (wr [] eS bS);exact rb' h)
abbrev aV0:=bQ3
theorem aZi (p0:List aV) (p1:Int) (p2:Int) (p3:Int) (p4:fD):cO Tryz.prog 216 [.tre 244,vI p1,vI p2,vI p3,.d (mE p4)] [(244,[.trs 2 (p0.map bD)])] Zp Zq (aJ7 p0 p1 p2 p3 p4):=by
 refine aoB fun r h=>?_;rw [aJ7] at h;exact lb' (aV0 _ _ _ _ _ _ h) (wr [] eS bS)
abbrev bX6 (p2) (p4):=aFn.partial_correctness p2 p4 (bDx p2 p4) (by intro cLq aMk x10 x11 aU r h;refine Lok.un ?_;refine cd' h ?_ ?_<;>intro h;refine cd' h ?_ ?_<;>intro h;exact cg' ⟨[(244,244)],[],[],[],[],[],[],[],[]⟩ h (aZi _ _ _ _ _) fun y1 h=>(lb' (aMk _ _ _ _ h) (wr [] eS bS));exact cg' ⟨[(244,244)],[],[],[],[],[],[],[],[]⟩ h (aZi _ _ _ _ _) fun y2 h=>(lb' (aMk _ _ _ _ h) (wr [] eS bS));exact cg' ⟨[(244,244)],[],[],[],[],[],[],[],[]⟩ h (aZi _ _ _ _ _) fun y3 h=>(rb' h))
abbrev aMk:=bX6
theorem bS6 (p0:List aV) (p1:Int) (p2:Int) (p3:Int) (p4:fD):cO Tryz.prog 215 [.tre 244,vI p1,vI p2,vI p3,.d (mE p4)] [(244,[.trs 2 (p0.map bD)])] Zp Zq (aVf p0 p1 p2 p3 p4):=by
 refine aoB fun r h=>?_;rw [aVf] at h;exact lb' (aMk _ _ _ _ _ _ h) (wr [] eS bS)
abbrev bOl (x10):=aHr.partial_correctness x10 (bA3 x10) (by intro cN5 bD4 x13 aU r h;refine Lok.un ?_;refine cd' h ?_ ?_<;>intro h;refine dO (.ia 69 2 66 68) (dL (m:=idx aU (QA .i64 (x13+1))) (v':=fun y=>(.trp 244 2 ((QA .i64 (x13+1))).toNat 0)) h rfl rfl (fun y hy=>fB (n:=244) (l:=aU) (f:=bD) (k:=.i64) (i:=(QA .i64 (x13+1))) hy kr kr kr kr) fun y14 h=>dC ?_);refine dO (.ld 70 2 true 69) (dL (m:=idx aU (QA .i64 (x13+1))) (v':=fun y=>(kE y)) h rfl rfl (fun y hy=>iL (off:=0) (n:=244) (sz:=2) (l:=aU) (f:=bD) (g:=bD) (j:=(QA .i64 (x13+1))) hy (fun _=>rfl) kr kr kr kr) fun y15 h=>dC ?_);refine dO (.ia 73 2 71 72) (dL (m:=idx aU x13) (v':=fun y=>(.trp 244 2 (x13).toNat 0)) h rfl rfl (fun y hy=>fB (n:=244) (l:=aU) (f:=bD) (k:=.i64) (i:=x13) hy kr kr kr kr) fun y16 h=>dC ?_);refine dO (.ld 74 2 true 73) (dL (m:=idx aU x13) (v':=fun y=>(kE y)) h rfl rfl (fun y hy=>iL (off:=0) (n:=244) (sz:=2) (l:=aU) (f:=bD) (g:=bD) (j:=x13) hy (fun _=>rfl) kr kr kr kr) fun y17 h=>dC ?_);refine dO (.ia 75 2 61 62) (dL (m:=idx aU x13) (v':=fun y=>(.trp 244 2 (x13).toNat 0)) h rfl rfl (fun y hy=>fB (n:=244) (l:=aU) (f:=bD) (k:=.i64) (i:=x13) hy kr kr kr kr) fun y18 h=>dC ?_);refine dO (.st 2 75 70) (qE (n:=244) (sz:=2) (l:=aU) (f:=bD) (j:=x13) (v:=y15) h kr kr (fun _=>rfl) kr kr (fun _=>rfl) fun y19 h=>dC ?_);refine dO (.ia 76 2 63 65) (dL (m:=idx y19 (QA .i64 (x13+1))) (v':=fun y=>(.trp 244 2 ((QA .i64 (x13+1))).toNat 0)) h rfl rfl (fun y hy=>fB (n:=244) (l:=y19) (f:=bD) (k:=.i64) (i:=(QA .i64 (x13+1))) hy kr kr kr kr) fun y20 h=>dC ?_);refine dO (.st 2 76 74) (qE (n:=244) (sz:=2) (l:=y19) (f:=bD) (j:=(QA .i64 (x13+1))) (v:=y17) h kr kr (fun _=>rfl) kr kr (fun _=>rfl) fun y21 h=>dC ?_);exact lb' (bD4 _ _ _ h) (wr [] eS bS);exact rb' h)
abbrev bD4:=bOl
abbrev cEo (p1) (p4) (p0):=aGl.partial_correctness p1 p4 p0 (bAx p1 p4 p0) (by intro cN4 aNl x10 x11 r h;refine Lok.un ?_;refine cd' h ?_ ?_<;>intro h;refine dO (.ia 43 2 41 42) (dL (m:=idx p0 (QA .i64 (QB (QA .u64 (QA .i64 (x10+x11))) (2 ^ 1)))) (v':=fun y=>(.trp 244 2 ((QA .i64 (QB (QA .u64 (QA .i64 (x10+x11))) (2 ^ 1)))).toNat 0)) h rfl rfl (fun y hy=>fB (n:=244) (l:=p0) (f:=bD) (k:=.i64) (i:=(QA .i64 (QB (QA .u64 (QA .i64 (x10+x11))) (2 ^ 1)))) hy kr kr kr kr) fun y1 h=>dC ?_);refine dO (.ld 44 2 true 43) (dL (m:=idx p0 (QA .i64 (QB (QA .u64 (QA .i64 (x10+x11))) (2 ^ 1)))) (v':=fun y=>(kE y)) h rfl rfl (fun y hy=>iL (off:=0) (n:=244) (sz:=2) (l:=p0) (f:=bD) (g:=bD) (j:=(QA .i64 (QB (QA .u64 (QA .i64 (x10+x11))) (2 ^ 1)))) hy (fun _=>rfl) kr kr kr kr) fun y2 h=>dC ?_);refine dO (.ia 47 2 45 46) (dL (m:=idx p0 p1) (v':=fun y=>(.trp 244 2 (p1).toNat 0)) h rfl rfl (fun y hy=>fB (n:=244) (l:=p0) (f:=bD) (k:=.i64) (i:=p1) hy kr kr kr kr) fun y3 h=>dC ?_);refine dO (.ld 48 2 true 47) (dL (m:=idx p0 p1) (v':=fun y=>(kE y)) h rfl rfl (fun y hy=>iL (off:=0) (n:=244) (sz:=2) (l:=p0) (f:=bD) (g:=bD) (j:=p1) hy (fun _=>rfl) kr kr kr kr) fun y4 h=>dC ?_);refine dO (.callv (some 49) 40 [44,48]) (aGc (m:=vX y2 y4 p4.c0) (caps:=[.rp (uR p4.c0)]) (args:=[kE y2,kE y4,.rp (uR p4.c0)]) (v':=(fun y=>(vI y))) h kr kr (aNw _ _ _) kr kr (fun _=>rfl) fun y5 h=>dC ?_);refine cd' h ?_ ?_<;>intro h;exact lb' (aNl _ _ _ h) (wr [] eS bS);exact lb' (aNl _ _ _ h) (wr [] eS bS);exact lb' (bD4 _ _ _ _ h) (wr [] eS bS))
abbrev aNl:=cEo
abbrev cAo (x14):=aJj.partial_correctness x14 (bA2 x14) (by intro cN3 aT0 x17 eF r h;refine Lok.un ?_;refine cd' h ?_ ?_<;>intro h;refine dO (.ia 121 2 118 120) (dL (m:=idx eF (QA .i64 (x17 - 1))) (v':=fun y=>(.trp 244 2 ((QA .i64 (x17 - 1))).toNat 0)) h rfl rfl (fun y hy=>fB (n:=244) (l:=eF) (f:=bD) (k:=.i64) (i:=(QA .i64 (x17 - 1))) hy kr kr kr kr) fun y22 h=>dC ?_);refine dO (.ld 122 2 true 121) (dL (m:=idx eF (QA .i64 (x17 - 1))) (v':=fun y=>(kE y)) h rfl rfl (fun y hy=>iL (off:=0) (n:=244) (sz:=2) (l:=eF) (f:=bD) (g:=bD) (j:=(QA .i64 (x17 - 1))) hy (fun _=>rfl) kr kr kr kr) fun y23 h=>dC ?_);refine dO (.ia 125 2 123 124) (dL (m:=idx eF x17) (v':=fun y=>(.trp 244 2 (x17).toNat 0)) h rfl rfl (fun y hy=>fB (n:=244) (l:=eF) (f:=bD) (k:=.i64) (i:=x17) hy kr kr kr kr) fun y24 h=>dC ?_);refine dO (.ld 126 2 true 125) (dL (m:=idx eF x17) (v':=fun y=>(kE y)) h rfl rfl (fun y hy=>iL (off:=0) (n:=244) (sz:=2) (l:=eF) (f:=bD) (g:=bD) (j:=x17) hy (fun _=>rfl) kr kr kr kr) fun y25 h=>dC ?_);refine dO (.ia 127 2 113 114) (dL (m:=idx eF x17) (v':=fun y=>(.trp 244 2 (x17).toNat 0)) h rfl rfl (fun y hy=>fB (n:=244) (l:=eF) (f:=bD) (k:=.i64) (i:=x17) hy kr kr kr kr) fun y26 h=>dC ?_);refine dO (.st 2 127 122) (qE (n:=244) (sz:=2) (l:=eF) (f:=bD) (j:=x17) (v:=y23) h kr kr (fun _=>rfl) kr kr (fun _=>rfl) fun y27 h=>dC ?_);refine dO (.ia 128 2 115 117) (dL (m:=idx y27 (QA .i64 (x17 - 1))) (v':=fun y=>(.trp 244 2 ((QA .i64 (x17 - 1))).toNat 0)) h rfl rfl (fun y hy=>fB (n:=244) (l:=y27) (f:=bD) (k:=.i64) (i:=(QA .i64 (x17 - 1))) hy kr kr kr kr) fun y28 h=>dC ?_);refine dO (.st 2 128 126) (qE (n:=244) (sz:=2) (l:=y27) (f:=bD) (j:=(QA .i64 (x17 - 1))) (v:=y25) h kr kr (fun _=>rfl) kr kr (fun _=>rfl) fun y29 h=>dC ?_);exact lb' (aT0 _ _ _ h) (wr [] eS bS);exact rb' h)
abbrev aT0:=cAo
abbrev bZ4 (p2) (p4) (p0):=aEg.partial_correctness p2 p4 p0 (aYz p2 p4 p0) (by intro cLg aR8 x14 x15 r h;refine Lok.un ?_;refine cd' h ?_ ?_<;>intro h;refine dO (.ia 95 2 93 94) (dL (m:=idx p0 p2) (v':=fun y=>(.trp 244 2 (p2).toNat 0)) h rfl rfl (fun y hy=>fB (n:=244) (l:=p0) (f:=bD) (k:=.i64) (i:=p2) hy kr kr kr kr) fun y6 h=>dC ?_);refine dO (.ld 96 2 true 95) (dL (m:=idx p0 p2) (v':=fun y=>(kE y)) h rfl rfl (fun y hy=>iL (off:=0) (n:=244) (sz:=2) (l:=p0) (f:=bD) (g:=bD) (j:=p2) hy (fun _=>rfl) kr kr kr kr) fun y7 h=>dC ?_);refine dO (.ia 99 2 97 98) (dL (m:=idx p0 (QA .i64 (QB (QA .u64 (QA .i64 (x14+x15))) (2 ^ 1)))) (v':=fun y=>(.trp 244 2 ((QA .i64 (QB (QA .u64 (QA .i64 (x14+x15))) (2 ^ 1)))).toNat 0)) h rfl rfl (fun y hy=>fB (n:=244) (l:=p0) (f:=bD) (k:=.i64) (i:=(QA .i64 (QB (QA .u64 (QA .i64 (x14+x15))) (2 ^ 1)))) hy kr kr kr kr) fun y8 h=>dC ?_);refine dO (.ld 100 2 true 99) (dL (m:=idx p0 (QA .i64 (QB (QA .u64 (QA .i64 (x14+x15))) (2 ^ 1)))) (v':=fun y=>(kE y)) h rfl rfl (fun y hy=>iL (off:=0) (n:=244) (sz:=2) (l:=p0) (f:=bD) (g:=bD) (j:=(QA .i64 (QB (QA .u64 (QA .i64 (x14+x15))) (2 ^ 1)))) hy (fun _=>rfl) kr kr kr kr) fun y9 h=>dC ?_);refine dO (.callv (some 101) 92 [96,100]) (aGc (m:=vX y7 y9 p4.c0) (caps:=[.rp (uR p4.c0)]) (args:=[kE y7,kE y9,.rp (uR p4.c0)]) (v':=(fun y=>(vI y))) h kr kr (aNw _ _ _) kr kr (fun _=>rfl) fun y10 h=>dC ?_);refine cd' h ?_ ?_<;>intro h;exact lb' (aR8 _ _ _ h) (wr [] eS bS);exact lb' (aR8 _ _ _ h) (wr [] eS bS);exact lb' (aT0 _ _ _ _ h) (wr [] eS bS))
abbrev aR8:=bZ4
abbrev aJk (p4):=aHt.mutual_partial_correctness p4 (fun p3=>bAj p3 p4) (fun p0 p1 p2 p3 r=>bF Tryz.prog 211 [.tre 244,vI p1,vI p2,vI p3,.d (mE p4)] [(244,[.trs 2 (p0.map bD)])] (BQ Zp Zq r)) (fun p1 p2 p3=>aTy p1 p2 p3 p4) (fun p1 p2 p3=>bD6 p1 p2 p3 p4) (fun p1 p3=>aU4 p1 p3 p4) (by intro cHe aFy p3 p1 p2 aY iM r h;refine Jok.un (bU h fun y41 h=>?_);refine cd' h ?_ ?_<;>intro h;exact cg' ⟨[(244,244)],[],[],[],[],[],[],[],[]⟩ h (aFy _ _ _ _) fun y42 h=>(rb' h);exact rb' h) (by intro cMi aTn p0 p1 p2 p3 r h;refine ao' ?_;refine cd' h ?_ ?_<;>intro h;exact lb' (aNl _ _ _ _ _ _ h) (wr [] eS bS);refine cd' h ?_ ?_<;>intro h;exact lb' (aR8 _ _ _ _ _ _ h) (wr [] eS bS);refine cd' h ?_ ?_<;>intro h;exact jn' (aTn _ _ _ _ _ _ _ h) (wr [] eS bS);exact jn' (aTn _ _ _ _ _ _ _ h) (wr [] eS bS)) (by intro bR5 aM6 p1 p2 p3 p0 x20 x21 r h;refine Jok.un ?_;exact lb' (aM6 _ _ _ _ _ _ _ h) (wr [] eS bS)) (by intro bR5 cNx aM6 aVc p1 p2 p3 p0 aY eG r h;refine Lok.un ?_;refine cd' h ?_ ?_<;>intro h;refine dO (.ia 163 2 159 162) (dL (m:=idx p0 (QA .i64 ((QA .i64 ((QA .i64 ((QA .i64 (QB (QA .u64 (QA .i64 (p1+p3))) (2 ^ 1)))+p2)) - 1)) - (QA .i64 (QB (QA .u64 (QA .i64 (aY+eG))) (2 ^ 1)))))) (v':=fun y=>(.trp 244 2 ((QA .i64 ((QA .i64 ((QA .i64 ((QA .i64 (QB (QA .u64 (QA .i64 (p1+p3))) (2 ^ 1)))+p2)) - 1)) - (QA .i64 (QB (QA .u64 (QA .i64 (aY+eG))) (2 ^ 1)))))).toNat 0)) h rfl rfl (fun y hy=>fB (n:=244) (l:=p0) (f:=bD) (k:=.i64) (i:=(QA .i64 ((QA .i64 ((QA .i64 ((QA .i64 (QB (QA .u64 (QA .i64 (p1+p3))) (2 ^ 1)))+p2)) - 1)) - (QA .i64 (QB (QA .u64 (QA .i64 (aY+eG))) (2 ^ 1)))))) hy kr kr kr kr) fun y30 h=>dC ?_);refine dO (.ld 164 2 true 163) (dL (m:=idx p0 (QA .i64 ((QA .i64 ((QA .i64 ((QA .i64 (QB (QA .u64 (QA .i64 (p1+p3))) (2 ^ 1)))+p2)) - 1)) - (QA .i64 (QB (QA .u64 (QA .i64 (aY+eG))) (2 ^ 1)))))) (v':=fun y=>(kE y)) h rfl rfl (fun y hy=>iL (off:=0) (n:=244) (sz:=2) (l:=p0) (f:=bD) (g:=bD) (j:=(QA .i64 ((QA .i64 ((QA .i64 ((QA .i64 (QB (QA .u64 (QA .i64 (p1+p3))) (2 ^ 1)))+p2)) - 1)) - (QA .i64 (QB (QA .u64 (QA .i64 (aY+eG))) (2 ^ 1)))))) hy (fun _=>rfl) kr kr kr kr) fun y31 h=>dC ?_);refine dO (.ia 167 2 165 166) (dL (m:=idx p0 (QA .i64 (QB (QA .u64 (QA .i64 (aY+eG))) (2 ^ 1)))) (v':=fun y=>(.trp 244 2 ((QA .i64 (QB (QA .u64 (QA .i64 (aY+eG))) (2 ^ 1)))).toNat 0)) h rfl rfl (fun y hy=>fB (n:=244) (l:=p0) (f:=bD) (k:=.i64) (i:=(QA .i64 (QB (QA .u64 (QA .i64 (aY+eG))) (2 ^ 1)))) hy kr kr kr kr) fun y32 h=>dC ?_);refine dO (.ld 168 2 true 167) (dL (m:=idx p0 (QA .i64 (QB (QA .u64 (QA .i64 (aY+eG))) (2 ^ 1)))) (v':=fun y=>(kE y)) h rfl rfl (fun y hy=>iL (off:=0) (n:=244) (sz:=2) (l:=p0) (f:=bD) (g:=bD) (j:=(QA .i64 (QB (QA .u64 (QA .i64 (aY+eG))) (2 ^ 1)))) hy (fun _=>rfl) kr kr kr kr) fun y33 h=>dC ?_);refine dO (.callv (some 169) 158 [164,168]) (aGc (m:=vX y31 y33 p4.c0) (caps:=[.rp (uR p4.c0)]) (args:=[kE y31,kE y33,.rp (uR p4.c0)]) (v':=(fun y=>(vI y))) h kr kr (aNw _ _ _) kr kr (fun _=>rfl) fun y34 h=>dC ?_);refine cd' h ?_ ?_<;>intro h;exact lb' (aM6 _ _ _ _ _ _ _ h) (wr [] eS bS);exact lb' (aM6 _ _ _ _ _ _ _ h) (wr [] eS bS);refine bU h fun y35 h=>?_;refine cd' h ?_ ?_<;>intro h;refine cg' ⟨[(244,244)],[],[],[],[],[],[],[],[]⟩ h (bS6 _ _ _ _ _) fun y36 h=>?_;exact jn' (aVc _ _ _ _ _ _ h) (wr [] eS bS);exact jn' (aVc _ _ _ _ _ _ h) (wr [] eS bS)) (by intro cNt cHe aVp aFy p1 p3 aY p2 iV r h;refine Jok.un (bU h fun y38 h=>?_);refine cd' h ?_ ?_<;>intro h;exact cg' ⟨[(244,244)],[],[],[],[],[],[],[],[]⟩ h (aFy _ _ _ _) fun y39 h=>(jn' (aVp _ _ _ _ _ _ h) (wr [] eS bS));exact jn' (aVp _ _ _ _ _ _ h) (wr [] eS bS))
abbrev aVp:=fun p3 p4=>(aJk p4).1 p3
theorem aFy (p0:List aV) (p1:Int) (p2:Int) (p3:Int) (p4:fD):cO Tryz.prog 211 [.tre 244,vI p1,vI p2,vI p3,.d (mE p4)] [(244,[.trs 2 (p0.map bD)])] Zp Zq (aF5 p0 p1 p2 p3 p4):=fun r h=>(aJk p4).2.1 p0 p1 p2 p3 r h
abbrev aTn:=fun p1 p2 p3 p4=>(aJk p4).2.2.1 p1 p2 p3
abbrev aM6:=fun p1 p2 p3 p4=>(aJk p4).2.2.2.1 p1 p2 p3
abbrev aVc:=fun p1 p3 p4=>(aJk p4).2.2.2.2 p1 p3
abbrev aZm (p1) (p2):=aJq.mutual_partial_correctness p1 p2 (aTx p1 p2) (aSi p1 p2) (aYn p1 p2) (by intro cMw bAb x6 jD r h;exact Jok.un (lb' (bAb _ _ _ h) (wr [] eS bS))) (by intro bZb aRt x6 iP r h;refine Lok.un ?_;refine cd' h ?_ ?_<;>intro h;exact lb' (aRt _ _ _ _ _ h) (wr [] eS bS);exact rb' h) (by intro cNy bZb aTp aRt x6 fU gI gY r h;refine Lok.un ?_;refine cd' h ?_ ?_<;>intro h;exact cg' ⟨[(244,244)],[],[],[],[],[],[],[],[]⟩ h (aFy _ _ _ _ _) fun y7 h=>(lb' (aRt _ _ _ _ _ h) (wr [] eS bS));refine cd' h ?_ ?_<;>intro h;exact cg' ⟨[(244,244)],[],[],[],[],[],[],[],[]⟩ h (aFy _ _ _ _ _) fun y8 h=>(jn' (aTp _ _ _ h) (wr [] eS bS));exact jn' (aTp _ _ _ h) (wr [] eS bS))
abbrev aTp:=fun p1 p2=>(aZm p1 p2).1
abbrev bAb:=fun p1 p2=>(aZm p1 p2).2.1
abbrev aRt:=fun p1 p2=>(aZm p1 p2).2.2
abbrev bYr (p1) (p2):=aF7.partial_correctness p1 p2 (bAt p1 p2) (by intro cP6 aUw x7 x8 aU r h;refine Lok.un ?_;refine cd' h ?_ ?_<;>intro h;exact cg' ⟨[(244,244)],[],[],[],[],[],[],[],[]⟩ h (bN2 _ _ _ _) fun y1 h=>(lb' (aUw _ _ _ _ h) (wr [] eS bS));exact cg' ⟨[(244,244)],[],[],[],[],[],[],[],[]⟩ h (bN2 _ _ _ _) fun y2 h=>(lb' (bAb _ _ _ _ _ h) (wr [] eS bS)))
abbrev aUw:=bYr
theorem bS9 (p0:List aV) (p1:Int) (p2:fD):cO Tryz.prog 186 [.tre 244,vI p1,.d (mE p2)] [(244,[.trs 2 (p0.map bD)])] Zp Zq (aMs p0 p1 p2):=by
 refine aoB fun r h=>?_;rw [aMs] at h;exact lb' (aUw _ _ _ _ _ _ h) (wr [] eS bS)
theorem cEw (p0:List aV) (p1:fD):cO Tryz.prog 143 [.tre 244,.d (mE p1)] [(244,[.trs 2 (p0.map bD)])] Zp Zq (aJe p0 p1):=by
 refine aoB fun r h=>?_;rw [aJe] at h;refine aO (.len 6 5) (ps (vI (ln p0)) (aA4 (n:=244) (l:=p0.map bD) (L:=p0.length) kr kr (QH ..)) (oC ?_));exact cg' ⟨[(244,244)],[],[],[],[],[],[],[],[]⟩ h (bS9 _ _ _) fun y1 h=>(rb' h)
abbrev bYh (y2):=R9.partial_correctness y2 (aV2 y2) (by intro cOl bB2 x14 x60 r h;refine Lok.un ?_;refine cd' h ?_ ?_<;>intro h;refine aO (.ia 62 2 58 60) (vs (fun (y:aV)=>(.trp 388 2 (x60).toNat 0)) h (fun y hy=>fB (n:=388) (l:=y2) (f:=bD) (k:=.i64) (i:=x60) hy kr kr kr kr) fun y7 h=>oC ?_);refine aO (.ld 63 2 true 62) (vs (fun (y:aV)=>(kE y)) h (fun y hy=>iL (off:=0) (n:=388) (sz:=2) (l:=y2) (f:=bD) (g:=bD) (j:=x60) hy (fun _=>rfl) kr kr kr kr) fun y8 h=>oC ?_);refine aO (.bsl 67 45 1 [66]) (bM (l:=([y8.row]:List (List aA))) (f:=(cSl 3 aB)) (g:=(cSl 3 aB)) kr (fun _=>rfl) kr (oC ?_));exact aq' 14 (cSl 3 aB) h fun y9 h=>(lb' (bB2 _ _ _ h) (wr [(14,.old 14)] (eo 14 eS) bS));exact rw' (s':=⟨[(4,.osl 243 45 1 (x14.map (cSl 3 aB))),(5,vI 0)],[]⟩) (wr [(243,.old 4)] (eo 4 eS) bA) (rb' h))
abbrev bB2:=bYh
abbrev lH:=aDp.mutual_partial_correctness aSa aVs (fun p0 p1 p2 p3 p4 r=>bF Tryz.prog 40 [eU p0,.rp (rJ p1),.rp (sG p2),.rp [.sl 1 (p3.map (cSl 3 aB))],.rp (jE p4)] [] (PQ (fun y=>(.tup [bO y.1,vI y.2])) r)) (fun p0 p1 p2 p3 r=>bF Tryz.prog 41 [dN p0,iY p1,.d (.sl 1 (p2.map (cSl 3 aB))),iX p3] [] (PQ (fun y=>(.tup [bO y.1,vI y.2])) r)) aWy aUe (fun p0 p1 p2 p3 r=>bF Tryz.prog 15 [dN p0,iY p1,.d (.sl 1 (p2.map (cSl 3 aB))),fV p3] [] (BQ Zl Zm r)) aVv aXo aZh (fun p0 r=>bF Tryz.prog 44 [zZ p0] [] (BQ Zl Zm r)) aX4 (fun p0 p1 r=>bF Tryz.prog 42 [eU p0,.rp [.sl 1 (p1.map iU)]] [] (BQ Zn Zo r)) (fun p0 p1 r=>bF Tryz.prog 43 [yN p0,eU p1] [] (BQ Zn Zo r)) aU3 (fun p0 p1 r=>bF Tryz.prog 86 [zZ p0,.d (.sl 1 (p1.map (cSl 3 aB)))] [] (BQ Zg Zh r)) (fun p0 r=>bF Tryz.prog 85 [zZ p0] [] (PQ (fun y=>(.tup [.d (.sl 1 (y.1.map (cSl 3 aB))),vI y.2])) r)) bA4 (fun p0 p1 r=>bF Tryz.prog 142 [.d (.sl 1 (p0.map (cSl 3 aB))),yN p1] [] (PQ (fun y=>(.tup [.d (.sl 1 (y.1.map (cSl 3 aB))),vI y.2])) r)) aU5 aX5 aT1 bBw aYf (by intro bQn bNw aM5 aOs aN1 aG2 y1 p1 x20 p0 iG x9 x28 r h;refine Lok.un ?_;refine cd' h ?_ ?_<;>intro h;refine iq' h fun y3 h=>?_;refine aO (.callv (some 36) 34 [35]) (aAz (m:=aM5 y1 y3.eval.c0 y3.eval.c1 y3.eval.c2 y3.eval.c3) (caps:=[.rp (rJ y3.eval.c0),.rp (sG y3.eval.c1),.rp [.sl 1 (y3.eval.c2.map (cSl 3 aB))],.rp (jE y3.eval.c3)]) (args:=[eU y1,.rp (rJ y3.eval.c0),.rp (sG y3.eval.c1),.rp [.sl 1 (y3.eval.c2.map (cSl 3 aB))],.rp (jE y3.eval.c3)]) (v':=(fun y=>(.tup [bO y.1,vI y.2]))) h kr kr (aG2 _ _ _ _ _) kr kr (fun _=>rfl) fun y4 h=>oC ?_);refine cd' h ?_ ?_<;>intro h;exact rw' (s':=⟨[(4,.osl 243 45 1 (([]:List (List aA)).map (cSl 3 aB))),(5,vI y4.2)],[]⟩) (wr [(243,.new 45 1)] (en eS) bA) (rb' h);refine aO (.bsl 44 47 3 [43]) (bM (l:=([y4.1]:List aA)) (f:=aB) (g:=aB) kr (fun _=>rfl) kr (oC ?_));refine aq' 9 aB h fun y5 h=>?_;exact lb' (aOs _ _ _ _ _ _ _ _ h) (wr [(9,.old 9)] (es (es (es (eo 9 eS)))) bS);refine aO (.bsl 51 176 2 [50]) (bM (l:=([aV.mk y1 x9]:List aV)) (f:=bD) (g:=bD) kr (fun _=>rfl) kr (oC ?_));refine aO (.app 52 176 2 48 47 51) (aUf (l:=iG) (m:=([aV.mk y1 x9]:List aV)) (f:=bD) [366] h kr kr kr kr (fun _=>rfl) fun y6 h=>oC ?_);exact lb' (aN1 _ _ _ _ _ h) (tw [.rn [(52,356)]] (wr [] eS bS))) (by intro bQn aOs p1 p0 x20 iG r h;refine Lok.un ?_;refine cd' h ?_ ?_<;>intro h;refine iq' h fun y1 h=>?_;refine aO (.bsl 24 47 3 []) (bM (l:=([]:List aA)) (f:=aB) (g:=aB) kr (fun _=>rfl) kr (oC ?_));refine lq' p0.order ?_;exact lb' (aOs _ _ _ _ _ _ _ _ h) (tw [.rn [(356,366)]] (wr [(9,.old 9)] (es (es (es (eo 9 eS)))) bS));refine tw' 0 [.fzb 2] (cg' ⟨[(244,356)],[],[],[],[],[],[],[],[]⟩ h (cEw _ _) fun y2 h=>?_);refine aO (.bsl 57 45 1 []) (bM (l:=([]:List (List aA))) (f:=(cSl 3 aB)) (g:=(cSl 3 aB)) kr (fun _=>rfl) kr (oC ?_));refine aO (.len 59 58) (ps (vI (ln y2)) (aA4 (n:=356) (l:=y2.map bD) (L:=y2.length) kr kr (QH ..)) (oC ?_));exact lb' (bB2 _ _ _ _ h) (tw [.rn [(356,388)]] (wr [(14,.old 14)] (eo 14 eS) bS))) (by intro bYz aNi p0 p1 p2 p3 p4 r h;refine ao' ?_;refine dO (.bsl 11 45 1 [10]) (uF (l:=([p0]:List (List aA))) (f:=(cSl 3 aB)) (g:=(cSl 3 aB)) kr (fun _=>rfl) (dC ?_));exact vW 11 [11] [] (cSl 3 aB) h fun y1 h=>(cs' h (aNi _ _ _ _) fun y2 h=>(rp' h))) (by intro bZ2 aN9 p0 p1 p2 p3 r h;refine ao' (lq' p3.kids (lq' p3.sub (cs' h (cF8 _ _ _) fun y1 h=>?_)));refine cd' h ?_ ?_<;>intro h;exact rp' h;refine cd' h ?_ ?_<;>intro h;refine dO (.g 36 false (.len 40 39)) (aDb (p:=true) (b:=(decide (p3.up<0))) (v':=(vI (ln p2))) kr rfl rfl (fun hc=>aAf (sz:=1) (l:=p2) (f:=(cSl 3 aB)) (Eq.trans (b:=([true&&((decide (p3.up<0))==false)]:List Bool).all id) kr (dU hc rfl)) kr) (dC ?_));refine cK h fun y2 h=>(cK h fun y3 h=>?_);refine dO (.g 48 false (.ia 54 1 51 53)) (pG (p:=true) (b:=y3) (m:=idx p2 p3.up) (dflt:=default) (v':=fun y=>(.rp [.sl 3 (y.map aB)])) h kr rfl rfl (fun y hy hc=>xI (l:=p2) (f:=(cSl 3 aB)) (g:=(cSl 3 aB)) (k:=.i64) hy (fun _=>rfl) (Eq.trans (b:=([true&&(y3==false),true&&(y3==false)]:List Bool).all id) kr (dU hc (dU hc rfl))) kr kr) fun y4 h=>dC ?_);refine dO (.g 48 false (.len 56 55)) (aDb (p:=true) (b:=y3) (v':=(vI (ln y4))) kr rfl rfl (fun hc=>aAf (sz:=3) (l:=y4) (f:=aB) (Eq.trans (b:=([true&&(y3==false)]:List Bool).all id) kr (dU hc rfl)) kr) (dC ?_));refine cK h fun y5 h=>?_;refine cd' h ?_ ?_<;>intro h;exact rp' h;exact iq' h fun y6 h=>(iq' h fun y7 h=>(rp' h));refine aO (.bld 77 [bL,bL,mV,bL,bL,nC,.nil 3,.nil 1] [(0,1,70),(1,1,72),(2,1,74),(3,3,76)]) (nW (c:=[vI p3.kind,vI p3.op,vB p3.not_,vI p3.value.kind,vI p3.value.num,vS p3.value.text,.nil 3,.nil 1]) kr kr rfl (oC ?_));refine lq' p3.kids ?_;exact lb' (aN9 _ _ _ _ _ _ _ h) (wr [(101,.new 47 3)] eS (bs_ (bs_ (bs_ (bs_ (kM (c0:=[vI p3.kind,vI p3.op,vB p3.not_,vI p3.value.kind,vI p3.value.num,vS p3.value.text,.nil 3,.nil 1]) kr (dF (eQ kr kr) (dF (eQ kr kr) (dF (eQ kr kr) (dF (eQ kr kr) (dF (eQ kr kr) (dF (eQ kr kr) (dF (aCq kr kr) (dF (eQ kr kr) kR)))))))) bA))))))) (by intro bYz bZ2 cIb aNi aN9 aOw p2 p3 p0 p1 x81 iA r h;refine Lok.un ?_;refine cd' h ?_ ?_<;>intro h;refine iq' h fun y8 h=>(cs' h (aNi _ _ _ _) fun y9 h=>?_);refine cd' h ?_ ?_<;>intro h;exact rp' h;refine aO (.bsl 100 47 3 [99]) (bM (l:=([y9.1]:List aA)) (f:=aB) (g:=aB) kr (fun _=>rfl) kr (oC ?_));refine aq' 101 aB h fun y10 h=>?_;exact lb' (aN9 _ _ _ _ _ _ _ h) (wr [(101,.old 101)] eS (bs_ (bs_ (bs_ (bs_ (kM (c0:=[vI p3.kind,vI p3.op,vB p3.not_,vI p3.value.kind,vI p3.value.num,vS p3.value.text,.osl 101 47 3 (y10.map aB),.nil 1]) kr (dF (eQ kr kr) (dF (eQ kr kr) (dF (eQ kr kr) (dF (eQ kr kr) (dF (eQ kr kr) (dF (eQ kr kr) (dF (lC (t:=101) kr kr) (dF (eQ kr kr) kR)))))))) bA))))));refine lq' p3.sub ?_;exact lb' (aOw _ _ _ _ _ _ _ _ h) (tw [.nb 10 7 393] (wr [(101,.old 101)] eS (bs_ (bs_ (bs_ (kM (c0:=[vI p3.kind,vI p3.op,vB p3.not_,vI p3.value.kind,vI p3.value.num,vS p3.value.text,.osl 101 47 3 (iA.map aB),.tre 393]) kr (dF (eQ kr kr) (dF (eQ kr kr) (dF (eQ kr kr) (dF (eQ kr kr) (dF (eQ kr kr) (dF (eQ kr kr) (dF (lC (t:=101) kr kr) (dF (eQ kr kr) kR)))))))) bS))))))) (by intro cIb cLn aOw aZ9 p2 p3 p0 p1 iA pO qY r h;refine Lok.un ?_;refine cd' h ?_ ?_<;>intro h;refine iq' h fun y11 h=>(cg' ⟨[],[],[],[],[],[],[(261,349)],[],[]⟩ h (aZ9 _ _ _ _) fun y12 h=>?_);refine cd' h ?_ ?_<;>intro h;exact rp' h;exact lb' (aOw _ _ _ _ _ _ _ _ h) (tw [.kl 393,.rn [(349,393)]] (wr [(101,.old 101)] eS (bs_ (bs_ (bs_ (kM (c0:=[vI p3.kind,vI p3.op,vB p3.not_,vI p3.value.kind,vI p3.value.num,vS p3.value.text,.osl 101 47 3 (iA.map aB),.tre 393]) kr (dF (eQ kr kr) (dF (eQ kr kr) (dF (eQ kr kr) (dF (eQ kr kr) (dF (eQ kr kr) (dF (eQ kr kr) (dF (lC (t:=101) kr kr) (dF (eQ kr kr) kR)))))))) bS))))));exact cg' ⟨[],[],[],[],[],[],[],[],[393]⟩ h (cC3 _).toB fun y13 h=>(rp' h)) (by intro bXm aMr p0 p1 p2 p3 r h;refine ao' (kS cI p3.tables (jM p3.on_ (Y8 cI p3.tables (cK h fun y1 h=>?_))));refine cd' h ?_ ?_<;>intro h;exact rw' (s':=⟨[(8,.tre 261),(9,vI 4)],[(261,[.trc 1 (([]:List (List aA)).map (cSl 3 aB))])]⟩) (tw [.ne 8 0 261] (wr [] eS bS)) (rb' h);refine aO (.bld 36 [.nil 1,.nil 1,.nil 1,.nil 2,.nf,mV,bL] [(5,1,33),(6,1,35)]) (nW (c:=[.nil 1,.nil 1,.nil 1,.nil 2,.nf,vB p3.distinct,vI p3.limit]) kr kr rfl (oC ?_));refine kS cI p3.tables ?_;exact lb' (aMr _ _ _ _ _ _ _ h) (tw [.ns 10 0 368] (wr [] eS bS))) (by intro bXm bXp aMr aNy p3 p0 p1 p2 x40 iE r h;refine Lok.un ?_;refine cd' h ?_ ?_<;>intro h;refine iQ cI h fun y2 h=>(jM p1.tables (cK h fun y3 h=>?_));refine cd' h ?_ ?_<;>intro h;exact rw' (s':=⟨[(8,.tre 261),(9,vI 4)],[(261,[.trc 1 (([]:List (List aA)).map (cSl 3 aB))])]⟩) (tw [.ne 8 0 261] (wr [] eS bS)) (rb' h);refine iq' h fun y4 h=>?_;refine dO (.bsl 61 39 1 [60]) (uF (l:=([y4.rows]:List (List (List aA)))) (f:=(cSl 1 (cSl 3 aB))) (g:=(cSl 1 (cSl 3 aB))) kr (fun _=>rfl) (dC ?_));refine dO (.app 62 39 1 24 54 61) (bRu (l:=iE) (m:=([y4.rows]:List (List (List aA)))) (f:=(cSl 1 (cSl 3 aB))) [368] h kr kr kr kr (fun _=>rfl) fun y5 h=>dC ?_);exact lb' (aMr _ _ _ _ _ _ _ h) (tw [.rn [(62,368)]] (wr [] eS bS));refine tw' 0 [.fzb 4,.fzb 5,.fzb 6] (lq' p3.on_ ?_);exact lb' (aNy _ _ _ _ _ _ _ _ h) (tw [.rn [(368,383)]] (wr [(79,.new 85 1)] eS (bs_ (kM (c0:=[.tre 383,.nil 1,.nil 1,.nil 2,.nf,vB p3.distinct,vI p3.limit]) kr (dF (eQ kr kr) (dF (aCq kr kr) (dF (eQ kr kr) (dF (eQ kr kr) (dF (eQ kr kr) (dF (eQ kr kr) (dF (eQ kr kr) kR))))))) bS))))) (by intro bXp bQk aNy aPi p0 p1 p2 p3 iE x69 gZ r h;refine Lok.un ?_;refine cd' h ?_ ?_<;>intro h;refine iq' h fun y6 h=>(iB ⟨[],[],[],[],[],[(243,77)],[],[77],[]⟩ [] [] h (aPs _ _ _ _) fun y7 h=>?_);refine dO (.bsl 78 85 1 [77]) (uF (l:=([y7]:List (List bV))) (f:=(cSl 1 iU)) (g:=(cSl 1 iU)) kr (fun _=>rfl) (dC ?_));refine vW 79 [74] [10] (cSl 1 iU) h fun y8 h=>?_;exact lb' (aNy _ _ _ _ _ _ _ _ h) (wr [(79,.old 79)] eS (bs_ (kM (c0:=[.tre 383,.osl 79 85 1 (y8.map (cSl 1 iU)),.nil 1,.nil 2,.nf,vB p3.distinct,vI p3.limit]) kr (dF (eQ kr kr) (dF (lC (t:=79) kr kr) (dF (eQ kr kr) (dF (eQ kr kr) (dF (eQ kr kr) (dF (eQ kr kr) (dF (eQ kr kr) kR))))))) bS)));refine cg' ⟨[],[],[],[],[],[(243,85)],[],[85],[]⟩ h (aPs _ _ _ _) fun y9 h=>(lq' p3.order ?_);exact lb' (aPi _ _ _ _ _ _ (_,_,_) _ h) (tw [.rn [(383,391)]] (wr [(79,.old 79),(85,.old 85),(107,.new 98 2)] eS (bs_ (kM (c0:=[.tre 391,.osl 79 85 1 (gZ.map (cSl 1 iU)),.osl 85 96 1 (y9.map iU),.nil 2,.nf,vB p3.distinct,vI p3.limit]) kr (dF (eQ kr kr) (dF (lC (t:=79) kr kr) (dF (lC (t:=85) kr kr) (dF (aCq kr kr) (dF (eQ kr kr) (dF (eQ kr kr) (dF (eQ kr kr) kR))))))) bS))))) (by intro bQk cO6 aPi bHu p0 p1 p2 p3 gZ y9 lY r h;refine Lok.un ?_;refine cd' h ?_ ?_<;>intro h;refine iq' h fun y10 h=>?_;refine dO (.bsl 99 55 10 [98]) (uF (l:=([y10.expr]:List aJ)) (f:=aX) (g:=jE) kr nT (dC ?_));refine iB ⟨[],[],[],[],[],[(243,100)],[],[100],[]⟩ [] [] h (aPs _ _ _ _) fun y11 h=>(iQ iU h fun y12 h=>?_);refine dO (.bsl 106 98 2 [105]) (uF (l:=([nI.mk y12 y10.desc]:List nI)) (f:=vC) (g:=vC) kr (fun _=>rfl) (dC ?_));refine vW 107 [95] [10] vC h fun y13 h=>?_;exact lb' (aPi _ _ _ _ _ _ (_,_,_) _ h) (wr [(79,.old 79),(85,.old 85),(107,.old 107)] eS (bs_ (kM (c0:=[.tre 391,.osl 79 85 1 (gZ.map (cSl 1 iU)),.osl 85 96 1 (y9.map iU),.osl 107 98 2 (y13.map vC),.nf,vB p3.distinct,vI p3.limit]) kr (dF (eQ kr kr) (dF (lC (t:=79) kr kr) (dF (lC (t:=85) kr kr) (dF (lC (t:=107) kr kr) (dF (eQ kr kr) (dF (eQ kr kr) (dF (eQ kr kr) kR))))))) bS)));refine cg' ⟨[],[],[],[],[],[(243,113)],[],[113],[]⟩ h (aPs _ _ _ _) fun y14 h=>(tw' 0 [.fzb 18] (tw' 1 [.own 391] (cg' ⟨[],[],[],[],[],[],[(261,352)],[],[]⟩ h (bHu _) fun y15 h=>?_)));exact rw' (s':=⟨[(8,.tre 261),(9,vI y15.2)],[(261,[.trc 1 (y15.1.map (cSl 3 aB))])]⟩) (tw [.rn [(352,261)]] (wr [] eS bS)) (rb' h)) (by intro bRk cOg cLt aOm bIe bHk p0 r h;refine ao' (cs' h (bHk _) fun y1 h=>?_);refine cd' h ?_ ?_<;>intro h;exact rw' (s':=⟨[(2,.tre 261),(3,vI y1.2)],[(261,[.trc 1 (([]:List (List aA)).map (cSl 3 aB))])]⟩) (tw [.ne 2 0 261] (wr [] eS bS)) (rb' h);refine cg' ⟨[],[],[],[],[],[(243,250)],[],[250],[]⟩ h (bIe _ _) fun y2 h=>?_;refine cd' h ?_ ?_<;>intro h;exact rw' (s':=⟨[(2,.tre 261),(3,vI y2.2)],[(261,[.trc 1 (([]:List (List aA)).map (cSl 3 aB))])]⟩) (tw [.ne 2 0 261] (wr [] eS bS)) (rb' h);refine aO (.bsl 28 45 1 []) (pU (l:=([]:List (List aA))) (f:=(cSl 3 aB)) (g:=(cSl 3 aB)) [] kr (fun _=>rfl) kr rfl (oC ?_));exact lq' y2.1 (lb' (aOm _ _ _ _ _ h) (tw [.rn [(28,376)]] (wr [(4,.old 4)] (es (es (eo 4 eS))) bS)))) (by intro bRk cMp aOm bGv y2 p0 x31 oM r h;refine Lok.un ?_;refine cd' h ?_ ?_<;>intro h;refine iq' h fun y3 h=>(cg' ⟨[],[],[],[],[],[],[(261,323)],[],[]⟩ h (bGv _ _) fun y4 h=>?_);refine cd' h ?_ ?_<;>intro h;exact rw' (s':=⟨[(2,.tre 261),(3,vI y4.2)],[(261,[.trc 1 (([]:List (List aA)).map (cSl 3 aB))])]⟩) (tw [.ne 2 0 261] (wr [] eS bS)) (rb' h);refine aO (.bsl 47 45 1 [46]) (pU (l:=([y4.1]:List (List aA))) (f:=(cSl 3 aB)) (g:=(cSl 3 aB)) [323] kr (fun _=>rfl) kr rfl (oC ?_));refine aO (.app 48 45 1 24 45 47) (aDg (l:=oM) (m:=([y4.1]:List (List aA))) (f:=(cSl 3 aB)) [376] [47] h kr kr kr kr (fun _=>rfl) fun y5 h=>oC ?_);exact lb' (aOm _ _ _ _ _ h) (tw [.rn [(48,376)]] (wr [(4,.old 4)] (es (es (eo 4 eS))) bS));refine cd' h ?_ ?_<;>intro h;exact cg' ⟨[],[],[],[],[],[],[(261,329)],[],[376]⟩ h (cH9 _) fun y6 h=>(jn' (bI9 _ _ _ h) (tw [.rn [(329,388)]] (wr [] eS bS)));exact jn' (bI9 _ _ _ h) (tw [.rn [(376,388)]] (wr [] eS bS))) (by intro cM6 bLu p0 p1 r h;refine ao' (cg' ⟨[],[],[],[],[],[],[(261,287)],[],[]⟩ h (bLu _ _) fun y1 h=>?_);exact rw' (s':=⟨[(3,.tre 261),(4,vI y1.2)],[(261,[.trc 3 (y1.1.map aB)])]⟩) (tw [.rn [(287,261)]] (wr [] eS bS)) (rb' h)) (by intro cA4 aRr p0 p1 r h;refine ao' ?_;refine aO (.bsl 11 47 3 []) (pU (l:=([]:List aA)) (f:=aB) (g:=aB) [] kr (fun _=>rfl) kr rfl (oC ?_));exact kS iU p0 (lb' (aRr _ _ _ _ _ h) (tw [.rn [(11,355)]] (wr [] eS bS)))) (by intro aM5 cA4 aG2 aRr p1 p0 x14 oU r h;refine Lok.un ?_;refine cd' h ?_ ?_<;>intro h;refine iQ iU h fun y1 h=>?_;refine aO (.callv (some 21) 19 [20]) (aAz (m:=aM5 p1 y1.c0 y1.c1 y1.c2 y1.c3) (caps:=[.rp (rJ y1.c0),.rp (sG y1.c1),.rp [.sl 1 (y1.c2.map (cSl 3 aB))],.rp (jE y1.c3)]) (args:=[eU p1,.rp (rJ y1.c0),.rp (sG y1.c1),.rp [.sl 1 (y1.c2.map (cSl 3 aB))],.rp (jE y1.c3)]) (v':=(fun y=>(.tup [bO y.1,vI y.2]))) h kr kr (aG2 _ _ _ _ _) kr kr (fun _=>rfl) fun y2 h=>oC ?_);refine cd' h ?_ ?_<;>intro h;exact rw' (s':=⟨[(4,.tre 261),(5,vI y2.2)],[(261,[.trc 3 (([]:List aA).map aB)])]⟩) (tw [.ne 4 0 261] (wr [] eS bS)) (rb' h);refine aO (.bsl 29 47 3 [28]) (pU (l:=([y2.1]:List aA)) (f:=aB) (g:=aB) [] kr (fun _=>rfl) kr rfl (oC ?_));refine aO (.app 30 47 3 32 27 29) (aDg (l:=oU) (m:=([y2.1]:List aA)) (f:=aB) [355] [29] h kr kr kr kr (fun _=>rfl) fun y3 h=>oC ?_);exact lb' (aRr _ _ _ _ _ h) (tw [.rn [(30,355)]] (wr [] eS bS));exact rw' (s':=⟨[(4,.tre 261),(5,vI 0)],[(261,[.trc 3 (oU.map aB)])]⟩) (tw [.rn [(355,261)]] (wr [] eS bS)) (rb' h)) (by intro bNw aN1 p0 p1 r h;refine ao' ?_;refine aO (.bsl 17 176 2 []) (cHa (l:=([]:List aV)) (f:=bD) (g:=bD) kr (fun _=>rfl) kr rfl (oC ?_));exact lq' p1 (lb' (aN1 _ _ _ _ _ h) (tw [.rn [(17,356)]] (wr [] eS bS)))) (by intro cGl aN5 p0 r h;refine ao' ?_;refine aO (.bsl 14 47 3 []) (bM (l:=([]:List aA)) (f:=aB) (g:=aB) kr (fun _=>rfl) kr (oC ?_));refine aO (.bsl 15 45 1 [14]) (bM (l:=([([]:List aA)]:List (List aA))) (f:=(cSl 3 aB)) (g:=(cSl 3 aB)) kr (fun _=>rfl) kr (oC ?_));exact lq' p0.tables (lb' (aN5 _ _ _ _ h) (wr [] (es (ew eS)) bS))) (by intro bOk cJz aS1 aMy p0 x4 x19 r h;refine Lok.un ?_;refine cd' h ?_ ?_<;>intro h;refine iq' h fun y1 h=>?_;refine aO (.bsl 24 45 1 []) (bM (l:=([]:List (List aA))) (f:=(cSl 3 aB)) (g:=(cSl 3 aB)) kr (fun _=>rfl) kr (oC ?_));refine lq' x4 ?_;exact lb' (aMy _ _ _ _ _ _ _ h) (wr [(7,.old 7)] (es (es (es (eo 7 eS)))) bS);exact cs' h (aS1 _ _) fun y2 h=>(rp' h)) (by intro bT2 aQ1 p0 p1 r h;exact ao' (kS iU p1 (lb' (aQ1 _ _ _ _ h) (wr [] eS bA)))) (by intro cDh aP4 p1 x0 x15 r h;refine Lok.un ?_;refine cd' h ?_ ?_<;>intro h;refine iQ iU h fun y1 h=>?_;refine aO (.bsl 19 45 1 []) (bM (l:=([]:List (List aA))) (f:=(cSl 3 aB)) (g:=(cSl 3 aB)) kr (fun _=>rfl) kr (oC ?_));exact lq' x0 (lb' (aP4 _ _ _ _ _ _ _ h) (wr [(8,.old 8)] (es (eo 8 eS)) bA));exact rp' h) (by intro aM5 bT2 cM3 aG2 aQ1 bDa y1 p1 x15 x0 x8 x22 r h;refine Lok.un ?_;refine cd' h ?_ ?_<;>intro h;refine iq' h fun y2 h=>?_;refine aO (.callv (some 29) 27 [28]) (aAz (m:=aM5 y2 y1.c0 y1.c1 y1.c2 y1.c3) (caps:=[.rp (rJ y1.c0),.rp (sG y1.c1),.rp [.sl 1 (y1.c2.map (cSl 3 aB))],.rp (jE y1.c3)]) (args:=[eU y2,.rp (rJ y1.c0),.rp (sG y1.c1),.rp [.sl 1 (y1.c2.map (cSl 3 aB))],.rp (jE y1.c3)]) (v':=(fun y=>(.tup [bO y.1,vI y.2]))) h kr kr (aG2 _ _ _ _ _) kr kr (fun _=>rfl) fun y3 h=>oC ?_);refine cd' h ?_ ?_<;>intro h;exact rw' (s':=⟨[(4,.d (.sl 1 (([]:List (List aA)).map (cSl 3 aB)))),(5,vI y3.2)],[]⟩) (wr [] (ew eS) bA) (rp' h);refine cs' h (cBc _) fun y4 h=>?_;refine cd' h ?_ ?_<;>intro h;refine aO (.bsl 39 45 1 [38]) (bM (l:=([y2]:List (List aA))) (f:=(cSl 3 aB)) (g:=(cSl 3 aB)) kr (fun _=>rfl) kr (oC ?_));exact aq' 8 (cSl 3 aB) h fun y5 h=>(jn' (bDa _ _ _ _ _ _ _ h) (wr [(8,.old 8)] (es (eo 8 eS)) bA));exact jn' (bDa _ _ _ _ _ _ _ h) (wr [(8,.old 8)] (es (eo 8 eS)) bA);exact lb' (aQ1 _ _ _ _ h) (wr [] (ew eS) bA)) (by intro cDh aP4 y1 p1 x15 x0 x22 qX r h;exact Jok.un (lb' (aP4 _ _ _ _ _ _ _ h) (wr [(8,.old 8)] (es (eo 8 eS)) bA))) (by intro cGl bOk bSp aN5 aS1 aOb x19 y1 p0 x4 x7 x27 r h;refine Lok.un ?_;refine cd' h ?_ ?_<;>intro h;refine iq' h fun y3 h=>(lq' y1 ?_);exact lb' (aOb _ _ _ _ _ _ (_,_) _ h) (wr [(7,.old 7)] (es (es (es (eo 7 eS)))) bS);refine iQ (cSl 1 iU) h fun y5 h=>(cs' h (aS1 _ _) fun y6 h=>?_);refine cd' h ?_ ?_<;>intro h;exact rw' (s':=⟨[(2,.d (.sl 1 (([]:List (List aA)).map (cSl 3 aB)))),(3,vI y6.2)],[]⟩) (wr [] (ew eS) bA) (rp' h);exact lb' (aN5 _ _ _ _ h) (wr [] eS bS)) (by intro cJz bSp aMy aOb x19 y1 y3 p0 x4 x27 nE r h;refine Lok.un ?_;refine cd' h ?_ ?_<;>intro h;refine iq' h fun y7 h=>?_;refine aO (.bsl 40 45 1 [38,39]) (bM (l:=([y3,y7]:List (List aA))) (f:=(cSl 3 aB)) (g:=(cSl 3 aB)) kr (fun _=>rfl) kr (oC ?_));refine cg' ⟨[],[],[],[],[],[(243,41)],[],[41],[]⟩ h (cK5 _) fun y8 h=>?_;refine aO (.bsl 42 45 1 [41]) (bM (l:=([y8]:List (List aA))) (f:=(cSl 3 aB)) (g:=(cSl 3 aB)) kr (fun _=>rfl) kr (oC ?_));refine aq' 7 (cSl 3 aB) h fun y9 h=>?_;exact lb' (aOb _ _ _ _ _ _ (_,_) _ h) (wr [(7,.old 7)] (es (es (es (eo 7 eS)))) bS);exact lb' (aMy _ _ _ _ _ _ _ h) (wr [(7,.old 7)] (es (es (es (eo 7 eS)))) bS))
abbrev aOs:=lH.1
abbrev aN1:=lH.2.1
theorem aG2 (p0:List aA) (p1:aP) (p2:GDb) (p3:List (List aA)) (p4:aJ):FOk Tryz.prog 40 [eU p0,.rp (rJ p1),.rp (sG p2),.rp [.sl 1 (p3.map (cSl 3 aB))],.rp (jE p4)] (fun y=>(.tup [bO y.1,vI y.2])) (oO p0 p1 p2 p3 p4):=fun r h=>(lH).2.2.1 p0 p1 p2 p3 p4 r h
theorem aNi (p0:aP) (p1:GDb) (p2:List (List aA)) (p3:aJ):FOk Tryz.prog 41 [dN p0,iY p1,.d (.sl 1 (p2.map (cSl 3 aB))),iX p3] (fun y=>(.tup [bO y.1,vI y.2])) (vL p0 p1 p2 p3):=fun r h=>(lH).2.2.2.1 p0 p1 p2 p3 r h
abbrev aN9:=lH.2.2.2.2.1
abbrev aOw:=lH.2.2.2.2.2.1
theorem aZ9 (p0:aP) (p1:GDb) (p2:List (List aA)) (p3:aQ):cO Tryz.prog 15 [dN p0,iY p1,.d (.sl 1 (p2.map (cSl 3 aB))),fV p3] [] Zl Zm (yC p0 p1 p2 p3):=fun r h=>(lH).2.2.2.2.2.2.1 p0 p1 p2 p3 r h
abbrev aMr:=lH.2.2.2.2.2.2.2.1
abbrev aNy:=lH.2.2.2.2.2.2.2.2.1
abbrev aPi:=lH.2.2.2.2.2.2.2.2.2.1
theorem bHu (p0:eZ):cO Tryz.prog 44 [zZ p0] [] Zl Zm (M5 p0):=fun r h=>(lH).2.2.2.2.2.2.2.2.2.2.1 p0 r h
abbrev aOm:=lH.2.2.2.2.2.2.2.2.2.2.2.1
theorem bGv (p0:List aA) (p1:List bV):cO Tryz.prog 42 [eU p0,.rp [.sl 1 (p1.map iU)]] [] Zn Zo (aEy p0 p1):=fun r h=>(lH).2.2.2.2.2.2.2.2.2.2.2.2.1 p0 p1 r h
theorem bLu (p0:List bV) (p1:List aA):cO Tryz.prog 43 [yN p0,eU p1] [] Zn Zo (aMp p0 p1):=fun r h=>(lH).2.2.2.2.2.2.2.2.2.2.2.2.2.1 p0 p1 r h
abbrev aRr:=lH.2.2.2.2.2.2.2.2.2.2.2.2.2.2.1
theorem bIe (p0:eZ) (p1:List (List aA)):cO Tryz.prog 86 [zZ p0,.d (.sl 1 (p1.map (cSl 3 aB)))] [] Zg Zh (aLt p0 p1):=fun r h=>(lH).2.2.2.2.2.2.2.2.2.2.2.2.2.2.2.1 p0 p1 r h
theorem bHk (p0:eZ):FOk Tryz.prog 85 [zZ p0] (fun y=>(.tup [.d (.sl 1 (y.1.map (cSl 3 aB))),vI y.2])) (aQb p0):=fun r h=>(lH).2.2.2.2.2.2.2.2.2.2.2.2.2.2.2.2.1 p0 r h
abbrev aN5:=lH.2.2.2.2.2.2.2.2.2.2.2.2.2.2.2.2.2.1
theorem aS1 (p0:List (List aA)) (p1:List bV):FOk Tryz.prog 142 [.d (.sl 1 (p0.map (cSl 3 aB))),yN p1] (fun y=>(.tup [.d (.sl 1 (y.1.map (cSl 3 aB))),vI y.2])) (aB4 p0 p1):=fun r h=>(lH).2.2.2.2.2.2.2.2.2.2.2.2.2.2.2.2.2.2.1 p0 p1 r h
abbrev aQ1:=lH.2.2.2.2.2.2.2.2.2.2.2.2.2.2.2.2.2.2.2.1
abbrev aP4:=lH.2.2.2.2.2.2.2.2.2.2.2.2.2.2.2.2.2.2.2.2.1
abbrev bDa:=lH.2.2.2.2.2.2.2.2.2.2.2.2.2.2.2.2.2.2.2.2.2.1
abbrev aMy:=lH.2.2.2.2.2.2.2.2.2.2.2.2.2.2.2.2.2.2.2.2.2.2.1
abbrev aOb:=lH.2.2.2.2.2.2.2.2.2.2.2.2.2.2.2.2.2.2.2.2.2.2.2
theorem bP6 (p0:Int) (p1:Int):FOk Tryz.prog 31 [vI p0,vI p1] (fun y=>(vB y)) (aQi p0 p1):=by
 refine aoP fun r h=>?_;rw [aQi] at h;exact bU h fun y1 h=>(rp' h)
abbrev bWj (p0):=J8.partial_correctness p0 (aXf p0) (by intro cMr bDh fE x27 r h;refine Lok.un ?_;refine cd' h ?_ ?_<;>intro h;refine iq' h fun y5 h=>?_;refine aO (.bsl 34 55 10 [33]) (bM (l:=([y5.expr]:List aJ)) (f:=aX) (g:=jE) kr nT kr (oC ?_));exact aq' 3 aX h fun y6 h=>(lb' (bDh _ _ _ h) (wr [(3,.old 3)] (es (eo 3 eS)) bS));exact aq' 3 aX h fun y7 h=>(rw' (s':=⟨[(2,.osl 243 55 10 (y7.map aX))],[]⟩) (wr [(243,.old 2)] (eo 2 kG) bA) (rb' h)))
abbrev bDh:=bWj
end Go.Proofs.YtcbkkemcgcdhdaaGreat
