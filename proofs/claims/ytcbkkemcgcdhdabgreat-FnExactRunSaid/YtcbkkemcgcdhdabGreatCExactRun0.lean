/- That the code computes these functions (printed by a program). -/
import Derived.Test.YtcbkkemcgcdhdabGreatAbW
import Derived.Test.YtcbkkemcgcdhdabGreatAbQ
import Derived.KernelRfl
import Derived.Test.YtcbkkemcgcdhdabGreatAbG2
import Derived.Test.YtcbkkemcgcdhdabGreatAbC3
import Derived.Test.YtcbkkemcgcdhdabGreatAbX6
import Derived.Test.YtcbkkemcgcdhdabGreatAbX5
import Derived.Test.YtcbkkemcgcdhdabGreatAbX2
import Derived.Test.YtcbkkemcgcdhdabGreatFExactRun
import Derived.Test.YtcbkkemcgcdhdabGreatProg
namespace Go.Proofs.YtcbkkemcgcdhdabGreat
open Go Go.RowKit Go.Ab
open Go.IntKind renaming wrap→QA
open _root_.Int renaming fdiv→QB
open _root_.List renaming map_nil→QC,map_cons→QD,mem_cons_of_mem→QE,cons_append→QF,nil_append→QG,length_map→QI
open _root_.Nat renaming le_refl→QH
attribute [local irreducible] avc bM aop dgo jA tJ rH wkK zQ stz aYc bF eff bO.st Cf.ok Cf.way Cf.put Cf.putS Cf.putD Cf.A Cf.W Cf.to Cf.reg Cf.withS GQ zF tN yP qJ Lok Jok Cf.kr Cf.ll Cf.dw Cf.stt Cf.z Cf.zW
def cI (n:Int):List D:=[.i .i64 n]
def cU8 (n:Int):List D:=[.i .u8 n]
def cRa (n:Int):List D:=[.i .u64 n]
def cQq (n:Int):List D:=[.i .i32 n]
def cSw (n:Int):List D:=[.i .u32 n]
def cB (b:Bool):List D:=[.b b]
def cStr (s:List UInt8):List D:=[.s (bs s)]
def cSl {α:Type} (sz:Nat) (f:α→List D) (l:List α):List D:=[.sl sz (l.map f)]
def fM (x:bP):List D:=[.s (bs x.name),.i .i64 x.type]
def I1 (x:bP):V:=.agg (fM x)
def cQg (x:bP):List V:=(fM x).map V.d
def fQ (x:bH):List D:=[.s (bs x.name),.sl 2 (x.cols.map fM)]
def qR (x:bH):V:=.agg (fQ x)
def aSi (x:bH):List V:=(fQ x).map V.d
def nG (x:aX):List D:=[.sl 2 (x.tables.map fQ)]
def eG (x:aX):V:=.agg (nG x)
def eU (x:aX):List V:=(nG x).map V.d
def aB (x:aA):List D:=[.i .i64 x.kind,.i .i64 x.num,.s (bs x.text)]
def bX (x:aA):V:=.agg (aB x)
def F7 (x:aA):List V:=(aB x).map V.d
def fU (x:bN):List D:=[.sl 1 (x.rows.map (cSl 3 aB))]
def zN (x:bN):V:=.agg (fU x)
def cTc (x:bN):List V:=(fU x).map V.d
def nP (x:GDb):List D:=[.sl 1 (x.tables.map fU)]
def gJ (x:GDb):V:=.agg (nP x)
def mR (x:GDb):List V:=(nP x).map V.d
mutual
def bC:aJ→List D
  | ⟨a0,a1,a2,a3,a4,a5,a6,a7⟩=>[.i .i64 a0]++[.i .i64 a1]++[.b a2]++aB a3++[.i .i64 a4]++[.i .i64 a5]++[.sl 10 (aA4 a6)]++[.sl 8 (aJr a7)]
def dV:bD→List D
  | ⟨a0,a1⟩=>bC a0++[.b a1]
def dX:aQ→List D
  | ⟨a0,a1,a2,a3,a4,a5,a6,a7⟩=>[.sl 1 (a0.map cI)]++[.sl 1 (aLt a1)]++[.sl 10 (aA4 a2)]++[.sl 11 (aKh a3)]++[.sl 10 (aA4 a4)]++[.sl 1 (a5.map cStr)]++[.b a6]++[.i .i64 a7]
def aA4:List aJ→List (List D)
  | []=>[]
  | x::l=>bC x::aA4 l
def aKh:List bD→List (List D)
  | []=>[]
  | x::l=>dV x::aKh l
def aJr:List aQ→List (List D)
  | []=>[]
  | x::l=>dX x::aJr l
def aLt:List (List aJ)→List (List D)
  | []=>[]
  | x::l=>[.sl 10 (aA4 x)]::aLt l
end
theorem aJ8:∀ l:List aJ,aA4 l=l.map bC
  | []=>by simp only [aA4,QC]
  | x::l=>by simp only [aA4,QD,aJ8 l]
theorem aOx:∀ l:List bD,aKh l=l.map dV
  | []=>by simp only [aKh,QC]
  | x::l=>by simp only [aKh,QD,aOx l]
theorem aNz:∀ l:List aQ,aJr l=l.map dX
  | []=>by simp only [aJr,QC]
  | x::l=>by simp only [aJr,QD,aNz l]
theorem aQm:∀ l:List (List aJ),aLt l=l.map (cSl 10 bC)
  | []=>by simp only [aLt,QC]
  | x::l=>by simp only [aLt,QD,aQm l,cSl,aJ8]
def jQ (x:aJ):List D:=[.i .i64 x.kind,.i .i64 x.op,.b x.not_,.i .i64 x.value.kind,.i .i64 x.value.num,.s (bs x.value.text),.i .i64 x.up,.i .i64 x.at_,.sl 10 (x.kids.map bC),.sl 8 (x.sub.map dX)]
def xM (x:bD):List D:=[.i .i64 x.expr.kind,.i .i64 x.expr.op,.b x.expr.not_,.i .i64 x.expr.value.kind,.i .i64 x.expr.value.num,.s (bs x.expr.value.text),.i .i64 x.expr.up,.i .i64 x.expr.at_,.sl 10 (x.expr.kids.map bC),.sl 8 (x.expr.sub.map dX),.b x.desc]
def xD (x:aQ):List D:=[.sl 1 (x.tables.map cI),.sl 1 (x.on_.map (cSl 10 bC)),.sl 10 (x.where_.map bC),.sl 11 (x.order.map dV),.sl 10 (x.items.map bC),.sl 1 (x.names.map cStr),.b x.distinct,.i .i64 x.limit]
theorem mZ (x:aJ):bC x=jQ x:=by
  obtain ⟨a0,a1,a2,a3,a4,a5,a6,a7⟩:=x
  simp only [bC,jQ,aJ8,aOx,aNz,aQm,QF,QG,aB]
theorem xH (x:bD):dV x=xM x:=by
  obtain ⟨a0,a1⟩:=x
  simp only [dV,xM,aJ8,aOx,aNz,aQm,mZ,jQ,QF,QG]
theorem wS (x:aQ):dX x=xD x:=by
  obtain ⟨a0,a1,a2,a3,a4,a5,a6,a7⟩:=x
  simp only [dX,xD,aJ8,aOx,aNz,aQm,QF,QG]
def fB (x:aJ):V:=.agg (jQ x)
def uI (x:aJ):List V:=(jQ x).map V.d
def lF (x:bD):V:=.agg (xM x)
def cRu (x:bD):List V:=(xM x).map V.d
def eQ (x:aQ):V:=.agg (xD x)
def lV (x:aQ):List V:=(xD x).map V.d
def aNt (x:tK):D:=.fn 193 [(cSl 3 aB) x.c0]
def cRr (x:tK):List D:=[aNt x]
mutual
def qF:eZ→List D
  | ⟨a0,a1,a2,a3,a4,a5,a6,a7⟩=>[.i .i64 a0]++[.i .i64 a1]++[.b a2]++aB a3++[.s (bs a4)]++[.s (bs a5)]++[.sl 10 (aCp a6)]++[.sl 6 (aIi a7)]
def aDf:pO→List D
  | ⟨a0,a1,a2,a3⟩=>[.b a0]++[.s (bs a1)]++qF a2++[.s (bs a3)]
def vM:jI→List D
  | ⟨a0,a1,a2,a3,a4,a5⟩=>[.b a0]++[.sl 13 (aJa a1)]++[.sl 3 (aMi a2)]++[.sl 10 (aCp a3)]++[.sl 11 (aK8 a4)]++[.i .i64 a5]
def aBe:oW→List D
  | ⟨a0,a1⟩=>qF a0++[.b a1]
def aBu:oP→List D
  | ⟨a0,a1,a2⟩=>[.s (bs a0)]++[.s (bs a1)]++[.sl 10 (aCp a2)]
def aCp:List eZ→List (List D)
  | []=>[]
  | x::l=>qF x::aCp l
def aJa:List pO→List (List D)
  | []=>[]
  | x::l=>aDf x::aJa l
def aIi:List jI→List (List D)
  | []=>[]
  | x::l=>vM x::aIi l
def aK8:List oW→List (List D)
  | []=>[]
  | x::l=>aBe x::aK8 l
def aMi:List oP→List (List D)
  | []=>[]
  | x::l=>aBu x::aMi l
end
theorem aFl:∀ l:List eZ,aCp l=l.map qF
  | []=>by simp only [aCp,QC]
  | x::l=>by simp only [aCp,QD,aFl l]
theorem aE4:∀ l:List pO,aJa l=l.map aDf
  | []=>by simp only [aJa,QC]
  | x::l=>by simp only [aJa,QD,aE4 l]
theorem aEn:∀ l:List jI,aIi l=l.map vM
  | []=>by simp only [aIi,QC]
  | x::l=>by simp only [aIi,QD,aEn l]
theorem aFj:∀ l:List oW,aK8 l=l.map aBe
  | []=>by simp only [aK8,QC]
  | x::l=>by simp only [aK8,QD,aFj l]
theorem aG9:∀ l:List oP,aMi l=l.map aBu
  | []=>by simp only [aMi,QC]
  | x::l=>by simp only [aMi,QD,aG9 l]
def aA1 (x:eZ):List D:=[.i .i64 x.kind,.i .i64 x.op,.b x.not_,.i .i64 x.value.kind,.i .i64 x.value.num,.s (bs x.value.text),.s (bs x.qual),.s (bs x.name),.sl 10 (x.kids.map qF),.sl 6 (x.sub.map vM)]
def aJx (x:pO):List D:=[.b x.star,.s (bs x.qual),.i .i64 x.expr.kind,.i .i64 x.expr.op,.b x.expr.not_,.i .i64 x.expr.value.kind,.i .i64 x.expr.value.num,.s (bs x.expr.value.text),.s (bs x.expr.qual),.s (bs x.expr.name),.sl 10 (x.expr.kids.map qF),.sl 6 (x.expr.sub.map vM),.s (bs x.as_)]
def aEz (x:jI):List D:=[.b x.distinct,.sl 13 (x.items.map aDf),.sl 3 (x.from_.map aBu),.sl 10 (x.where_.map qF),.sl 11 (x.order.map aBe),.i .i64 x.limit]
def aLq (x:oW):List D:=[.i .i64 x.expr.kind,.i .i64 x.expr.op,.b x.expr.not_,.i .i64 x.expr.value.kind,.i .i64 x.expr.value.num,.s (bs x.expr.value.text),.s (bs x.expr.qual),.s (bs x.expr.name),.sl 10 (x.expr.kids.map qF),.sl 6 (x.expr.sub.map vM),.b x.desc]
def aMk (x:oP):List D:=[.s (bs x.table),.s (bs x.as_),.sl 10 (x.on_.map qF)]
theorem aI2 (x:eZ):qF x=aA1 x:=by
  obtain ⟨a0,a1,a2,a3,a4,a5,a6,a7⟩:=x
  simp only [qF,aA1,aFl,aE4,aEn,aFj,aG9,QF,QG,aB]
theorem bRg (x:pO):aDf x=aJx x:=by
  obtain ⟨a0,a1,a2,a3⟩:=x
  simp only [aDf,aJx,aFl,aE4,aEn,aFj,aG9,aI2,aA1,QF,QG]
theorem bLk (x:jI):vM x=aEz x:=by
  obtain ⟨a0,a1,a2,a3,a4,a5⟩:=x
  simp only [vM,aEz,aFl,aE4,aEn,aFj,aG9,QF,QG]
theorem bQx (x:oW):aBe x=aLq x:=by
  obtain ⟨a0,a1⟩:=x
  simp only [aBe,aLq,aFl,aE4,aEn,aFj,aG9,aI2,aA1,QF,QG]
theorem cCp (x:oP):aBu x=aMk x:=by
  obtain ⟨a0,a1,a2⟩:=x
  simp only [aBu,aMk,aFl,aE4,aEn,aFj,aG9,QF,QG]
def bHz (x:eZ):V:=.agg (aA1 x)
def cK5 (x:eZ):List V:=(aA1 x).map V.d
def cPt (x:pO):V:=.agg (aJx x)
def cUa (x:pO):List V:=(aJx x).map V.d
def cT0 (x:jI):V:=.agg (aEz x)
def cPu (x:jI):List V:=(aEz x).map V.d
def cQe (x:oW):V:=.agg (aLq x)
def cQf (x:oW):List V:=(aLq x).map V.d
def cTr (x:oP):V:=.agg (aMk x)
def cSb (x:oP):List V:=(aMk x).map V.d
def aVz (x:jV):List D:=[.b x.op,.b x.not_,.b x.value,.b x.name,.i .i64 x.least,.i .i64 x.most,.i .i64 x.subs]
def aSx (x:jV):V:=.agg (aVz x)
def cS7 (x:jV):List V:=(aVz x).map V.d
def aSq (x:cK):D:=.fn 88 [nG x.c0,nP x.c1,(cSl 1 (cSl 3 aB)) x.c2,jQ x.c3]
def iJ (x:cK):List D:=[aSq x]
def uD (x:lU):List D:=[aSq x.eval,.b x.desc]
def cQo (x:lU):V:=.agg (uD x)
def cT3 (x:lU):List V:=(uD x).map V.d
def bGn (x:O6):D:=.fn 90 [(cSl 1 iJ) x.c0]
def cU2 (x:O6):List D:=[bGn x]
def uC (x:eT):List D:=[.sl 1 (x.tables.map (cSl 1 (cSl 3 aB))),.sl 1 (x.on_.map (cSl 1 iJ)),.sl 1 (x.where_.map iJ),.sl 2 (x.order.map uD),bGn x.items,.b x.distinct,.i .i64 x.limit]
def zM (x:eT):V:=.agg (uC x)
def aC6 (x:eT):List V:=(uC x).map V.d
def bE4 (x:nE):D:=.fn 87 [nG x.c0,nP x.c1,(cSl 1 (cSl 3 aB)) x.c2]
def cRh (x:nE):List D:=[bE4 x]
def bDi (x:oI):List D:=[.i .i64 x.kind,.i .i64 x.op,.b x.not_,.i .i64 x.value.kind,.i .i64 x.value.num,.s (bs x.value.text),.sl 3 (x.kids.map aB),.sl 1 (x.rows.map (cSl 3 aB))]
def bNi (x:oI):V:=.agg (bDi x)
def bPc (x:oI):List V:=(bDi x).map V.d
def bJ (x:aV):List D:=[.sl 3 (x.row.map aB),.sl 3 (x.keys.map aB)]
def jP (x:aV):V:=.agg (bJ x)
def aSb (x:aV):List V:=(bJ x).map V.d
def kX (x:dJ):D:=.fn 191 [uC x.c0]
def cS5 (x:dJ):List D:=[kX x]
instance:Enc (List aA):=⟨cSl 3 aB,cSl 3 aB,(fun _=>rfl)⟩
instance:Enc aA:=⟨aB,aB,(fun _=>rfl)⟩
instance:Enc bN:=⟨fU,fU,(fun _=>rfl)⟩
instance:Enc bH:=⟨fQ,fQ,(fun _=>rfl)⟩
instance:Enc bP:=⟨fM,fM,(fun _=>rfl)⟩
instance:Enc (List aJ):=⟨cSl 10 bC,cSl 10 bC,(fun _=>rfl)⟩
instance:Enc bD:=⟨dV,xM,xH⟩
instance:Enc aJ:=⟨bC,jQ,mZ⟩
instance:Enc aQ:=⟨dX,xD,wS⟩
instance:Enc (List UInt8):=⟨cStr,cStr,(fun _=>rfl)⟩
instance:Enc (List (List aA)):=⟨cSl 1 (cSl 3 aB),cSl 1 (cSl 3 aB),(fun _=>rfl)⟩
instance:Enc lU:=⟨uD,uD,(fun _=>rfl)⟩
instance:Enc eZ:=⟨qF,aA1,aI2⟩
instance:Enc jI:=⟨vM,aEz,bLk⟩

theorem kr {p:Prop} (h:p:=by kernel_rfl):p:=h
def eF (l:List aA):V:=.d (.sl 3 (l.map aB))
def pK (l:List bN):V:=.d (.sl 1 (l.map fU))
def mI (l:List bP):V:=.d (.sl 2 (l.map fM))
def fI (l:List Int):V:=.d (.sl 1 (l.map cI))
def nN (l:List bH):V:=.d (.sl 2 (l.map fQ))
def fV (l:List bD):V:=.d (.sl 11 (l.map dV))
def dU (l:List aJ):V:=.d (.sl 10 (l.map bC))
def iW (l:List aQ):V:=.d (.sl 8 (l.map dX))
def nH (l:List (List UInt8)):V:=.d (.sl 1 (l.map cStr))
def xY (l:List cK):V:=.d (.sl 1 (l.map iJ))
def aT5 (l:List lU):V:=.d (.sl 2 (l.map uD))
def aRo:V:=(.d (.s (bs [])))
def D7:V:=(.d (.i .i64 0))
def aU9:V:=(.d (.b false))

def cB7 (p0:List (List aA)) (p1:List (List aA)) (x5:Int):St:=⟨[(0,.d (.sl 1 (p0.map (cSl 3 aB)))),(1,.d (.sl 1 (p1.map (cSl 3 aB)))),(5,vI x5)],[]⟩
abbrev aX5:=fun p0 p1 x5 r=>Lok Tryz.prog 12 0 (PQ (fun y=>(vB y)) r) (cB7 p0 p1 x5)
def cEc (p0:List aA) (p1:List aA) (x5:Int):St:=⟨[(0,eF p0),(1,eF p1),(5,vI x5)],[]⟩
abbrev aY0:=fun p0 p1 x5 r=>Lok Tryz.prog 41 0 (PQ (fun y=>(vB y)) r) (cEc p0 p1 x5)


def cFt (p0:List bN) (p1:List bN) (x5:Int):St:=⟨[(0,pK p0),(1,pK p1),(5,vI x5)],[]⟩
abbrev aT9:=fun p0 p1 x5 r=>Lok Tryz.prog 43 0 (PQ (fun y=>(vB y)) r) (cFt p0 p1 x5)


def bY5 (x1:Int) (x5:Int) (aL:List bH):St:=⟨[(0,.tre 244),(1,vI x1),(5,vI x5)],[(244,[.trc 2 (aL.map fQ)])]⟩
abbrev Z2 (y:Int×(List bH)):List (Nat×List V):=[(244,[.trc 2 (y.2.map fQ)])]
abbrev Z1 (y:Int×(List bH)):V:=(vI y.1)
abbrev aXc:=fun x1 x5 aL (r:Int×(List bH))=>Lok Tryz.prog 49 0 (BQ Z1 Z2 r) (bY5 x1 x5 aL)
def cDr (x0:Int) (x3:List UInt8):St:=⟨[(0,vI x0),(3,vS x3)],[]⟩
abbrev bAj:=fun x0 x3 r=>Lok Tryz.prog 98 0 (PQ (fun y=>(vS y)) r) (cDr x0 x3)
def bRm (x1:Int) (x5:Int) (aL:List bP):St:=⟨[(0,.tre 244),(1,vI x1),(5,vI x5)],[(244,[.trc 2 (aL.map fM)])]⟩
abbrev Za (y:Int×(List bP)):List (Nat×List V):=[(244,[.trc 2 (y.2.map fM)])]
abbrev Z3 (y:Int×(List bP)):V:=(vI y.1)
abbrev aZ6:=fun x1 x5 aL (r:Int×(List bP))=>Lok Tryz.prog 99 0 (BQ Z3 Za r) (bRm x1 x5 aL)

def bPz (p1:GDb) (p0:aX) (x23:Int):St:=⟨[(2,.ptr 2 0),(21,pK p1.tables),(22,vI (p1.tables.length:Int)),(23,vI x23)],[(2,eU p0)]⟩
abbrev bDx:=fun p1 p0 x23 r=>Lok Tryz.prog 39 0 (PQ (fun y=>(vB y)) r) (bPz p1 p0 x23)
def bRr (p0:bH) (x3:List Int) (x10:Int):St:=⟨[(3,.osl 3 3 1 (x3.map cI)),(8,mI p0.cols),(9,vI (p0.cols.length:Int)),(10,vI x10)],[]⟩
abbrev Zb (y:List Int):V:=(.osl 243 3 1 (y.map cI))
abbrev Zc (y:List Int):List (Nat×List V):=[]
abbrev aTh:=fun p0 x3 x10 (r:List Int)=>Lok Tryz.prog 83 0 (BQ Zb Zc r) (bRr p0 x3 x10)

def cLd (p0:List (List aA)) (c0_0:List Int) (x8:Int):St:=⟨[(0,.d (.sl 1 (p0.map (cSl 3 aB)))),(1,.fn 85 [.ptr 241 0]),(7,vI (p0.length:Int)),(8,vI x8)],[(241,[fI c0_0])]⟩
abbrev Zd (y:Int):V:=(vI y)
abbrev aX4:=fun p0 c0_0 x8 r=>Lok Tryz.prog 139 0 (BQ Zd (fun (y:Int)=>[(241,[.d (.sl 1 (c0_0.map cI))])]) r) (cLd p0 c0_0 x8)

def bQu (p1:List Int) (p0:List aA) (x14:Int):St:=⟨[(1,fI p1),(12,eF p0),(13,vI (p0.length:Int)),(14,vI x14)],[]⟩
abbrev bDo:=fun p1 p0 x14 r=>Lok Tryz.prog 86 0 (PQ (fun y=>(vB y)) r) (bQu p1 p0 x14)


def cKy (p0:aX) (x8:Int):St:=⟨[(1,.ptr 1 0),(6,nN p0.tables),(7,vI (p0.tables.length:Int)),(8,vI x8)],[(1,eU p0)]⟩
abbrev bCg:=fun p0 x8 r=>Lok Tryz.prog 78 0 (PQ (fun y=>(vB y)) r) (cKy p0 x8)
def cBv (p0:bH) (x8:Int):St:=⟨[(1,.ptr 1 0),(6,mI p0.cols),(7,vI (p0.cols.length:Int)),(8,vI x8)],[(1,aSi p0)]⟩
abbrev bBw:=fun p0 x8 r=>Lok Tryz.prog 129 0 (PQ (fun y=>(vB y)) r) (cBv p0 x8)


def cD7 (p0:List bP) (c0_0:List UInt8) (x8:Int):St:=⟨[(0,mI p0),(1,.fn 213 [.ptr 241 0]),(7,vI (p0.length:Int)),(8,vI x8)],[(241,[vS c0_0])]⟩
abbrev aUu:=fun p0 c0_0 x8 r=>Lok Tryz.prog 212 0 (BQ Zd (fun (y:Int)=>[(241,[vS c0_0])]) r) (cD7 p0 c0_0 x8)


def bUc (p0:List bH) (c0_0:List UInt8) (x8:Int):St:=⟨[(0,nN p0),(1,.fn 170 [.ptr 241 0]),(7,vI (p0.length:Int)),(8,vI x8)],[(241,[vS c0_0])]⟩
abbrev aTs:=fun p0 c0_0 x8 r=>Lok Tryz.prog 169 0 (BQ Zd (fun (y:Int)=>[(241,[vS c0_0])]) r) (bUc p0 c0_0 x8)



def cLt (p0:aQ) (x3:List aJ) (x12:Int):St:=⟨[(1,.ptr 1 0),(3,.osl 3 133 10 (x3.map bC)),(10,.d (.sl 1 (p0.on_.map (cSl 10 bC)))),(11,vI (p0.on_.length:Int)),(12,vI x12)],[(1,lV p0)]⟩
abbrev Ze (y:List aJ):V:=(.osl 243 133 10 (y.map bC))
abbrev Zf (y:List aJ):List (Nat×List V):=[]
abbrev bDa:=fun p0 x3 x12 (r:List aJ)=>Lok Tryz.prog 132 0 (BQ Ze Zf r) (cLt p0 x3 x12)
def cMp (p0:aQ) (fH:List aJ) (x27:Int):St:=⟨[(1,.ptr 1 0),(3,.osl 3 133 10 (fH.map bC)),(25,fV p0.order),(26,vI (p0.order.length:Int)),(27,vI x27)],[(1,lV p0)]⟩
abbrev bAn:=fun p0 fH x27 (r:List aJ)=>Lok Tryz.prog 132 1 (BQ Ze Zf r) (cMp p0 fH x27)
def cGu (p0:List aJ) (x3:Int) (x8:Int):St:=⟨[(3,vI x3),(6,dU p0),(7,vI (p0.length:Int)),(8,vI x8)],[]⟩
abbrev aYw:=fun p0 x3 x8 r=>Lok Tryz.prog 131 0 (PQ (fun y=>(vI y)) r) (cGu p0 x3 x8)
def cMt (p0:aJ) (x3:Int) (x12:Int):St:=⟨[(3,vI x3),(10,iW p0.sub),(11,vI (p0.sub.length:Int)),(12,vI x12)],[]⟩
abbrev aY3:=fun p0 x3 x12 r=>Lok Tryz.prog 171 0 (PQ (fun y=>(vI y)) r) (cMt p0 x3 x12)

def cKd (p1:List (List Int)) (y1:(List Int)×Bool) (p2:aQ) (p0:aX) (x41:Int):St:=⟨[(1,.d (.sl 1 (p1.map (cSl 1 cI)))),(3,.ptr 3 0),(5,.ptr 5 0),(8,.osl 8 3 1 (y1.1.map cI)),(39,.d (.sl 1 (p2.on_.map (cSl 10 bC)))),(40,vI (p2.on_.length:Int)),(41,vI x41)],[(3,eU p0),(5,lV p2)]⟩
abbrev Zg (y:(List Int)×Bool):V:=(.tup [.osl 243 3 1 (y.1.map cI),vB y.2])
abbrev Zh (y:(List Int)×Bool):List (Nat×List V):=[]
abbrev aXz:=fun p1 y1 p2 p0 x41 (r:(List Int)×Bool)=>Lok Tryz.prog 82 0 (BQ Zg Zh r) (cKd p1 y1 p2 p0 x41)
def cK2 (y9:List (List Int)) (p2:aQ) (p0:aX) (x76:Int):St:=⟨[(3,.ptr 3 0),(5,.ptr 5 0),(14,.osl 14 28 1 (y9.map (cSl 1 cI))),(74,fV p2.order),(75,vI (p2.order.length:Int)),(76,vI x76)],[(3,eU p0),(5,lV p2)]⟩
abbrev bCs:=fun y9 p2 p0 x76 (r:(List Int)×Bool)=>Lok Tryz.prog 82 1 (BQ Zg Zh r) (cK2 y9 p2 p0 x76)
def bZu (y9:List (List Int)) (p2:aQ) (p0:aX) (x19:List Int) (x95:Int):St:=⟨[(3,.ptr 3 0),(14,.osl 14 28 1 (y9.map (cSl 1 cI))),(19,.osl 19 3 1 (x19.map cI)),(93,dU p2.items),(94,vI (p2.items.length:Int)),(95,vI x95)],[(3,eU p0)]⟩
abbrev aV2:=fun y9 p2 p0 x19 x95 (r:(List Int)×Bool)=>Lok Tryz.prog 82 2 (BQ Zg Zh r) (bZu y9 p2 p0 x19 x95)


def bQa (p0:List (List UInt8)) (x8:Int):St:=⟨[(0,nH p0),(1,.fn 176 []),(7,vI (p0.length:Int)),(8,vI x8)],[]⟩
abbrev bA6:=fun p0 x8 r=>Lok Tryz.prog 215 0 (PQ (fun y=>(vI y)) r) (bQa p0 x8)


def cIe (p0:List (List aJ)) (x8:Int):St:=⟨[(0,.d (.sl 1 (p0.map (cSl 10 bC)))),(1,.fn 174 []),(7,vI (p0.length:Int)),(8,vI x8)],[]⟩
abbrev bA0:=fun p0 x8 r=>Lok Tryz.prog 214 0 (PQ (fun y=>(vI y)) r) (cIe p0 x8)

def cKg (p1:List (List Int)) (p2:aJ) (p0:aX) (x8:List Int) (x64:Int):St:=⟨[(1,.d (.sl 1 (p1.map (cSl 1 cI)))),(3,.ptr 3 0),(5,.ptr 5 0),(8,.osl 8 3 1 (x8.map cI)),(9,.osl 9 3 1 (([]:List Int).map cI)),(62,dU p2.kids),(63,vI (p2.kids.length:Int)),(64,vI x64)],[(3,eU p0),(5,uI p2)]⟩
abbrev bDu:=fun p1 p2 p0 x8 x64 (r:Int×Bool)=>Lok Tryz.prog 138 0 (PQ (fun y=>(.tup [vI y.1,vB y.2])) r) (cKg p1 p2 p0 x8 x64)
def bQq (p1:List (List Int)) (x8:List Int) (p2:aJ) (p0:aX) (x9:List Int) (x85:Int):St:=⟨[(1,.d (.sl 1 (p1.map (cSl 1 cI)))),(3,.ptr 3 0),(5,.ptr 5 0),(8,.osl 8 3 1 (x8.map cI)),(9,.osl 9 3 1 (x9.map cI)),(83,iW p2.sub),(84,vI (p2.sub.length:Int)),(85,vI x85)],[(3,eU p0),(5,uI p2)]⟩
abbrev aXv:=fun p1 x8 p2 p0 x9 x85 (r:Int×Bool)=>Lok Tryz.prog 138 1 (PQ (fun y=>(.tup [vI y.1,vB y.2])) r) (bQq p1 x8 p2 p0 x9 x85)
def cK4 (p1:List Int) (p2:List Int) (x40:Bool):St:=⟨[(1,fI p1),(2,fI p2),(40,vB x40)],[]⟩
abbrev bQ6:=fun p1 p2 x40 (r:Int×Bool)=>Jok Tryz.prog 181 9 (PQ (fun y=>(.tup [vI y.1,vB y.2])) r) (cK4 p1 p2 x40)
def cEg (x8:Int) (x9:Bool):St:=⟨[(8,vI x8),(9,vB x9)],[]⟩
abbrev cIu:=fun x8 x9 (r:Int×Bool)=>Jok Tryz.prog 219 2 (PQ (fun y=>(.tup [vI y.1,vB y.2])) r) (cEg x8 x9)






def cHg (p0:List Int) (x4:Int) (x11:Int):St:=⟨[(4,vI x4),(9,fI p0),(10,vI (p0.length:Int)),(11,vI x11)],[]⟩
abbrev bA5:=fun p0 x4 x11 (r:Int×Bool)=>Lok Tryz.prog 220 0 (PQ (fun y=>(.tup [vI y.1,vB y.2])) r) (cHg p0 x4 x11)




def cOq (p1:List Int) (p0:aX) (x6:List Int) (x12:Int):St:=⟨[(2,.ptr 2 0),(6,.osl 6 3 1 (x6.map cI)),(10,fI p1),(11,vI (p1.length:Int)),(12,vI x12)],[(2,eU p0)]⟩
abbrev aWe:=fun p1 p0 x6 x12 (r:(List Int)×Bool)=>Lok Tryz.prog 134 0 (BQ Zg Zh r) (cOq p1 p0 x6 x12)


def bYf (p0:List aJ) (c0:aX) (c1_0:List (List Int)) (x8:Int):St:=⟨[(0,dU p0),(1,.fn 178 [.ptr 241 0,.ptr 242 0]),(7,vI (p0.length:Int)),(8,vI x8)],[(241,eU c0),(242,[.d (.sl 1 (c1_0.map (cSl 1 cI)))])]⟩
abbrev aTp:=fun p0 c0 c1_0 x8 r=>Lok Tryz.prog 216 0 (BQ Zd (fun (y:Int)=>[(241,eU c0),(242,[.d (.sl 1 (c1_0.map (cSl 1 cI)))])]) r) (bYf p0 c0 c1_0 x8)


def cMq (p0:List aJ) (x3:Int) (x8:Int):St:=⟨[(3,vI x3),(6,dU p0),(7,vI (p0.length:Int)),(8,vI x8)],[]⟩
abbrev aZz:=fun p0 x3 x8 r=>Lok Tryz.prog 133 0 (PQ (fun y=>(vI y)) r) (cMq p0 x3 x8)
def cIh (p0:aJ) (x3:Int) (x13:Int):St:=⟨[(3,vI x3),(11,iW p0.sub),(12,vI (p0.sub.length:Int)),(13,vI x13)],[]⟩
abbrev aUr:=fun p0 x3 x13 r=>Lok Tryz.prog 172 0 (PQ (fun y=>(vI y)) r) (cIh p0 x3 x13)
def bYu (p3:aQ) (p0:aX) (p1:GDb) (p2:List (List aA)) (x40:Int) (iA:List (List (List aA))):St:=⟨[(4,.ptr 4 0),(5,.ptr 5 0),(6,.ptr 6 0),(7,.ptr 7 0),(10,.ptr 10 0),(38,fI p3.tables),(39,vI (p3.tables.length:Int)),(40,vI x40)],[(4,eU p0),(5,mR p1),(6,[.d (.sl 1 (p2.map (cSl 3 aB)))]),(7,lV p3),(10,[.tre 334,.nil 1,.nil 1,.nil 2,.nf,vB p3.distinct,vI p3.limit]),(334,[.trs 1 (iA.map (cSl 1 (cSl 3 aB)))])]⟩
abbrev Zj (y:(List (List aA))×Int):List (Nat×List V):=[(262,[.trc 1 (y.1.map (cSl 3 aB))])]
abbrev Zi (y:(List (List aA))×Int):V:=(.tup [.tre 262,vI y.2])
abbrev aYj:=fun p3 p0 p1 p2 x40 iA (r:(List (List aA))×Int)=>Lok Tryz.prog 40 0 (BQ Zi Zj r) (bYu p3 p0 p1 p2 x40 iA)
def bXx (p0:aX) (p1:GDb) (p2:List (List aA)) (p3:aQ) (iA:List (List (List aA))) (x69:Int) (gU:List (List cK)):St:=⟨[(7,.ptr 7 0),(10,.ptr 10 0),(13,.d (bE4 (nE.mk p0 p1 p2))),(67,.d (.sl 1 (p3.on_.map (cSl 10 bC)))),(68,vI (p3.on_.length:Int)),(69,vI x69)],[(7,lV p3),(10,[.tre 336,.osl 79 143 1 (gU.map (cSl 1 iJ)),.nil 1,.nil 2,.nf,vB p3.distinct,vI p3.limit]),(336,[.trs 1 (iA.map (cSl 1 (cSl 3 aB)))])]⟩
abbrev aWx:=fun p0 p1 p2 p3 iA x69 gU (r:(List (List aA))×Int)=>Lok Tryz.prog 40 1 (BQ Zi Zj r) (bXx p0 p1 p2 p3 iA x69 gU)
def bYa (p0:aX) (p1:GDb) (p2:List (List aA)) (p3:aQ) (gU:List (List cK)) (y9:List cK) (kR:(List (List (List aA)))×Int×(List lU)):St:=⟨[(7,.ptr 7 0),(10,.ptr 10 0),(13,.d (bE4 (nE.mk p0 p1 p2))),(88,fV p3.order),(89,vI (p3.order.length:Int)),(90,vI kR.2.1)],[(7,lV p3),(10,[.tre 339,.osl 79 143 1 (gU.map (cSl 1 iJ)),.osl 85 152 1 (y9.map iJ),.osl 107 154 2 (kR.2.2.map uD),.nf,vB p3.distinct,vI p3.limit]),(339,[.trs 1 (kR.1.map (cSl 1 (cSl 3 aB)))])]⟩
abbrev bBm:=fun p0 p1 p2 p3 gU y9 kR (r:(List (List aA))×Int)=>Lok Tryz.prog 40 2 (BQ Zi Zj r) (bYa p0 p1 p2 p3 gU y9 kR)
def cCh (y2:(List (List aA))×Int) (p0:eT) (x31:Int) (nC:List (List aA)):St:=⟨[(1,.ptr 1 0),(6,.tre 335),(29,.osl 4 82 1 (y2.1.map (cSl 3 aB))),(30,vI (y2.1.length:Int)),(31,vI x31)],[(1,aC6 p0),(335,[.trc 1 (nC.map (cSl 3 aB))])]⟩
abbrev bAx:=fun y2 p0 x31 nC (r:(List (List aA))×Int)=>Lok Tryz.prog 92 0 (BQ Zi Zj r) (cCh y2 p0 x31 nC)
def bQ9 (p0:eT) (qZ:List (List aA)):St:=⟨[(1,.ptr 1 0),(6,.tre 337)],[(1,aC6 p0),(337,[.trc 1 (qZ.map (cSl 3 aB))])]⟩
abbrev cNk:=fun p0 qZ (r:(List (List aA))×Int)=>Jok Tryz.prog 92 20 (BQ Zi Zj r) (bQ9 p0 qZ)
def bTd (yQ:List (List aA)):St:=⟨[(6,.tre 338)],[(338,[.trc 1 (yQ.map (cSl 3 aB))])]⟩
abbrev cNc:=fun yQ (r:(List (List aA))×Int)=>Jok Tryz.prog 92 22 (BQ Zi Zj r) (bTd yQ)
def bTg (p0:eT) (x4:List (List aA)) (x19:Int):St:=⟨[(1,.ptr 1 0),(4,.d (.sl 1 (x4.map (cSl 3 aB)))),(17,.d (.sl 1 (p0.tables.map (cSl 1 (cSl 3 aB))))),(18,vI (p0.tables.length:Int)),(19,vI x19)],[(1,aC6 p0)]⟩
abbrev bEh:=fun p0 x4 x19 (r:(List (List aA))×Int)=>Lok Tryz.prog 143 0 (PQ (fun y=>(.tup [.d (.sl 1 (y.1.map (cSl 3 aB))),vI y.2])) r) (bTg p0 x4 x19)
def bUz (x19:Int) (y1:List (List aA)) (p0:eT) (x4:List (List aA)) (x7:List (List aA)) (x27:Int):St:=⟨[(1,.ptr 1 0),(5,vI x19),(6,.d (.sl 1 (y1.map (cSl 3 aB)))),(7,.osl 7 82 1 (x7.map (cSl 3 aB))),(17,.d (.sl 1 (p0.tables.map (cSl 1 (cSl 3 aB))))),(18,vI (p0.tables.length:Int)),(19,vI x19),(25,.d (.sl 1 (x4.map (cSl 3 aB)))),(26,vI (x4.length:Int)),(27,vI x27)],[(1,aC6 p0)]⟩
abbrev bAa:=fun x19 y1 p0 x4 x7 x27 (r:(List (List aA))×Int)=>Lok Tryz.prog 143 1 (PQ (fun y=>(.tup [.d (.sl 1 (y.1.map (cSl 3 aB))),vI y.2])) r) (bUz x19 y1 p0 x4 x7 x27)
def bUk (x19:Int) (y1:List (List aA)) (y3:List aA) (p0:eT) (x4:List (List aA)) (x27:Int) (lJ:(List (List aA))×Int):St:=⟨[(1,.ptr 1 0),(5,vI x19),(6,.d (.sl 1 (y1.map (cSl 3 aB)))),(7,.osl 7 82 1 (lJ.1.map (cSl 3 aB))),(9,eF y3),(17,.d (.sl 1 (p0.tables.map (cSl 1 (cSl 3 aB))))),(18,vI (p0.tables.length:Int)),(19,vI x19),(25,.d (.sl 1 (x4.map (cSl 3 aB)))),(26,vI (x4.length:Int)),(27,vI x27),(31,.d (.sl 1 (y1.map (cSl 3 aB)))),(32,vI (y1.length:Int)),(33,vI lJ.2)],[(1,aC6 p0)]⟩
abbrev aZj:=fun x19 y1 y3 p0 x4 x27 lJ (r:(List (List aA))×Int)=>Lok Tryz.prog 143 2 (PQ (fun y=>(.tup [.d (.sl 1 (y.1.map (cSl 3 aB))),vI y.2])) r) (bUk x19 y1 y3 p0 x4 x27 lJ)
def bTq (p1:List cK) (x0:List (List aA)) (x15:Int):St:=⟨[(0,.d (.sl 1 (x0.map (cSl 3 aB)))),(13,xY p1),(14,vI (p1.length:Int)),(15,vI x15)],[]⟩
abbrev aY5:=fun p1 x0 x15 (r:(List (List aA))×Int)=>Lok Tryz.prog 189 0 (PQ (fun y=>(.tup [.d (.sl 1 (y.1.map (cSl 3 aB))),vI y.2])) r) (bTq p1 x0 x15)
def bW2 (y1:cK) (p1:List cK) (x15:Int) (x0:List (List aA)) (x8:List (List aA)) (x22:Int):St:=⟨[(7,.d (aSq y1)),(8,.osl 8 82 1 (x8.map (cSl 3 aB))),(13,xY p1),(14,vI (p1.length:Int)),(15,vI x15),(20,.d (.sl 1 (x0.map (cSl 3 aB)))),(21,vI (x0.length:Int)),(22,vI x22)],[]⟩
abbrev aXr:=fun y1 p1 x15 x0 x8 x22 (r:(List (List aA))×Int)=>Lok Tryz.prog 189 1 (PQ (fun y=>(.tup [.d (.sl 1 (y.1.map (cSl 3 aB))),vI y.2])) r) (bW2 y1 p1 x15 x0 x8 x22)
def cPp (y1:cK) (p1:List cK) (x15:Int) (x0:List (List aA)) (x22:Int) (qP:List (List aA)):St:=⟨[(7,.d (aSq y1)),(8,.osl 8 82 1 (qP.map (cSl 3 aB))),(13,xY p1),(14,vI (p1.length:Int)),(15,vI x15),(20,.d (.sl 1 (x0.map (cSl 3 aB)))),(21,vI (x0.length:Int)),(22,vI x22)],[]⟩
abbrev aWg:=fun y1 p1 x15 x0 x22 qP (r:(List (List aA))×Int)=>Jok Tryz.prog 189 12 (PQ (fun y=>(.tup [.d (.sl 1 (y.1.map (cSl 3 aB))),vI y.2])) r) (cPp y1 p1 x15 x0 x22 qP)

def bVj (p2:List (List aA)) (p3:aJ) (p0:aX) (p1:GDb) (x81:Int) (gN:List aA):St:=⟨[(2,.d (.sl 1 (p2.map (cSl 3 aB)))),(4,.ptr 4 0),(5,.ptr 5 0),(7,.ptr 7 0),(8,.ptr 8 0),(10,.ptr 10 0),(79,dU p3.kids),(80,vI (p3.kids.length:Int)),(81,vI x81)],[(4,eU p0),(5,mR p1),(7,uI p3),(8,[vI 0,vI 0,vS []]),(10,[vI p3.kind,vI p3.op,vB p3.not_,vI p3.value.kind,vI p3.value.num,vS p3.value.text,.osl 101 130 3 (gN.map aB),.nil 1])]⟩
abbrev aUf:=fun p2 p3 p0 p1 x81 gN (r:aA×Int)=>Lok Tryz.prog 89 0 (PQ (fun y=>(.tup [bX y.1,vI y.2])) r) (bVj p2 p3 p0 p1 x81 gN)
def bPi (p2:List (List aA)) (p3:aJ) (p0:aX) (p1:GDb) (gN:List aA) (nS:Int) (qU:List (List aA)):St:=⟨[(2,.d (.sl 1 (p2.map (cSl 3 aB)))),(4,.ptr 4 0),(5,.ptr 5 0),(8,.ptr 8 0),(10,.ptr 10 0),(105,iW p3.sub),(106,vI (p3.sub.length:Int)),(107,vI nS)],[(4,eU p0),(5,mR p1),(8,[vI 0,vI 0,vS []]),(10,[vI p3.kind,vI p3.op,vB p3.not_,vI p3.value.kind,vI p3.value.num,vS p3.value.text,.osl 101 130 3 (gN.map aB),.tre 340]),(340,[.trc 1 (qU.map (cSl 3 aB))])]⟩
abbrev bCl:=fun p2 p3 p0 p1 gN nS qU (r:aA×Int)=>Lok Tryz.prog 89 1 (PQ (fun y=>(.tup [bX y.1,vI y.2])) r) (bPi p2 p3 p0 p1 gN nS qU)

def cIi (p0:oI) (x4:List aA) (x42:Int):St:=⟨[(1,.ptr 1 0),(2,.ptr 2 0),(4,.osl 4 130 3 (x4.map aB)),(40,.d (.sl 1 (p0.rows.map (cSl 3 aB)))),(41,vI (p0.rows.length:Int)),(42,vI x42)],[(1,bPc p0),(2,[vI 0,vI 0,vS []])]⟩
abbrev aVi:=fun p0 x4 x42 (r:aA×Int)=>Lok Tryz.prog 187 0 (PQ (fun y=>(.tup [bX y.1,vI y.2])) r) (cIi p0 x4 x42)


def cHs (x8:Int) (x9:Bool):St:=⟨[(6,.ptr 6 0),(8,vI x8),(9,vB x9)],[(6,[vI 0,vI 0,vS []])]⟩
abbrev cMk:=fun x8 x9 (r:aA×Int)=>Jok Tryz.prog 222 2 (PQ (fun y=>(.tup [bX y.1,vI y.2])) r) (cHs x8 x9)







def bYq (N9:Int):St:=⟨[(2,.ptr 2 0),(3,.ptr 3 0)],[(2,[vI 0,vI 0,vS []]),(3,F7 (aA.mk 3 N9 []))]⟩
abbrev cC5:=fun N9 r=>Jok Tryz.prog 186 2 (PQ (fun y=>(bX y)) r) (bYq N9)

def cNh (p0:List Int) (x8:Int):St:=⟨[(3,vI 0),(6,fI p0),(7,vI (p0.length:Int)),(8,vI x8)],[]⟩
abbrev bBo:=fun p0 x8 r=>Lok Tryz.prog 232 0 (PQ (fun y=>(vI y)) r) (cNh p0 x8)





def cJx (p0:Int) (p1:aA) (p2:aA) (x15:Int):St:=⟨[(0,vI p0),(4,.ptr 4 0),(5,.ptr 5 0),(6,.ptr 6 0),(13,.osl 13 130 3 (([p1,p2]:List aA).map aB)),(14,vI (([p1,p2]:List aA).length:Int)),(15,vI x15)],[(4,F7 p1),(5,F7 p2),(6,[vI 0,vI 0,vS []])]⟩
abbrev aZ2:=fun p0 p1 p2 x15 (r:aA×Int)=>Lok Tryz.prog 223 0 (PQ (fun y=>(.tup [bX y.1,vI y.2])) r) (cJx p0 p1 p2 x15)
def bYs (p1:List aA) (p0:aA) (x14:Int) (iX:Int) (iU:Int) (iV:List UInt8):St:=⟨[(2,.ptr 2 0),(4,.ptr 4 0),(6,.ptr 6 0),(12,eF p1),(13,vI (p1.length:Int)),(14,vI x14)],[(2,F7 p0),(4,[vI 0,vI 0,vS []]),(6,F7 (aA.mk iX iU iV))]⟩
abbrev bBi:=fun p1 p0 x14 iX iU iV (r:aA×Int)=>Lok Tryz.prog 228 0 (PQ (fun y=>(.tup [bX y.1,vI y.2])) r) (bYs p1 p0 x14 iX iU iV)


def bWw (p0:Int) (aA5:Int):St:=⟨[(2,.ptr 2 0),(4,.ptr 4 0)],[(2,[vB false,vB false,vB false,vB false,vI 0,vI 0,vI 0]),(4,[vI p0,vI aA5,vB false,vI 0,vI 0,vS [],vS [],vS [120],.nil 10,.nil 6])]⟩
abbrev cNw:=fun p0 aA5 (r:jV×Bool)=>Jok Tryz.prog 183 2 (PQ (fun y=>(.tup [aSx y.1,vB y.2])) r) (bWw p0 aA5)

def bQg (p0:List (List aA)) (x3:Int) (x11:Int):St:=⟨[(0,.d (.sl 1 (p0.map (cSl 3 aB)))),(3,vI x3),(9,.d (.sl 1 (p0.map (cSl 3 aB)))),(10,vI (p0.length:Int)),(11,vI x11)],[]⟩
abbrev Zk (y:List aA):V:=(.osl 243 130 3 (y.map aB))
abbrev Zl (y:List aA):List (Nat×List V):=[]
abbrev bA8:=fun p0 x3 x11 (r:List aA)=>Lok Tryz.prog 188 0 (BQ Zk Zl r) (bQg p0 x3 x11)
def cMf (p0:List (List aA)) (x3:Int) (y1:List aA) (x11:Int):St:=⟨[(0,.d (.sl 1 (p0.map (cSl 3 aB)))),(3,vI (QA .i64 (x3+(y1.length:Int)))),(9,.d (.sl 1 (p0.map (cSl 3 aB)))),(10,vI (p0.length:Int)),(11,vI x11)],[]⟩
abbrev bAf:=fun p0 x3 y1 x11 (r:List aA)=>Jok Tryz.prog 188 6 (BQ Zk Zl r) (cMf p0 x3 y1 x11)
def bU1 (p0:List (List aA)) (x6:List aA) (x27:Int):St:=⟨[(6,.osl 6 130 3 (x6.map aB)),(25,.d (.sl 1 (p0.map (cSl 3 aB)))),(26,vI (p0.length:Int)),(27,vI x27)],[]⟩
abbrev aWd:=fun p0 x6 x27 (r:List aA)=>Lok Tryz.prog 188 1 (BQ Zk Zl r) (bU1 p0 x6 x27)


def cHk (p1:List aA) (p0:List cK) (x14:Int) (nJ:List aA):St:=⟨[(1,eF p1),(6,.tre 330),(12,xY p0),(13,vI (p0.length:Int)),(14,vI x14)],[(330,[.trc 3 (nJ.map aB)])]⟩
abbrev Zn (y:(List aA)×Int):List (Nat×List V):=[(262,[.trc 3 (y.1.map aB)])]
abbrev Zm (y:(List aA)×Int):V:=(.tup [.tre 262,vI y.2])
abbrev bDj:=fun p1 p0 x14 nJ (r:(List aA)×Int)=>Lok Tryz.prog 91 0 (BQ Zm Zn r) (cHk p1 p0 x14 nJ)
def bT1 (p1:List (List aA)) (p0:eT) (x20:Int) (gZ:List aV):St:=⟨[(2,.ptr 2 0),(6,.tre 331),(18,.d (.sl 1 (p1.map (cSl 3 aB)))),(19,vI (p1.length:Int)),(20,vI x20)],[(2,aC6 p0),(331,[.trs 2 (gZ.map bJ)])]⟩
abbrev Zo (y:(List (List aA))×Int):V:=(.tup [.osl 243 82 1 (y.1.map (cSl 3 aB)),vI y.2])
abbrev Zp (y:(List (List aA))×Int):List (Nat×List V):=[]
abbrev bCd:=fun p1 p0 x20 gZ (r:(List (List aA))×Int)=>Lok Tryz.prog 144 0 (BQ Zo Zp r) (bT1 p1 p0 x20 gZ)
def cNv (y1:List aA) (p1:List (List aA)) (x20:Int) (p0:eT) (gZ:List aV) (x9:List aA) (x28:Int):St:=⟨[(2,.ptr 2 0),(6,.tre 332),(8,eF y1),(9,.osl 9 130 3 (x9.map aB)),(18,.d (.sl 1 (p1.map (cSl 3 aB)))),(19,vI (p1.length:Int)),(20,vI x20),(26,aT5 p0.order),(27,vI (p0.order.length:Int)),(28,vI x28)],[(2,aC6 p0),(332,[.trs 2 (gZ.map bJ)])]⟩
abbrev bBv:=fun y1 p1 x20 p0 gZ x9 x28 (r:(List (List aA))×Int)=>Lok Tryz.prog 144 1 (BQ Zo Zp r) (cNv y1 p1 x20 p0 gZ x9 x28)
def bSt (y2:List aV) (x14:List (List aA)) (x60:Int):St:=⟨[(14,.osl 14 82 1 (x14.map (cSl 3 aB))),(58,.tre 337),(59,vI (y2.length:Int)),(60,vI x60)],[(337,[.trs 2 (y2.map bJ)])]⟩
abbrev bD2:=fun y2 x14 x60 (r:(List (List aA))×Int)=>Lok Tryz.prog 144 2 (BQ Zo Zp r) (bSt y2 x14 x60)

def bVk (p1:Int) (p2:dJ) (x7:Int) (x8:Int) (aL:List aV):St:=⟨[(0,.tre 244),(1,vI p1),(2,.d (kX p2)),(6,vI 20),(7,vI x7),(8,vI x8)],[(244,[.trs 2 (aL.map bJ)])]⟩
abbrev Zr (y:List aV):List (Nat×List V):=[(244,[.trs 2 (y.map bJ)])]
abbrev Zq (y:List aV):V:=(.tup [])
abbrev bAs:=fun p1 p2 x7 x8 aL (r:List aV)=>Lok Tryz.prog 231 0 (BQ Zq Zr r) (bVk p1 p2 x7 x8 aL)
def cIg (p1:Int) (p2:dJ) (x6:Int) (oQ:List aV):St:=⟨[(0,.tre 244),(1,vI p1),(2,.d (kX p2)),(6,vI x6)],[(244,[.trs 2 (oQ.map bJ)])]⟩
abbrev bCm:=fun p1 p2 x6 oQ (r:List aV)=>Lok Tryz.prog 231 1 (BQ Zq Zr r) (cIg p1 p2 x6 oQ)
def cIv (p1:Int) (p2:dJ) (x6:Int) (mV:Int) (nL:Int) (nV:List aV):St:=⟨[(0,.tre 244),(1,vI p1),(2,.d (kX p2)),(6,vI x6),(7,vI mV),(8,vI nL)],[(244,[.trs 2 (nV.map bJ)])]⟩
abbrev aZk:=fun p1 p2 x6 mV nL nV (r:List aV)=>Lok Tryz.prog 231 2 (BQ Zq Zr r) (cIv p1 p2 x6 mV nL nV)
def bR7 (p1:Int) (p2:dJ) (x6:Int) (qW:List aV):St:=⟨[(0,.tre 244),(1,vI p1),(2,.d (kX p2)),(6,vI x6)],[(244,[.trs 2 (qW.map bJ)])]⟩
abbrev aWs:=fun p1 p2 x6 qW (r:List aV)=>Jok Tryz.prog 231 16 (BQ Zq Zr r) (bR7 p1 p2 x6 qW)
def bVp (p1:Int) (p4:dJ) (p0:List aV) (x10:Int) (x11:Int):St:=⟨[(0,.tre 244),(1,vI p1),(4,.d (kX p4)),(10,vI x10),(11,vI x11)],[(244,[.trs 2 (p0.map bJ)])]⟩
abbrev aZs:=fun p1 p4 p0 x10 x11 (r:List aV)=>Lok Tryz.prog 247 0 (BQ Zq Zr r) (bVp p1 p4 p0 x10 x11)
def cA1 (p2:Int) (p4:dJ) (p0:List aV) (x14:Int) (x15:Int):St:=⟨[(0,.tre 244),(2,vI p2),(4,.d (kX p4)),(14,vI x14),(15,vI x15)],[(244,[.trs 2 (p0.map bJ)])]⟩
abbrev aVt:=fun p2 p4 p0 x14 x15 (r:List aV)=>Lok Tryz.prog 247 2 (BQ Zq Zr r) (cA1 p2 p4 p0 x14 x15)
def bYx (p1:Int) (p2:Int) (p3:Int) (p4:dJ) (p0:List aV) (x20:Int) (x21:Int):St:=⟨[(0,.tre 244),(1,vI p1),(2,vI p2),(3,vI p3),(4,.d (kX p4)),(18,vI (QA .i64 (QB (QA .u64 (QA .i64 (p1+p3))) (2 ^ 1)))),(19,vI (QA .i64 ((QA .i64 (QB (QA .u64 (QA .i64 (p1+p3))) (2 ^ 1)))+p2))),(20,vI x20),(21,vI x21)],[(244,[.trs 2 (p0.map bJ)])]⟩
abbrev aTw:=fun p1 p2 p3 p4 p0 x20 x21 (r:List aV)=>Jok Tryz.prog 247 31 (BQ Zq Zr r) (bYx p1 p2 p3 p4 p0 x20 x21)
def cNa (x10:Int) (x13:Int) (aL:List aV):St:=⟨[(0,.tre 244),(10,vI x10),(13,vI x13)],[(244,[.trs 2 (aL.map bJ)])]⟩
abbrev aTe:=fun x10 x13 aL (r:List aV)=>Lok Tryz.prog 247 1 (BQ Zq Zr r) (cNa x10 x13 aL)
def cFo (x14:Int) (x17:Int) (iQ:List aV):St:=⟨[(0,.tre 244),(14,vI x14),(17,vI x17)],[(244,[.trs 2 (iQ.map bJ)])]⟩
abbrev bBn:=fun x14 x17 iQ (r:List aV)=>Lok Tryz.prog 247 3 (BQ Zq Zr r) (cFo x14 x17 iQ)
def bVw (p1:Int) (p2:Int) (p3:Int) (p4:dJ) (p0:List aV) (dI:Int) (iM:Int):St:=⟨[(0,.tre 244),(1,vI p1),(2,vI p2),(3,vI p3),(4,.d (kX p4)),(18,vI (QA .i64 (QB (QA .u64 (QA .i64 (p1+p3))) (2 ^ 1)))),(19,vI (QA .i64 ((QA .i64 (QB (QA .u64 (QA .i64 (p1+p3))) (2 ^ 1)))+p2))),(20,vI dI),(21,vI iM),(22,vI (QA .i64 ((QA .i64 ((QA .i64 (QB (QA .u64 (QA .i64 (p1+p3))) (2 ^ 1)))+p2)) - 1)))],[(244,[.trs 2 (p0.map bJ)])]⟩
abbrev aXs:=fun p1 p2 p3 p4 p0 dI iM (r:List aV)=>Lok Tryz.prog 247 4 (BQ Zq Zr r) (bVw p1 p2 p3 p4 p0 dI iM)
def cJb (p1:Int) (p3:Int) (p4:dJ) (dI:Int) (p2:Int) (oV:List aV):St:=⟨[(0,.tre 244),(1,vI p1),(3,vI p3),(4,.d (kX p4)),(18,vI (QA .i64 (QB (QA .u64 (QA .i64 (p1+p3))) (2 ^ 1)))),(20,vI dI),(24,vI (QA .i64 ((QA .i64 ((QA .i64 (QB (QA .u64 (QA .i64 (p1+p3))) (2 ^ 1)))+p2)) - dI)))],[(244,[.trs 2 (oV.map bJ)])]⟩
abbrev aYe:=fun p1 p3 p4 dI p2 oV (r:List aV)=>Jok Tryz.prog 247 42 (BQ Zq Zr r) (cJb p1 p3 p4 dI p2 oV)
def cAn (p3:Int) (p4:dJ) (p1:Int) (p2:Int) (dI:Int) (pR:List aV):St:=⟨[(0,.tre 244),(3,vI p3),(4,.d (kX p4)),(18,vI (QA .i64 (QB (QA .u64 (QA .i64 (p1+p3))) (2 ^ 1)))),(24,vI (QA .i64 ((QA .i64 ((QA .i64 (QB (QA .u64 (QA .i64 (p1+p3))) (2 ^ 1)))+p2)) - dI)))],[(244,[.trs 2 (pR.map bJ)])]⟩
abbrev aYo:=fun p3 p4 p1 p2 dI pR (r:List aV)=>Jok Tryz.prog 247 44 (BQ Zq Zr r) (cAn p3 p4 p1 p2 dI pR)
def bUo (p2:eT) (p0:aV) (p1:aV) (x12:Int):St:=⟨[(3,.ptr 3 0),(4,.ptr 4 0),(10,aT5 p2.order),(11,vI (p2.order.length:Int)),(12,vI x12)],[(3,aSb p0),(4,aSb p1)]⟩
abbrev bAo:=fun p2 p0 p1 x12 r=>Lok Tryz.prog 191 0 (PQ (fun y=>(vI y)) r) (bUo p2 p0 p1 x12)
def cGh (p2:eT) (x12:Int) (p0:aV) (p1:aV) (x8:Int):St:=⟨[(3,.ptr 3 0),(4,.ptr 4 0),(8,vI x8),(10,aT5 p2.order),(11,vI (p2.order.length:Int)),(12,vI x12)],[(3,aSb p0),(4,aSb p1)]⟩
abbrev bBu:=fun p2 x12 p0 p1 x8 r=>Jok Tryz.prog 191 8 (PQ (fun y=>(vI y)) r) (cGh p2 x12 p0 p1 x8)
def bZq (p2:Int) (p4:dJ) (x10:Int) (x11:Int) (aL:List aV):St:=⟨[(0,.tre 244),(2,vI p2),(4,.d (kX p4)),(10,vI x10),(11,vI x11)],[(244,[.trs 2 (aL.map bJ)])]⟩
abbrev bCb:=fun p2 p4 x10 x11 aL (r:List aV)=>Lok Tryz.prog 251 0 (BQ Zq Zr r) (bZq p2 p4 x10 x11 aL)
def bQz (p1:Int) (p2:Int) (p3:Int) (x10:Int) (aL:List aV):St:=⟨[(0,.tre 244),(1,vI p1),(2,vI p2),(3,vI p3),(10,vI x10)],[(244,[.trs 2 (aL.map bJ)])]⟩
abbrev aZi:=fun p1 p2 p3 x10 aL (r:List aV)=>Lok Tryz.prog 252 0 (BQ Zq Zr r) (bQz p1 p2 p3 x10 aL)
def cNb (p1:Int) (p2:Int) (p3:dJ) (x8:Int) (aL:List aV):St:=⟨[(0,.tre 244),(1,vI p1),(2,vI p2),(3,.d (kX p3)),(8,vI x8)],[(244,[.trs 2 (aL.map bJ)])]⟩
abbrev bB8:=fun p1 p2 p3 x8 aL (r:List aV)=>Lok Tryz.prog 246 0 (BQ Zq Zr r) (cNb p1 p2 p3 x8 aL)
def bU0 (p1:Int) (p2:Int) (p3:dJ) (x8:Int) (x9:Int) (fO:List aV):St:=⟨[(0,.tre 244),(1,vI p1),(2,vI p2),(3,.d (kX p3)),(8,vI x8),(9,vI x9)],[(244,[.trs 2 (fO.map bJ)])]⟩
abbrev aUq:=fun p1 p2 p3 x8 x9 fO (r:List aV)=>Lok Tryz.prog 246 1 (BQ Zq Zr r) (bU0 p1 p2 p3 x8 x9 fO)
def bYl (p0:List (List aA)) (x9:Int) (aU:List (List aA)):St:=⟨[(3,.tre 329),(7,.d (.sl 1 (p0.map (cSl 3 aB)))),(8,vI (p0.length:Int)),(9,vI x9)],[(329,[.trc 1 (aU.map (cSl 3 aB))])]⟩
abbrev Zt (y:List (List aA)):List (Nat×List V):=[(262,[.trc 1 (y.map (cSl 3 aB))])]
abbrev Zs (y:List (List aA)):V:=(.tre 262)
abbrev aXw:=fun p0 x9 aU (r:List (List aA))=>Lok Tryz.prog 145 0 (BQ Zs Zt r) (bYl p0 x9 aU)
def cG3 (p0:List (List aA)) (x9:Int) (qV:List (List aA)):St:=⟨[(3,.tre 333),(7,.d (.sl 1 (p0.map (cSl 3 aB)))),(8,vI (p0.length:Int)),(9,vI x9)],[(333,[.trc 1 (qV.map (cSl 3 aB))])]⟩
abbrev aX3:=fun p0 x9 qV (r:List (List aA))=>Jok Tryz.prog 145 6 (BQ Zs Zt r) (cG3 p0 x9 qV)


def cKm (p0:List (List aA)) (p1:tK) (x8:Int):St:=⟨[(0,.d (.sl 1 (p0.map (cSl 3 aB)))),(1,.d (aNt p1)),(7,vI (p0.length:Int)),(8,vI x8)],[]⟩
abbrev bC9:=fun p0 p1 x8 r=>Lok Tryz.prog 139 0 (PQ (fun y=>(vI y)) r) (cKm p0 p1 x8)

def bWe (p0:List aA) (p1:List aA) (x13:Int):St:=⟨[(0,eF p0),(1,eF p1),(12,vI (p0.length:Int)),(13,vI x13)],[]⟩
abbrev aVa:=fun p0 p1 x13 r=>Lok Tryz.prog 194 0 (PQ (fun y=>(vB y)) r) (bWe p0 p1 x13)
def bRf (p1:aX) (p2:GDb) (p3:List (List aA)) (p0:List aJ) (x6:List cK) (x12:Int):St:=⟨[(1,.rp [.sl 2 (p1.tables.map fQ)]),(2,.rp [.sl 1 (p2.tables.map fU)]),(3,.rp [.sl 1 (p3.map (cSl 3 aB))]),(6,.osl 6 152 1 (x6.map iJ)),(10,dU p0),(11,vI (p0.length:Int)),(12,vI x12)],[]⟩
abbrev Zu (y:List cK):V:=(.osl 243 152 1 (y.map iJ))
abbrev aT1:=fun p1 p2 p3 p0 x6 x12 (r:List cK)=>Lok Tryz.prog 87 0 (BQ Zu (fun (y:List cK)=>[]) r) (bRf p1 p2 p3 p0 x6 x12)

def cJ8 (p0:List bD) (x4:Int) (aP:List bD):St:=⟨[(0,fV p0),(3,.msl 7 11 0 aP.length aP.length),(4,vI x4)],[(7,eY (aP.map dV))]⟩
abbrev aU7:=fun p0 x4 aP (r:List bD)=>Lok Tryz.prog 36 0 (PQ (fun y=>(.d (.sl 11 (y.map dV)))) r) (cJ8 p0 x4 aP)


def cId (p0:List aQ) (x4:Int) (aP:List aQ):St:=⟨[(0,iW p0),(3,.msl 7 8 0 aP.length aP.length),(4,vI x4)],[(7,eY (aP.map dX))]⟩
abbrev aU6:=fun p0 x4 aP (r:List aQ)=>Lok Tryz.prog 128 0 (PQ (fun y=>(.d (.sl 8 (y.map dX)))) r) (cId p0 x4 aP)
def bWd (p0:List aJ) (x4:Int) (aP:List aJ):St:=⟨[(0,dU p0),(3,.msl 7 10 0 aP.length aP.length),(4,vI x4)],[(7,eY (aP.map bC))]⟩
abbrev bE6:=fun p0 x4 aP (r:List aJ)=>Lok Tryz.prog 35 0 (PQ (fun y=>(.d (.sl 10 (y.map bC)))) r) (bWd p0 x4 aP)

def bX2 (p0:List (List UInt8)) (x4:Int) (aP:List (List UInt8)):St:=⟨[(0,nH p0),(3,.msl 7 1 0 aP.length aP.length),(4,vI x4)],[(7,eY (aP.map cStr))]⟩
abbrev bC1:=fun p0 x4 aP (r:List (List UInt8))=>Lok Tryz.prog 37 0 (PQ (fun y=>(.d (.sl 1 (y.map cStr)))) r) (bX2 p0 x4 aP)
def bZm (p0:List Int) (x4:Int) (aP:List Int):St:=⟨[(0,fI p0),(3,.msl 7 1 0 aP.length aP.length),(4,vI x4)],[(7,eY (aP.map cI))]⟩
abbrev aUa:=fun p0 x4 aP (r:List Int)=>Lok Tryz.prog 33 0 (PQ (fun y=>(.d (.sl 1 (y.map cI)))) r) (bZm p0 x4 aP)
def bRk (p0:List (List aJ)) (x4:Int) (aP:List (List aJ)):St:=⟨[(0,.d (.sl 1 (p0.map (cSl 10 bC)))),(3,.msl 7 1 0 aP.length aP.length),(4,vI x4)],[(7,eY (aP.map (cSl 10 bC)))]⟩
abbrev bD9:=fun p0 x4 aP (r:List (List aJ))=>Lok Tryz.prog 34 0 (PQ (fun y=>(.d (.sl 1 (y.map (cSl 10 bC))))) r) (bRk p0 x4 aP)

def cP6 (p0:List bH) (x4:Int) (aP:List bH):St:=⟨[(0,nN p0),(3,.msl 7 2 0 aP.length aP.length),(4,vI x4)],[(7,eY (aP.map fQ))]⟩
abbrev aVh:=fun p0 x4 aP (r:List bH)=>Lok Tryz.prog 31 0 (PQ (fun y=>(.d (.sl 2 (y.map fQ)))) r) (cP6 p0 x4 aP)

def bQ1 (p0:List bP) (x4:Int) (aP:List bP):St:=⟨[(0,mI p0),(3,.msl 7 2 0 aP.length aP.length),(4,vI x4)],[(7,eY (aP.map fM))]⟩
abbrev bC5:=fun p0 x4 aP (r:List bP)=>Lok Tryz.prog 125 0 (PQ (fun y=>(.d (.sl 2 (y.map fM)))) r) (bQ1 p0 x4 aP)


def cO7 (x1:Int) (x5:Int) (aL:List (List aJ)):St:=⟨[(0,.tre 244),(1,vI x1),(5,vI x5)],[(244,[.trc 1 (aL.map (cSl 10 bC))])]⟩
abbrev Zx (y:Int×(List (List aJ))):List (Nat×List V):=[(244,[.trc 1 (y.2.map (cSl 10 bC))])]
abbrev Zw (y:Int×(List (List aJ))):V:=(vI y.1)
abbrev aYf:=fun x1 x5 aL (r:Int×(List (List aJ)))=>Lok Tryz.prog 52 0 (BQ Zw Zx r) (cO7 x1 x5 aL)
def cEh (x1:Int) (x5:Int) (aL:List aJ):St:=⟨[(0,.tre 244),(1,vI x1),(5,vI x5)],[(244,[.trc 10 (aL.map bC)])]⟩
abbrev Zz (y:Int×(List aJ)):List (Nat×List V):=[(244,[.trc 10 (y.2.map bC)])]
abbrev Zy (y:Int×(List aJ)):V:=(vI y.1)
abbrev aT3:=fun x1 x5 aL (r:Int×(List aJ))=>Lok Tryz.prog 53 0 (BQ Zy Zz r) (cEh x1 x5 aL)
def cFi (x1:Int) (x5:Int) (aL:List aQ):St:=⟨[(0,.tre 244),(1,vI x1),(5,vI x5)],[(244,[.trc 8 (aL.map dX)])]⟩
abbrev ZB (y:Int×(List aQ)):List (Nat×List V):=[(244,[.trc 8 (y.2.map dX)])]
abbrev ZA (y:Int×(List aQ)):V:=(vI y.1)
abbrev aTa:=fun x1 x5 aL (r:Int×(List aQ))=>Lok Tryz.prog 100 0 (BQ ZA ZB r) (cFi x1 x5 aL)
def bQ7 (x1:Int) (x5:Int) (aL:List bD):St:=⟨[(0,.tre 244),(1,vI x1),(5,vI x5)],[(244,[.trc 11 (aL.map dV)])]⟩
abbrev ZD (y:Int×(List bD)):List (Nat×List V):=[(244,[.trc 11 (y.2.map dV)])]
abbrev ZC (y:Int×(List bD)):V:=(vI y.1)
abbrev aZd:=fun x1 x5 aL (r:Int×(List bD))=>Lok Tryz.prog 54 0 (BQ ZC ZD r) (bQ7 x1 x5 aL)
def cO0 (x1:Int) (x5:Int) (aL:List Int):St:=⟨[(0,.tre 244),(1,vI x1),(5,vI x5)],[(244,[.trc 1 (aL.map cI)])]⟩
abbrev ZF (y:Int×(List Int)):List (Nat×List V):=[(244,[.trc 1 (y.2.map cI)])]
abbrev ZE (y:Int×(List Int)):V:=(vI y.1)
abbrev bBh:=fun x1 x5 aL (r:Int×(List Int))=>Lok Tryz.prog 51 0 (BQ ZE ZF r) (cO0 x1 x5 aL)
def cC4 (x1:Int) (x5:Int) (aL:List (List UInt8)):St:=⟨[(0,.tre 244),(1,vI x1),(5,vI x5)],[(244,[.trc 1 (aL.map cStr)])]⟩
abbrev ZH (y:Int×(List (List UInt8))):List (Nat×List V):=[(244,[.trc 1 (y.2.map cStr)])]
abbrev ZG (y:Int×(List (List UInt8))):V:=(vI y.1)
abbrev bEm:=fun x1 x5 aL (r:Int×(List (List UInt8)))=>Lok Tryz.prog 55 0 (BQ ZG ZH r) (cC4 x1 x5 aL)

def cCa (p0:List bH) (x1:Int) (x5:Int):St:=⟨[(0,nN p0),(1,vI x1),(5,vI x5)],[]⟩
abbrev bCi:=fun p0 x1 x5 r=>Lok Tryz.prog 21 0 (PQ (fun y=>(vI y)) r) (cCa p0 x1 x5)

def cLh (p0:List bP) (x1:Int) (x5:Int):St:=⟨[(0,mI p0),(1,vI x1),(5,vI x5)],[]⟩
abbrev aVn:=fun p0 x1 x5 r=>Lok Tryz.prog 101 0 (PQ (fun y=>(vI y)) r) (cLh p0 x1 x5)


def cG0 (p0:List bD) (x1:Int) (x5:Int):St:=⟨[(0,fV p0),(1,vI x1),(5,vI x5)],[]⟩
abbrev bEo:=fun p0 x1 x5 r=>Lok Tryz.prog 26 0 (PQ (fun y=>(vI y)) r) (cG0 p0 x1 x5)


def bT3 (p0:List aQ) (x1:Int) (x5:Int):St:=⟨[(0,iW p0),(1,vI x1),(5,vI x5)],[]⟩
abbrev aVs:=fun p0 x1 x5 r=>Lok Tryz.prog 104 0 (PQ (fun y=>(vI y)) r) (bT3 p0 x1 x5)
def bV9 (p0:List aJ) (x1:Int) (x5:Int):St:=⟨[(0,dU p0),(1,vI x1),(5,vI x5)],[]⟩
abbrev bDd:=fun p0 x1 x5 r=>Lok Tryz.prog 25 0 (PQ (fun y=>(vI y)) r) (bV9 p0 x1 x5)

def cFq (p0:List (List aJ)) (x1:Int) (x5:Int):St:=⟨[(0,.d (.sl 1 (p0.map (cSl 10 bC)))),(1,vI x1),(5,vI x5)],[]⟩
abbrev aVm:=fun p0 x1 x5 r=>Lok Tryz.prog 24 0 (PQ (fun y=>(vI y)) r) (cFq p0 x1 x5)

def cDy (p0:List (List UInt8)) (x1:Int) (x5:Int):St:=⟨[(0,nH p0),(1,vI x1),(5,vI x5)],[]⟩
abbrev bDr:=fun p0 x1 x5 r=>Lok Tryz.prog 27 0 (PQ (fun y=>(vI y)) r) (cDy p0 x1 x5)

def bX4 (p0:List bD) (x4:Int) (aU:List bD):St:=⟨[(0,fV p0),(3,.tre 329),(4,vI x4)],[(329,[.trc 11 (aU.map dV)])]⟩
abbrev ZJ (y:List bD):List (Nat×List V):=[(262,[.trc 11 (y.map dV)])]
abbrev ZI (y:List bD):V:=(.tre 262)
abbrev bD4:=fun p0 x4 aU (r:List bD)=>Lok Tryz.prog 36 0 (BQ ZI ZJ r) (bX4 p0 x4 aU)


def bQ0 (p0:List aQ) (x4:Int) (aU:List aQ):St:=⟨[(0,iW p0),(3,.tre 329),(4,vI x4)],[(329,[.trc 8 (aU.map dX)])]⟩
abbrev ZL (y:List aQ):List (Nat×List V):=[(262,[.trc 8 (y.map dX)])]
abbrev ZK (y:List aQ):V:=(.tre 262)
abbrev aZ4:=fun p0 x4 aU (r:List aQ)=>Lok Tryz.prog 128 0 (BQ ZK ZL r) (bQ0 p0 x4 aU)
def bRs (p0:List aJ) (x4:Int) (aU:List aJ):St:=⟨[(0,dU p0),(3,.tre 329),(4,vI x4)],[(329,[.trc 10 (aU.map bC)])]⟩
abbrev ZN (y:List aJ):List (Nat×List V):=[(262,[.trc 10 (y.map bC)])]
abbrev ZM (y:List aJ):V:=(.tre 262)
abbrev aXi:=fun p0 x4 aU (r:List aJ)=>Lok Tryz.prog 35 0 (BQ ZM ZN r) (bRs p0 x4 aU)
def bYv (p0:List (List aJ)) (x4:Int) (aU:List (List aJ)):St:=⟨[(0,.d (.sl 1 (p0.map (cSl 10 bC)))),(3,.tre 329),(4,vI x4)],[(329,[.trc 1 (aU.map (cSl 10 bC))])]⟩
abbrev ZP (y:List (List aJ)):List (Nat×List V):=[(262,[.trc 1 (y.map (cSl 10 bC))])]
abbrev ZO (y:List (List aJ)):V:=(.tre 262)
abbrev aXj:=fun p0 x4 aU (r:List (List aJ))=>Lok Tryz.prog 34 0 (BQ ZO ZP r) (bYv p0 x4 aU)
def bRz (p0:List Int) (x4:Int) (aU:List Int):St:=⟨[(0,fI p0),(3,.tre 329),(4,vI x4)],[(329,[.trc 1 (aU.map cI)])]⟩
abbrev ZR (y:List Int):List (Nat×List V):=[(262,[.trc 1 (y.map cI)])]
abbrev ZQ (y:List Int):V:=(.tre 262)
abbrev aXp:=fun p0 x4 aU (r:List Int)=>Lok Tryz.prog 33 0 (BQ ZQ ZR r) (bRz p0 x4 aU)
def cNe (p0:List (List UInt8)) (x4:Int) (aU:List (List UInt8)):St:=⟨[(0,nH p0),(3,.tre 329),(4,vI x4)],[(329,[.trc 1 (aU.map cStr)])]⟩
abbrev ZT (y:List (List UInt8)):List (Nat×List V):=[(262,[.trc 1 (y.map cStr)])]
abbrev ZS (y:List (List UInt8)):V:=(.tre 262)
abbrev aVw:=fun p0 x4 aU (r:List (List UInt8))=>Lok Tryz.prog 37 0 (BQ ZS ZT r) (cNe p0 x4 aU)

def cFx (p0:List (List UInt8)) (p1:List (List UInt8)) (x5:Int):St:=⟨[(0,nH p0),(1,nH p1),(5,vI x5)],[]⟩
abbrev aY4:=fun p0 p1 x5 r=>Lok Tryz.prog 48 0 (PQ (fun y=>(vB y)) r) (cFx p0 p1 x5)
def cMg (p0:List bD) (p1:List bD) (x5:Int):St:=⟨[(0,fV p0),(1,fV p1),(5,vI x5)],[]⟩
abbrev aTc:=fun p0 p1 x5 r=>Lok Tryz.prog 47 0 (PQ (fun y=>(vB y)) r) (cMg p0 p1 x5)


def cFg (p0:List aQ) (p1:List aQ) (x5:Int):St:=⟨[(0,iW p0),(1,iW p1),(5,vI x5)],[]⟩
abbrev aUo:=fun p0 p1 x5 r=>Lok Tryz.prog 147 0 (PQ (fun y=>(vB y)) r) (cFg p0 p1 x5)
def bU9 (p0:List aJ) (p1:List aJ) (x5:Int):St:=⟨[(0,dU p0),(1,dU p1),(5,vI x5)],[]⟩
abbrev aXk:=fun p0 p1 x5 r=>Lok Tryz.prog 46 0 (PQ (fun y=>(vB y)) r) (bU9 p0 p1 x5)
def bT4 (p0:List (List aJ)) (p1:List (List aJ)) (x5:Int):St:=⟨[(0,.d (.sl 1 (p0.map (cSl 10 bC)))),(1,.d (.sl 1 (p1.map (cSl 10 bC)))),(5,vI x5)],[]⟩
abbrev aX0:=fun p0 p1 x5 r=>Lok Tryz.prog 45 0 (PQ (fun y=>(vB y)) r) (bT4 p0 p1 x5)
def cCt (p0:List Int) (p1:List Int) (x5:Int):St:=⟨[(0,fI p0),(1,fI p1),(5,vI x5)],[]⟩
abbrev aW6:=fun p0 p1 x5 r=>Lok Tryz.prog 44 0 (PQ (fun y=>(vB y)) r) (cCt p0 p1 x5)

def bTb (p0:List bH) (x4:Int) (aU:List bH):St:=⟨[(0,nN p0),(3,.tre 329),(4,vI x4)],[(329,[.trc 2 (aU.map fQ)])]⟩
abbrev ZV (y:List bH):List (Nat×List V):=[(262,[.trc 2 (y.map fQ)])]
abbrev ZU (y:List bH):V:=(.tre 262)
abbrev aVb:=fun p0 x4 aU (r:List bH)=>Lok Tryz.prog 31 0 (BQ ZU ZV r) (bTb p0 x4 aU)

def cLu (p0:List bP) (x4:Int) (aU:List bP):St:=⟨[(0,mI p0),(3,.tre 329),(4,vI x4)],[(329,[.trc 2 (aU.map fM)])]⟩
abbrev ZX (y:List bP):List (Nat×List V):=[(262,[.trc 2 (y.map fM)])]
abbrev ZW (y:List bP):V:=(.tre 262)
abbrev bCc:=fun p0 x4 aU (r:List bP)=>Lok Tryz.prog 125 0 (BQ ZW ZX r) (cLu p0 x4 aU)
def cBg (x1:Int) (x5:Int) (aL:List (List aA)):St:=⟨[(0,.tre 244),(1,vI x1),(5,vI x5)],[(244,[.trc 1 (aL.map (cSl 3 aB))])]⟩
abbrev ZZ (y:Int×(List (List aA))):List (Nat×List V):=[(244,[.trc 1 (y.2.map (cSl 3 aB))])]
abbrev ZY (y:Int×(List (List aA))):V:=(vI y.1)
abbrev aU5:=fun x1 x5 aL (r:Int×(List (List aA)))=>Lok Tryz.prog 19 0 (BQ ZY ZZ r) (cBg x1 x5 aL)
def bZw (x1:Int) (x5:Int) (aL:List aA):St:=⟨[(0,.tre 244),(1,vI x1),(5,vI x5)],[(244,[.trc 3 (aL.map aB)])]⟩
abbrev Z11 (y:Int×(List aA)):List (Nat×List V):=[(244,[.trc 3 (y.2.map aB)])]
abbrev aYl:=fun x1 x5 aL (r:Int×(List aA))=>Lok Tryz.prog 56 0 (BQ (fun (y:Int×(List aA))=>(vI y.1)) Z11 r) (bZw x1 x5 aL)

def cA3 (p0:List bH) (p1:List bH) (x5:Int):St:=⟨[(0,nN p0),(1,nN p1),(5,vI x5)],[]⟩
abbrev bAr:=fun p0 p1 x5 r=>Lok Tryz.prog 42 0 (PQ (fun y=>(vB y)) r) (cA3 p0 p1 x5)

def bXk (p0:List bP) (p1:List bP) (x5:Int):St:=⟨[(0,mI p0),(1,mI p1),(5,vI x5)],[]⟩
abbrev aZw:=fun p0 p1 x5 r=>Lok Tryz.prog 146 0 (PQ (fun y=>(vB y)) r) (bXk p0 p1 x5)


def cDz (x1:Int) (x5:Int) (aL:List bN):St:=⟨[(0,.tre 244),(1,vI x1),(5,vI x5)],[(244,[.trc 1 (aL.map fU)])]⟩
abbrev Z13 (y:Int×(List bN)):List (Nat×List V):=[(244,[.trc 1 (y.2.map fU)])]
abbrev Z12 (y:Int×(List bN)):V:=(vI y.1)
abbrev bC0:=fun x1 x5 aL (r:Int×(List bN))=>Lok Tryz.prog 50 0 (BQ Z12 Z13 r) (cDz x1 x5 aL)

def cIo (p0:List bN) (x4:Int) (aP:List bN):St:=⟨[(0,pK p0),(3,.msl 7 1 0 aP.length aP.length),(4,vI x4)],[(7,eY (aP.map fU))]⟩
abbrev bDn:=fun p0 x4 aP (r:List bN)=>Lok Tryz.prog 32 0 (PQ (fun y=>(.d (.sl 1 (y.map fU)))) r) (cIo p0 x4 aP)

def bPd (p0:List aA) (x4:Int) (aP:List aA):St:=⟨[(0,eF p0),(3,.msl 7 3 0 aP.length aP.length),(4,vI x4)],[(7,eY (aP.map aB))]⟩
abbrev aYn:=fun p0 x4 aP (r:List aA)=>Lok Tryz.prog 166 0 (PQ (fun y=>(.d (.sl 3 (y.map aB)))) r) (bPd p0 x4 aP)
def bZ5 (p0:List (List aA)) (x1:Int) (x5:Int):St:=⟨[(0,.d (.sl 1 (p0.map (cSl 3 aB)))),(1,vI x1),(5,vI x5)],[]⟩
abbrev aUn:=fun p0 x1 x5 r=>Lok Tryz.prog 20 0 (PQ (fun y=>(vI y)) r) (bZ5 p0 x1 x5)
def cKt (p0:List aA) (x1:Int) (x5:Int):St:=⟨[(0,eF p0),(1,vI x1),(5,vI x5)],[]⟩
abbrev aV5:=fun p0 x1 x5 r=>Lok Tryz.prog 57 0 (PQ (fun y=>(vI y)) r) (cKt p0 x1 x5)


def cP9 (y1:List aJ) (x3:Int) (x5:Int):St:=⟨[(3,vI x3),(4,.osl 4 133 10 (y1.map bC)),(5,vI x5)],[]⟩
abbrev aTz:=fun y1 x3 x5 r=>Lok Tryz.prog 64 0 (PQ (fun y=>(vI y)) r) (cP9 y1 x3 x5)
def cCs (p0:aQ) (x3:List aJ) (x4:Int):St:=⟨[(1,.ptr 1 0),(3,.osl 3 133 10 (x3.map bC)),(4,vI x4)],[(1,lV p0)]⟩
abbrev aYq:=fun p0 x3 x4 (r:List aJ)=>Lok Tryz.prog 109 0 (BQ Ze Zf r) (cCs p0 x3 x4)
def cLl (p0:aQ) (fH:List aJ) (x5:Int):St:=⟨[(1,.ptr 1 0),(3,.osl 3 133 10 (fH.map bC)),(5,vI x5)],[(1,lV p0)]⟩
abbrev bBk:=fun p0 fH x5 (r:List aJ)=>Lok Tryz.prog 109 1 (BQ Ze Zf r) (cLl p0 fH x5)
def cKk (p0:aJ) (x3:Int) (x4:Int):St:=⟨[(1,.ptr 1 0),(3,vI x3),(4,vI x4)],[(1,uI p0)]⟩
abbrev aXx:=fun p0 x3 x4 r=>Lok Tryz.prog 112 0 (PQ (fun y=>(vI y)) r) (cKk p0 x3 x4)
def cAg (p0:aJ) (rF:Int) (x5:Int):St:=⟨[(1,.ptr 1 0),(3,vI rF),(5,vI x5)],[(1,uI p0)]⟩
abbrev bAw:=fun p0 rF x5 r=>Lok Tryz.prog 112 1 (PQ (fun y=>(vI y)) r) (cAg p0 rF x5)
def bTu (y1:List aJ) (x3:Int) (x5:Int):St:=⟨[(3,vI x3),(4,.osl 4 133 10 (y1.map bC)),(5,vI x5)],[]⟩
abbrev aXl:=fun y1 x3 x5 r=>Lok Tryz.prog 63 0 (PQ (fun y=>(vI y)) r) (bTu y1 x3 x5)

def cB8 (p0:aJ) (x3:Int) (x4:Int):St:=⟨[(1,.ptr 1 0),(3,vI x3),(4,vI x4)],[(1,uI p0)]⟩
abbrev bAv:=fun p0 x3 x4 r=>Lok Tryz.prog 111 0 (PQ (fun y=>(vI y)) r) (cB8 p0 x3 x4)
def bUp (p0:aJ) (fH:Int) (x5:Int):St:=⟨[(1,.ptr 1 0),(3,vI fH),(5,vI x5)],[(1,uI p0)]⟩
abbrev bAz:=fun p0 fH x5 r=>Lok Tryz.prog 111 1 (PQ (fun y=>(vI y)) r) (bUp p0 fH x5)
def bT0 (p1:List (List Int)) (p0:aX) (p2:aQ) (x8:Int):St:=⟨[(1,.d (.sl 1 (p1.map (cSl 1 cI)))),(3,.ptr 3 0),(5,.ptr 5 0),(8,vI x8)],[(3,eU p0),(5,lV p2)]⟩
abbrev aVl:=fun p1 p0 p2 x8 (r:(List Int)×Bool)=>Lok Tryz.prog 65 0 (BQ Zg Zh r) (bT0 p1 p0 p2 x8)
def cOu (y8:List (List Int)) (p0:aX) (p2:aQ) (x14:Int):St:=⟨[(3,.ptr 3 0),(5,.ptr 5 0),(13,.osl 13 28 1 (y8.map (cSl 1 cI))),(14,vI x14)],[(3,eU p0),(5,lV p2)]⟩
abbrev aY9:=fun y8 p0 p2 x14 (r:(List Int)×Bool)=>Lok Tryz.prog 65 1 (BQ Zg Zh r) (cOu y8 p0 p2 x14)
def bTw (y8:List (List Int)) (p0:aX) (p2:aQ) (x17:List Int) (x18:Int):St:=⟨[(3,.ptr 3 0),(5,.ptr 5 0),(13,.osl 13 28 1 (y8.map (cSl 1 cI))),(17,.osl 17 3 1 (x17.map cI)),(18,vI x18)],[(3,eU p0),(5,lV p2)]⟩
abbrev bBd:=fun y8 p0 p2 x17 x18 (r:(List Int)×Bool)=>Lok Tryz.prog 65 2 (BQ Zg Zh r) (bTw y8 p0 p2 x17 x18)
def cI1 (p1:List (List Int)) (p0:aX) (p2:aJ) (x8:List Int) (x9:Int):St:=⟨[(1,.d (.sl 1 (p1.map (cSl 1 cI)))),(3,.ptr 3 0),(5,.ptr 5 0),(8,.osl 8 3 1 (x8.map cI)),(9,vI x9)],[(3,eU p0),(5,uI p2)]⟩
abbrev aTv:=fun p1 p0 p2 x8 x9 (r:Int×Bool)=>Lok Tryz.prog 117 0 (PQ (fun y=>(.tup [vI y.1,vB y.2])) r) (cI1 p1 p0 p2 x8 x9)
def cOb (p2:aJ) (X7:List Int):St:=⟨[(5,.ptr 5 0),(8,.osl 8 3 1 (X7.map cI))],[(5,uI p2)]⟩
abbrev bQy:=fun p2 X7 (r:Int×Bool)=>Jok Tryz.prog 117 27 (PQ (fun y=>(.tup [vI y.1,vB y.2])) r) (cOb p2 X7)
def bV0 (p0:aJ) (y3:List eZ) (y4:List jI) (M0:List UInt8):St:=⟨[(3,.ptr 3 0)],[(3,cK5 (eZ.mk p0.kind p0.op p0.not_ p0.value [] M0 y3 y4))]⟩
abbrev bSn:=fun p0 y3 y4 M0 r=>Jok Tryz.prog 151 5 (PQ (fun y=>(vB y)) r) (bV0 p0 y3 y4 M0)







def bSf (p1:Int) (p2:Int) (x10:Int):St:=⟨[(1,vI p1),(2,vI p2),(10,vI x10)],[]⟩
abbrev bYg:=fun p1 p2 x10 (r:Int×Bool)=>Jok Tryz.prog 153 12 (PQ (fun y=>(.tup [vI y.1,vB y.2])) r) (bSf p1 p2 x10)




def bQh (p0:List Int) (x3:Int) (x4:Int):St:=⟨[(0,fI p0),(3,vI x3),(4,vI x4)],[]⟩
abbrev aXy:=fun p0 x3 x4 r=>Lok Tryz.prog 155 0 (PQ (fun y=>(vB y)) r) (bQh p0 x3 x4)


def cG7 (p1:List (List Int)) (p2:List aJ) (p0:aX) (x7:Int):St:=⟨[(1,.d (.sl 1 (p1.map (cSl 1 cI)))),(2,dU p2),(3,.ptr 3 0),(7,vI x7)],[(3,eU p0)]⟩
abbrev aVx:=fun p1 p2 p0 x7 r=>Lok Tryz.prog 115 0 (PQ (fun y=>(vB y)) r) (cG7 p1 p2 p0 x7)
def cJa (p0:aX) (p1:aQ) (x5:Int):St:=⟨[(2,.ptr 2 0),(3,.ptr 3 0),(5,vI x5)],[(2,eU p0),(3,lV p1)]⟩
abbrev bAy:=fun p0 p1 x5 r=>Lok Tryz.prog 113 0 (PQ (fun y=>(vB y)) r) (cJa p0 p1 x5)
def bVg (p0:aX) (p1:aQ) (x6:Int):St:=⟨[(2,.ptr 2 0),(3,.ptr 3 0),(6,vI x6)],[(2,eU p0),(3,lV p1)]⟩
abbrev aZc:=fun p0 p1 x6 r=>Lok Tryz.prog 113 1 (PQ (fun y=>(vB y)) r) (bVg p0 p1 x6)
def cHu (p1:List Int) (p0:aX) (x6:List Int) (x7:Int):St:=⟨[(1,fI p1),(2,.ptr 2 0),(6,.osl 6 3 1 (x6.map cI)),(7,vI x7)],[(2,eU p0)]⟩
abbrev aZb:=fun p1 p0 x6 x7 (r:(List Int)×Bool)=>Lok Tryz.prog 114 0 (BQ Zg Zh r) (cHu p1 p0 x6 x7)
def bR1 (p0:bH) (x3:List Int) (x4:Int):St:=⟨[(1,.ptr 1 0),(3,.osl 3 3 1 (x3.map cI)),(4,vI x4)],[(1,aSi p0)]⟩
abbrev aYk:=fun p0 x3 x4 (r:List Int)=>Lok Tryz.prog 67 0 (BQ Zb Zc r) (bR1 p0 x3 x4)
def cBo (p0:aX) (x3:Int):St:=⟨[(1,.ptr 1 0),(3,vI x3)],[(1,eU p0)]⟩
abbrev bB2:=fun p0 x3 r=>Lok Tryz.prog 62 0 (PQ (fun y=>(vB y)) r) (cBo p0 x3)
def cEu (x3:Int) (p0:aX) (y1:bH) (x5:Int):St:=⟨[(1,.ptr 1 0),(3,vI x3),(4,.ptr 4 0),(5,vI x5)],[(1,eU p0),(4,aSi y1)]⟩
abbrev bDc:=fun x3 p0 y1 x5 r=>Lok Tryz.prog 62 1 (PQ (fun y=>(vB y)) r) (cEu x3 p0 y1 x5)
def cAw (p1:List UInt8) (p0:aX) (x5:Int):St:=⟨[(1,vS p1),(2,.ptr 2 0),(5,vI x5)],[(2,eU p0)]⟩
abbrev aVe:=fun p1 p0 x5 r=>Lok Tryz.prog 106 0 (PQ (fun y=>(vI y)) r) (cAw p1 p0 x5)
def bXa (p1:List UInt8) (p0:bH) (x5:Int):St:=⟨[(1,vS p1),(2,.ptr 2 0),(5,vI x5)],[(2,aSi p0)]⟩
abbrev aVr:=fun p1 p0 x5 r=>Lok Tryz.prog 108 0 (PQ (fun y=>(vI y)) r) (bXa p1 p0 x5)
def bXy (p2:List (List aA)) (p0:aX) (p1:GDb) (p3:aQ) (x11:List (List aA)):St:=⟨[(2,.d (.sl 1 (p2.map (cSl 3 aB)))),(4,.ptr 4 0),(5,.ptr 5 0),(7,.ptr 7 0),(10,.osl 10 82 1 (([]:List (List aA)).map (cSl 3 aB))),(11,.d (.sl 1 (x11.map (cSl 3 aB))))],[(4,eU p0),(5,mR p1),(7,lV p3)]⟩
abbrev bCq:=fun p2 p0 p1 p3 x11 (r:(List (List aA))×Int)=>Jok Tryz.prog 30 13 (PQ (fun y=>(.tup [.d (.sl 1 (y.1.map (cSl 3 aB))),vI y.2])) r) (bXy p2 p0 p1 p3 x11)
def cEm (p3:aQ) (uE:List (List aA)):St:=⟨[(7,.ptr 7 0),(11,.osl 11 82 1 (uE.map (cSl 3 aB)))],[(7,lV p3)]⟩
abbrev cFv:=fun p3 uE (r:(List (List aA))×Int)=>Jok Tryz.prog 30 22 (PQ (fun y=>(.tup [.d (.sl 1 (y.1.map (cSl 3 aB))),vI y.2])) r) (cEm p3 uE)
def cDk (U5:List (List aA)):St:=⟨[(11,.d (.sl 1 (U5.map (cSl 3 aB))))],[]⟩
abbrev bYp:=fun U5 (r:(List (List aA))×Int)=>Jok Tryz.prog 30 24 (PQ (fun y=>(.tup [.d (.sl 1 (y.1.map (cSl 3 aB))),vI y.2])) r) (cDk U5)
def bRw (p2:List (List aA)) (p0:aX) (p1:GDb) (p3:aQ) (x10:List (List aA)) (x11:Int):St:=⟨[(2,.d (.sl 1 (p2.map (cSl 3 aB)))),(4,.ptr 4 0),(5,.ptr 5 0),(7,.ptr 7 0),(10,.d (.sl 1 (x10.map (cSl 3 aB)))),(11,vI x11)],[(4,eU p0),(5,mR p1),(7,lV p3)]⟩
abbrev bD1:=fun p2 p0 p1 p3 x10 x11 (r:(List (List aA))×Int)=>Lok Tryz.prog 69 0 (PQ (fun y=>(.tup [.d (.sl 1 (y.1.map (cSl 3 aB))),vI y.2])) r) (bRw p2 p0 p1 p3 x10 x11)
def cGy (p2:List (List aA)) (x10:List (List aA)) (x11:Int) (y2:bN) (p0:aX) (p1:GDb) (kp3q:aQ×(((List (List aA))×Int))):St:=⟨[(2,.d (.sl 1 (p2.map (cSl 3 aB)))),(4,.ptr 4 0),(5,.ptr 5 0),(7,.ptr 7 0),(10,.d (.sl 1 (x10.map (cSl 3 aB)))),(11,vI x11),(12,.d (.sl 1 (y2.rows.map (cSl 3 aB)))),(13,.osl 13 82 1 (kp3q.2.1.map (cSl 3 aB))),(14,vI kp3q.2.2)],[(4,eU p0),(5,mR p1),(7,lV kp3q.1)]⟩
abbrev aX9:=fun p2 x10 x11 y2 p0 p1 kp3q (r:(List (List aA))×Int)=>Lok Tryz.prog 69 1 (PQ (fun y=>(.tup [.d (.sl 1 (y.1.map (cSl 3 aB))),vI y.2])) r) (cGy p2 x10 x11 y2 p0 p1 kp3q)
def cPm (p2:List (List aA)) (x10:List (List aA)) (x11:Int) (y2:bN) (x14:Int) (p0:aX) (kp1:GDb×aQ×(((List (List aA))×Int))):St:=⟨[(2,.d (.sl 1 (p2.map (cSl 3 aB)))),(4,.ptr 4 0),(5,.ptr 5 0),(7,.ptr 7 0),(10,.d (.sl 1 (x10.map (cSl 3 aB)))),(11,vI x11),(12,.d (.sl 1 (y2.rows.map (cSl 3 aB)))),(13,.osl 13 82 1 (kp1.2.2.1.map (cSl 3 aB))),(14,vI x14),(15,vI kp1.2.2.2)],[(4,eU p0),(5,mR kp1.1),(7,lV kp1.2.1)]⟩
abbrev aXa:=fun p2 x10 x11 y2 x14 p0 kp1 (r:(List (List aA))×Int)=>Lok Tryz.prog 69 2 (PQ (fun y=>(.tup [.d (.sl 1 (y.1.map (cSl 3 aB))),vI y.2])) r) (cPm p2 x10 x11 y2 x14 p0 kp1)
def bRt (p2:List (List aA)) (p4:List aJ) (p0:aX) (p1:GDb) (x3:List (List aA)) (x12:Int):St:=⟨[(2,.d (.sl 1 (p2.map (cSl 3 aB)))),(3,.d (.sl 1 (x3.map (cSl 3 aB)))),(4,dU p4),(5,.ptr 5 0),(6,.ptr 6 0),(12,vI x12)],[(5,eU p0),(6,mR p1)]⟩
abbrev aZ7:=fun p2 p4 p0 p1 x3 x12 (r:(List (List aA))×Int)=>Lok Tryz.prog 70 0 (PQ (fun y=>(.tup [.d (.sl 1 (y.1.map (cSl 3 aB))),vI y.2])) r) (bRt p2 p4 p0 p1 x3 x12)
def bX0 (p2:List (List aA)) (x3:List (List aA)) (p4:List aJ) (x12:Int) (p0:aX) (p1:GDb) (kx13:(List (List aA))×Int):St:=⟨[(2,.d (.sl 1 (p2.map (cSl 3 aB)))),(3,.d (.sl 1 (x3.map (cSl 3 aB)))),(4,dU p4),(5,.ptr 5 0),(6,.ptr 6 0),(12,vI x12),(13,.osl 13 82 1 (kx13.1.map (cSl 3 aB))),(14,vI kx13.2)],[(5,eU p0),(6,mR p1)]⟩
abbrev aV7:=fun p2 x3 p4 x12 p0 p1 kx13 (r:(List (List aA))×Int)=>Lok Tryz.prog 70 1 (PQ (fun y=>(.tup [.d (.sl 1 (y.1.map (cSl 3 aB))),vI y.2])) r) (bX0 p2 x3 p4 x12 p0 p1 kx13)
def cB6 (p2:List (List aA)) (x3:List (List aA)) (p4:List aJ) (x12:Int) (x14:Int) (p0:aX) (kp1:GDb×(List (List aA))):St:=⟨[(2,.d (.sl 1 (p2.map (cSl 3 aB)))),(3,.d (.sl 1 (x3.map (cSl 3 aB)))),(4,dU p4),(5,.ptr 5 0),(6,.ptr 6 0),(12,vI x12),(13,.osl 13 82 1 (kp1.2.map (cSl 3 aB))),(14,vI x14)],[(5,eU p0),(6,mR kp1.1)]⟩
abbrev aTj:=fun p2 x3 p4 x12 x14 p0 kp1 (r:(List (List aA))×Int)=>Jok Tryz.prog 70 11 (PQ (fun y=>(.tup [.d (.sl 1 (y.1.map (cSl 3 aB))),vI y.2])) r) (cB6 p2 x3 p4 x12 x14 p0 kp1)

def bU7 (p2:List (List aA)) (p0:aX) (p1:GDb) (p3:aJ) (x10:List aA) (x11:Int):St:=⟨[(2,.d (.sl 1 (p2.map (cSl 3 aB)))),(4,.ptr 4 0),(5,.ptr 5 0),(7,.ptr 7 0),(8,.ptr 8 0),(10,.osl 10 130 3 (x10.map aB)),(11,vI x11)],[(4,eU p0),(5,mR p1),(7,uI p3),(8,[vI 0,vI 0,vS []])]⟩
abbrev aZn:=fun p2 p0 p1 p3 x10 x11 (r:aA×Int)=>Lok Tryz.prog 120 0 (PQ (fun y=>(.tup [bX y.1,vI y.2])) r) (bU7 p2 p0 p1 p3 x10 x11)
def bRq (p2:List (List aA)) (x10:List aA) (p3:aJ) (x14:List (List aA)):St:=⟨[(2,.d (.sl 1 (p2.map (cSl 3 aB)))),(7,.ptr 7 0),(8,.ptr 8 0),(10,.osl 10 130 3 (x10.map aB)),(14,.d (.sl 1 (x14.map (cSl 3 aB))))],[(7,uI p3),(8,[vI 0,vI 0,vS []])]⟩
abbrev bVd:=fun p2 x10 p3 x14 (r:aA×Int)=>Jok Tryz.prog 120 15 (PQ (fun y=>(.tup [bX y.1,vI y.2])) r) (bRq p2 x10 p3 x14)
def cMr (x10:List aA) (x14:List (List aA)) (p3:aJ) (x21:List aA) (x22:Int):St:=⟨[(7,.ptr 7 0),(8,.ptr 8 0),(10,.osl 10 130 3 (x10.map aB)),(14,.d (.sl 1 (x14.map (cSl 3 aB)))),(21,.osl 21 130 3 (x21.map aB)),(22,vI x22)],[(7,uI p3),(8,[vI 0,vI 0,vS []])]⟩
abbrev aVu:=fun x10 x14 p3 x21 x22 (r:aA×Int)=>Lok Tryz.prog 120 1 (PQ (fun y=>(.tup [bX y.1,vI y.2])) r) (cMr x10 x14 p3 x21 x22)









def cKi (p0:Int) (p1:aA) (p2:aA) (O7:Bool):St:=⟨[(0,vI p0),(4,.ptr 4 0),(5,.ptr 5 0),(6,.ptr 6 0),(112,vB O7)],[(4,F7 p1),(5,F7 p2),(6,[vI 0,vI 0,vS []])]⟩
abbrev bQ4:=fun p0 p1 p2 O7 (r:aA×Int)=>Jok Tryz.prog 159 29 (PQ (fun y=>(.tup [bX y.1,vI y.2])) r) (cKi p0 p1 p2 O7)








def cJm (p1:List aA) (p0:aA) (x7:Int) (iX:Int) (iU:Int) (iV:List UInt8):St:=⟨[(1,eF p1),(2,.ptr 2 0),(4,.ptr 4 0),(6,.ptr 6 0),(7,vI x7)],[(2,F7 p0),(4,[vI 0,vI 0,vS []]),(6,F7 (aA.mk iX iU iV))]⟩
abbrev bC8:=fun p1 p0 x7 iX iU iV (r:aA×Int)=>Lok Tryz.prog 163 0 (PQ (fun y=>(.tup [bX y.1,vI y.2])) r) (cJm p1 p0 x7 iX iU iV)
def bYo (p0:aJ) (x13:Bool):St:=⟨[(3,vI (p0.kids.length:Int)),(4,vI (p0.sub.length:Int)),(12,vI p0.kind),(13,vB x13)],[]⟩
abbrev cC8:=fun p0 x13 r=>Jok Tryz.prog 157 5 (PQ (fun y=>(vB y)) r) (bYo p0 x13)
def cCb (p0:aJ) (x20:Bool):St:=⟨[(3,vI (p0.kids.length:Int)),(4,vI (p0.sub.length:Int)),(12,vI p0.kind),(20,vB x20)],[]⟩
abbrev cFp:=fun p0 x20 r=>Jok Tryz.prog 157 8 (PQ (fun y=>(vB y)) r) (cCb p0 x20)


def cG9 (p0:GDb) (p1:aQ) (x5:Int):St:=⟨[(2,.ptr 2 0),(3,.ptr 3 0),(5,vI x5)],[(2,mR p0),(3,lV p1)]⟩
abbrev bEd:=fun p0 p1 x5 r=>Lok Tryz.prog 68 0 (PQ (fun y=>(vB y)) r) (cG9 p0 p1 x5)
def cLk (p0:List (List aA)) (x3:List (List aA)) (x4:Int):St:=⟨[(0,.d (.sl 1 (p0.map (cSl 3 aB)))),(3,.osl 3 82 1 (x3.map (cSl 3 aB))),(4,vI x4)],[]⟩
abbrev Z14 (y:List (List aA)):V:=(.osl 243 82 1 (y.map (cSl 3 aB)))
abbrev Z15 (y:List (List aA)):List (Nat×List V):=[]
abbrev bCj:=fun p0 x3 x4 (r:List (List aA))=>Lok Tryz.prog 73 0 (BQ Z14 Z15 r) (cLk p0 x3 x4)
def cBx (p0:List (List aA)) (x3:List (List aA)) (x4:Int) (x5:Bool) (x6:Int):St:=⟨[(0,.d (.sl 1 (p0.map (cSl 3 aB)))),(3,.osl 3 82 1 (x3.map (cSl 3 aB))),(4,vI x4),(5,vB x5),(6,vI x6)],[]⟩
abbrev aUw:=fun p0 x3 x4 x5 x6 (r:List (List aA))=>Lok Tryz.prog 73 1 (BQ Z14 Z15 r) (cBx p0 x3 x4 x5 x6)
def bXv (p0:List (List aA)) (x4:Int) (uA:List (List aA)):St:=⟨[(0,.d (.sl 1 (p0.map (cSl 3 aB)))),(3,.osl 3 82 1 (uA.map (cSl 3 aB))),(4,vI x4)],[]⟩
abbrev aXu:=fun p0 x4 uA (r:List (List aA))=>Jok Tryz.prog 73 6 (BQ Z14 Z15 r) (bXv p0 x4 uA)
def cJy (p0:List aA) (p1:List aA) (x5:Int):St:=⟨[(0,eF p0),(1,eF p1),(5,vI x5)],[]⟩
abbrev bBx:=fun p0 p1 x5 r=>Lok Tryz.prog 124 0 (PQ (fun y=>(vB y)) r) (cJy p0 p1 x5)
def cIz (p2:List (List aA)) (p3:List (List aA)) (p4:List bD) (p0:aX) (p1:GDb) (x12:List (List aA)) (kx13:(List (List aA))×Int):St:=⟨[(2,.d (.sl 1 (p2.map (cSl 3 aB)))),(3,.d (.sl 1 (p3.map (cSl 3 aB)))),(4,fV p4),(5,.ptr 5 0),(6,.ptr 6 0),(12,.osl 12 82 1 (x12.map (cSl 3 aB))),(13,.osl 13 82 1 (kx13.1.map (cSl 3 aB))),(14,vI kx13.2)],[(5,eU p0),(6,mR p1)]⟩
abbrev bA7:=fun p2 p3 p4 p0 p1 x12 kx13 (r:(List (List aA))×Int)=>Lok Tryz.prog 71 0 (BQ Zo Zp r) (cIz p2 p3 p4 p0 p1 x12 kx13)
def cDj (p2:List (List aA)) (p3:List (List aA)) (p4:List bD) (x12:List (List aA)) (x13:List (List aA)) (x14:Int) (kp0q:aX×GDb×(List aA)×Int):St:=⟨[(2,.d (.sl 1 (p2.map (cSl 3 aB)))),(3,.d (.sl 1 (p3.map (cSl 3 aB)))),(4,fV p4),(5,.ptr 5 0),(6,.ptr 6 0),(12,.osl 12 82 1 (x12.map (cSl 3 aB))),(13,.osl 13 82 1 (x13.map (cSl 3 aB))),(14,vI x14),(15,.osl 15 130 3 (kp0q.2.2.1.map aB)),(16,vI kp0q.2.2.2)],[(5,eU kp0q.1),(6,mR kp0q.2.1)]⟩
abbrev bAc:=fun p2 p3 p4 x12 x13 x14 kp0q (r:(List (List aA))×Int)=>Lok Tryz.prog 71 1 (BQ Zo Zp r) (cDj p2 p3 p4 x12 x13 x14 kp0q)
def cPn (p2:List (List aA)) (p3:List (List aA)) (p4:List bD) (x12:List (List aA)) (x13:List (List aA)) (x14:Int) (kx15q:(List aA)×aX×GDb×Int):St:=⟨[(2,.d (.sl 1 (p2.map (cSl 3 aB)))),(3,.d (.sl 1 (p3.map (cSl 3 aB)))),(4,fV p4),(5,.ptr 5 0),(6,.ptr 6 0),(12,.osl 12 82 1 (x12.map (cSl 3 aB))),(13,.osl 13 82 1 (x13.map (cSl 3 aB))),(14,vI x14),(15,.osl 15 130 3 (kx15q.1.map aB)),(19,vI kx15q.2.2.2)],[(5,eU kx15q.2.1),(6,mR kx15q.2.2.1)]⟩
abbrev aTy:=fun p2 p3 p4 x12 x13 x14 kx15q (r:(List (List aA))×Int)=>Lok Tryz.prog 71 2 (BQ Zo Zp r) (cPn p2 p3 p4 x12 x13 x14 kx15q)
def cOa (p0:List aA) (p1:List aA) (p2:List bD) (x7:Int):St:=⟨[(0,eF p0),(1,eF p1),(2,fV p2),(7,vI x7)],[]⟩
abbrev aX6:=fun p0 p1 p2 x7 r=>Lok Tryz.prog 123 0 (PQ (fun y=>(vB y)) r) (cOa p0 p1 p2 x7)
def bRa (p0:List aA) (p1:List aA) (p2:List bD) (x7:Int) (x8:Int):St:=⟨[(0,eF p0),(1,eF p1),(2,fV p2),(7,vI x7),(8,vI x8)],[]⟩
abbrev aVp:=fun p0 p1 p2 x7 x8 r=>Jok Tryz.prog 123 7 (PQ (fun y=>(vB y)) r) (bRa p0 p1 p2 x7 x8)
def cJ5 (p2:List (List aA)) (p3:List (List aA)) (p4:List aJ) (p0:aX) (p1:GDb) (x12:List (List aA)) (x13:Int):St:=⟨[(2,.d (.sl 1 (p2.map (cSl 3 aB)))),(3,.d (.sl 1 (p3.map (cSl 3 aB)))),(4,dU p4),(5,.ptr 5 0),(6,.ptr 6 0),(12,.osl 12 82 1 (x12.map (cSl 3 aB))),(13,vI x13)],[(5,eU p0),(6,mR p1)]⟩
abbrev aZq:=fun p2 p3 p4 p0 p1 x12 x13 (r:(List (List aA))×Int)=>Lok Tryz.prog 72 0 (BQ Zo Zp r) (cJ5 p2 p3 p4 p0 p1 x12 x13)
def cOe (p2:List (List aA)) (p3:List (List aA)) (p4:List aJ) (x12:List (List aA)) (x13:Int) (p0:aX) (kp1:GDb×(List aA)×Int):St:=⟨[(2,.d (.sl 1 (p2.map (cSl 3 aB)))),(3,.d (.sl 1 (p3.map (cSl 3 aB)))),(4,dU p4),(5,.ptr 5 0),(6,.ptr 6 0),(12,.osl 12 82 1 (x12.map (cSl 3 aB))),(13,vI x13),(14,.osl 14 130 3 (kp1.2.1.map aB)),(15,vI kp1.2.2)],[(5,eU p0),(6,mR kp1.1)]⟩
abbrev aWv:=fun p2 p3 p4 x12 x13 p0 kp1 (r:(List (List aA))×Int)=>Lok Tryz.prog 72 1 (BQ Zo Zp r) (cOe p2 p3 p4 x12 x13 p0 kp1)
def cCn (p0:aX) (p1:GDb) (x5:Int):St:=⟨[(2,.ptr 2 0),(3,.ptr 3 0),(5,vI x5)],[(2,eU p0),(3,mR p1)]⟩
abbrev aW9:=fun p0 p1 x5 r=>Lok Tryz.prog 29 0 (PQ (fun y=>(vB y)) r) (cCn p0 p1 x5)
def bSp (x5:Int) (p0:aX) (p1:GDb) (x6:Int):St:=⟨[(2,.ptr 2 0),(3,.ptr 3 0),(5,vI x5),(6,vI x6)],[(2,eU p0),(3,mR p1)]⟩
abbrev bE2:=fun x5 p0 p1 x6 r=>Lok Tryz.prog 29 1 (PQ (fun y=>(vB y)) r) (bSp x5 p0 p1 x6)
def cK9 (p0:List aA) (p1:List Int) (x5:Int):St:=⟨[(0,eF p0),(1,fI p1),(5,vI x5)],[]⟩
abbrev bEl:=fun p0 p1 x5 r=>Lok Tryz.prog 66 0 (PQ (fun y=>(vB y)) r) (cK9 p0 p1 x5)


def cNl (p0:List bN) (x4:Int) (aU:List bN):St:=⟨[(0,pK p0),(3,.tre 329),(4,vI x4)],[(329,[.trc 1 (aU.map fU)])]⟩
abbrev Z17 (y:List bN):List (Nat×List V):=[(262,[.trc 1 (y.map fU)])]
abbrev Z16 (y:List bN):V:=(.tre 262)
abbrev aX7:=fun p0 x4 aU (r:List bN)=>Lok Tryz.prog 32 0 (BQ Z16 Z17 r) (cNl p0 x4 aU)

def cHv (p0:List (List aA)) (x4:Int) (aU:List (List aA)):St:=⟨[(0,.d (.sl 1 (p0.map (cSl 3 aB)))),(3,.tre 329),(4,vI x4)],[(329,[.trc 1 (aU.map (cSl 3 aB))])]⟩
abbrev aWa:=fun p0 x4 aU (r:List (List aA))=>Lok Tryz.prog 126 0 (BQ Zs Zt r) (cHv p0 x4 aU)
def cMa (p0:List aA) (x4:Int) (aU:List aA):St:=⟨[(0,eF p0),(3,.tre 329),(4,vI x4)],[(329,[.trc 3 (aU.map aB)])]⟩
abbrev Z19 (y:List aA):List (Nat×List V):=[(262,[.trc 3 (y.map aB)])]
abbrev Z18 (y:List aA):V:=(.tre 262)
abbrev aTk:=fun p0 x4 aU (r:List aA)=>Lok Tryz.prog 166 0 (BQ Z18 Z19 r) (cMa p0 x4 aU)

def bQb (p0:List bN) (x1:Int) (x5:Int):St:=⟨[(0,pK p0),(1,vI x1),(5,vI x5)],[]⟩
abbrev bBb:=fun p0 x1 x5 r=>Lok Tryz.prog 22 0 (PQ (fun y=>(vI y)) r) (bQb p0 x1 x5)

def bY4 (p0:List (List aA)) (x1:Int) (x5:Int):St:=⟨[(0,.d (.sl 1 (p0.map (cSl 3 aB)))),(1,vI x1),(5,vI x5)],[]⟩
abbrev aZv:=fun p0 x1 x5 r=>Lok Tryz.prog 102 0 (PQ (fun y=>(vI y)) r) (bY4 p0 x1 x5)
def bUn (p0:List aA) (x1:Int) (x5:Int):St:=⟨[(0,eF p0),(1,vI x1),(5,vI x5)],[]⟩
abbrev aWz:=fun p0 x1 x5 r=>Lok Tryz.prog 149 0 (PQ (fun y=>(vI y)) r) (bUn p0 x1 x5)
def cMv (p0:List (List aA)) (x4:Int) (aP:List (List aA)):St:=⟨[(0,.d (.sl 1 (p0.map (cSl 3 aB)))),(3,.msl 7 1 0 aP.length aP.length),(4,vI x4)],[(7,eY (aP.map (cSl 3 aB)))]⟩
abbrev bC3:=fun p0 x4 aP (r:List (List aA))=>Lok Tryz.prog 126 0 (PQ (fun y=>(.d (.sl 1 (y.map (cSl 3 aB))))) r) (cMv p0 x4 aP)
theorem bZk (x:bP) (h:∀ d∈fM x,OkD d):okGCol x:=⟨wY _ (dR h 0 1),nA _ (dR h 1 1)⟩
theorem cGb (x:bH) (h:∀ d∈fQ x,OkD d):okGTable x:=⟨wY _ (dR h 0 1),mU _ (fun y hy=>bZk y hy) (dR h 1 1)⟩
theorem cMj (x:aX) (h:∀ d∈nG x,OkD d):okGCatalog x:=mU _ (fun y hy=>cGb y hy) (dR h 0 1)
theorem F5 (x:aA) (h:∀ d∈aB x,OkD d):okGValue x:=⟨nA _ (dR h 0 1),nA _ (dR h 1 1),wY _ (dR h 2 1)⟩
theorem bUb (x:bN) (h:∀ d∈fU x,OkD d):okGData x:=mU _ (fun y hy=>mU _ (fun y hy=>F5 y hy) hy) (dR h 0 1)
theorem bYc (x:GDb) (h:∀ d∈nP x,OkD d):okGDb x:=mU _ (fun y hy=>bUb y hy) (dR h 0 1)
mutual
theorem bKc:∀ x:aJ,(∀ d∈bC x,OkD d)→okGPExpr x
  | ⟨a0,a1,a2,a3,a4,a5,a6,a7⟩,h0=>by
    rw [mZ] at h0
    have h:∀ d∈jQ ⟨a0,a1,a2,a3,a4,a5,a6,a7⟩,OkD d:=h0
    unfold okGPExpr
    exact ⟨nA _ (dR h 0 1),nA _ (dR h 1 1),trivial,F5 a3 (dR h 3 3),nA _ (dR h 6 1),nA _ (dR h 7 1),⟨by simpa using (jM (dR h 8 1)).1,aJp a6 (jM (dR h 8 1)).2⟩,⟨by simpa using (jM (dR h 9 1)).1,bM3 a7 (jM (dR h 9 1)).2⟩⟩
theorem bTv:∀ x:bD,(∀ d∈dV x,OkD d)→okGPSort x
  | ⟨a0,a1⟩,h0=>by
    rw [xH] at h0
    have h:∀ d∈xM ⟨a0,a1⟩,OkD d:=h0
    unfold okGPSort
    exact ⟨bKc a0 (by rw [mZ]; exact (dR h 0 10)),trivial⟩
theorem bGh:∀ x:aQ,(∀ d∈dX x,OkD d)→okGPlan x
  | ⟨a0,a1,a2,a3,a4,a5,a6,a7⟩,h0=>by
    rw [wS] at h0
    have h:∀ d∈xD ⟨a0,a1,a2,a3,a4,a5,a6,a7⟩,OkD d:=h0
    unfold okGPlan
    exact ⟨mU _ (fun y hy=>nA _ hy) (dR h 0 1),⟨by simpa using (jM (dR h 1 1)).1,bIs a1 (jM (dR h 1 1)).2⟩,⟨by simpa using (jM (dR h 2 1)).1,aJp a2 (jM (dR h 2 1)).2⟩,⟨by simpa using (jM (dR h 3 1)).1,bL2 a3 (jM (dR h 3 1)).2⟩,⟨by simpa using (jM (dR h 4 1)).1,aJp a4 (jM (dR h 4 1)).2⟩,mU _ (fun y hy=>wY _ hy) (dR h 5 1),trivial,nA _ (dR h 7 1)⟩
theorem aJp:∀ l:List aJ,(∀ x∈l.map bC,∀ d∈x,OkD d)→okLGPExpr l
  | [],_=>by unfold okLGPExpr; trivial
  | x::l,h=>by
    unfold okLGPExpr
    exact ⟨bKc x (h _ (by simp)),aJp l fun y hy=>h y (QE _ hy)⟩
theorem bL2:∀ l:List bD,(∀ x∈l.map dV,∀ d∈x,OkD d)→okLGPSort l
  | [],_=>by unfold okLGPSort; trivial
  | x::l,h=>by
    unfold okLGPSort
    exact ⟨bTv x (h _ (by simp)),bL2 l fun y hy=>h y (QE _ hy)⟩
theorem bM3:∀ l:List aQ,(∀ x∈l.map dX,∀ d∈x,OkD d)→okLGPlan l
  | [],_=>by unfold okLGPlan; trivial
  | x::l,h=>by
    unfold okLGPlan
    exact ⟨bGh x (h _ (by simp)),bM3 l fun y hy=>h y (QE _ hy)⟩
theorem bIs:∀ l:List (List aJ),(∀ x∈l.map (cSl 10 bC),∀ d∈x,OkD d)→okLLGPExpr l
  | [],_=>by unfold okLLGPExpr; trivial
  | x::l,h=>by
    unfold okLLGPExpr
    have h1:∀ d∈cSl 10 bC x,OkD d:=h _ (by simp)
    exact ⟨⟨by simpa using (jM h1).1,aJp x (jM h1).2⟩,bIs l fun y hy=>h y (QE _ hy)⟩
end
mutual
theorem bCu:∀ x:eZ,(∀ d∈qF x,OkD d)→okGExpr x
  | ⟨a0,a1,a2,a3,a4,a5,a6,a7⟩,h0=>by
    rw [aI2] at h0
    have h:∀ d∈aA1 ⟨a0,a1,a2,a3,a4,a5,a6,a7⟩,OkD d:=h0
    unfold okGExpr
    exact ⟨nA _ (dR h 0 1),nA _ (dR h 1 1),trivial,F5 a3 (dR h 3 3),wY _ (dR h 6 1),wY _ (dR h 7 1),⟨by simpa using (jM (dR h 8 1)).1,aRr a6 (jM (dR h 8 1)).2⟩,⟨by simpa using (jM (dR h 9 1)).1,bKb a7 (jM (dR h 9 1)).2⟩⟩
theorem bZp:∀ x:pO,(∀ d∈aDf x,OkD d)→okGItem x
  | ⟨a0,a1,a2,a3⟩,h0=>by
    rw [bRg] at h0
    have h:∀ d∈aJx ⟨a0,a1,a2,a3⟩,OkD d:=h0
    unfold okGItem
    exact ⟨trivial,wY _ (dR h 1 1),bCu a2 (by rw [aI2]; exact (dR h 2 10)),wY _ (dR h 12 1)⟩
theorem cBt:∀ x:jI,(∀ d∈vM x,OkD d)→okGQuery x
  | ⟨a0,a1,a2,a3,a4,a5⟩,h0=>by
    rw [bLk] at h0
    have h:∀ d∈aEz ⟨a0,a1,a2,a3,a4,a5⟩,OkD d:=h0
    unfold okGQuery
    exact ⟨trivial,⟨by simpa using (jM (dR h 1 1)).1,bLd a1 (jM (dR h 1 1)).2⟩,⟨by simpa using (jM (dR h 2 1)).1,bKr a2 (jM (dR h 2 1)).2⟩,⟨by simpa using (jM (dR h 3 1)).1,aRr a3 (jM (dR h 3 1)).2⟩,⟨by simpa using (jM (dR h 4 1)).1,bG7 a4 (jM (dR h 4 1)).2⟩,nA _ (dR h 5 1)⟩
theorem cD8:∀ x:oW,(∀ d∈aBe x,OkD d)→okGSortKey x
  | ⟨a0,a1⟩,h0=>by
    rw [bQx] at h0
    have h:∀ d∈aLq ⟨a0,a1⟩,OkD d:=h0
    unfold okGSortKey
    exact ⟨bCu a0 (by rw [aI2]; exact (dR h 0 10)),trivial⟩
theorem bUt:∀ x:oP,(∀ d∈aBu x,OkD d)→okGSource x
  | ⟨a0,a1,a2⟩,h0=>by
    rw [cCp] at h0
    have h:∀ d∈aMk ⟨a0,a1,a2⟩,OkD d:=h0
    unfold okGSource
    exact ⟨wY _ (dR h 0 1),wY _ (dR h 1 1),⟨by simpa using (jM (dR h 2 1)).1,aRr a2 (jM (dR h 2 1)).2⟩⟩
theorem aRr:∀ l:List eZ,(∀ x∈l.map qF,∀ d∈x,OkD d)→okLGExpr l
  | [],_=>by unfold okLGExpr; trivial
  | x::l,h=>by
    unfold okLGExpr
    exact ⟨bCu x (h _ (by simp)),aRr l fun y hy=>h y (QE _ hy)⟩
theorem bLd:∀ l:List pO,(∀ x∈l.map aDf,∀ d∈x,OkD d)→okLGItem l
  | [],_=>by unfold okLGItem; trivial
  | x::l,h=>by
    unfold okLGItem
    exact ⟨bZp x (h _ (by simp)),bLd l fun y hy=>h y (QE _ hy)⟩
theorem bKb:∀ l:List jI,(∀ x∈l.map vM,∀ d∈x,OkD d)→okLGQuery l
  | [],_=>by unfold okLGQuery; trivial
  | x::l,h=>by
    unfold okLGQuery
    exact ⟨cBt x (h _ (by simp)),bKb l fun y hy=>h y (QE _ hy)⟩
theorem bG7:∀ l:List oW,(∀ x∈l.map aBe,∀ d∈x,OkD d)→okLGSortKey l
  | [],_=>by unfold okLGSortKey; trivial
  | x::l,h=>by
    unfold okLGSortKey
    exact ⟨cD8 x (h _ (by simp)),bG7 l fun y hy=>h y (QE _ hy)⟩
theorem bKr:∀ l:List oP,(∀ x∈l.map aBu,∀ d∈x,OkD d)→okLGSource l
  | [],_=>by unfold okLGSource; trivial
  | x::l,h=>by
    unfold okLGSource
    exact ⟨bUt x (h _ (by simp)),bKr l fun y hy=>h y (QE _ hy)⟩
end
theorem cQt (x:jV) (h:∀ d∈aVz x,OkD d):okGForm x:=⟨trivial,trivial,trivial,trivial,nA _ (dR h 4 1),nA _ (dR h 5 1),nA _ (dR h 6 1)⟩
theorem bQ3 (x:lU) (h:∀ d∈uD x,OkD d):okGSortBy x:=⟨trivial,trivial⟩
theorem cSg (x:eT) (h:∀ d∈uC x,OkD d):okGExecution x:=⟨mU _ (fun y hy=>mU _ (fun y hy=>mU _ (fun y hy=>F5 y hy) hy) hy) (dR h 0 1),mU _ (fun y hy=>mU _ (fun y hy=>trivial) hy) (dR h 1 1),mU _ (fun y hy=>trivial) (dR h 2 1),mU _ (fun y hy=>bQ3 y hy) (dR h 3 1),trivial,trivial,nA _ (dR h 6 1)⟩
theorem cRj (x:oI) (h:∀ d∈bDi x,OkD d):okGNode x:=⟨nA _ (dR h 0 1),nA _ (dR h 1 1),trivial,F5 x.value (dR h 3 3),mU _ (fun y hy=>F5 y hy) (dR h 6 1),mU _ (fun y hy=>mU _ (fun y hy=>F5 y hy) hy) (dR h 7 1)⟩
theorem cS6 (x:aV) (h:∀ d∈bJ x,OkD d):okGKeyed x:=⟨mU _ (fun y hy=>F5 y hy) (dR h 0 1),mU _ (fun y hy=>F5 y hy) (dR h 1 1)⟩
theorem de9 {l:List D} (h:WtC Tryz.prog 9 l):∃ x:(List UInt8),l=cStr x:=(cBk h kr)
theorem de3 {l:List D} (h:WtC Tryz.prog 3 l):∃ x:Int,l=cI x:=(bV5 h (k:=.i64) kr)
theorem cHf {l:List D} (h:WtC Tryz.prog 207 l):∃ x:bP,l=fM x:=by
  obtain ⟨x0,e0⟩:=de9 (jK h 0 (off:=0) (n:=1) kr)
  obtain ⟨x1,e1⟩:=de3 (jK h 1 (off:=1) (n:=1) kr)
  exact ⟨⟨x0,x1⟩,dr1 (m:=1) kr e0 (dr1 (m:=2) kr e1 (dr0 (yU h (n:=2) kr)))⟩
theorem bXg {l:List D} (h:WtC Tryz.prog 97 l):∃ x:(List bP),l=(cSl 2 fM) x:=(aCi h (e:=207) (n:=2) (c:=fM) kr kr fun x hx=>cHf hx)
theorem cC1 {l:List D} (h:WtC Tryz.prog 99 l):∃ x:bH,l=fQ x:=by
  obtain ⟨x0,e0⟩:=de9 (jK h 0 (off:=0) (n:=1) kr)
  obtain ⟨x1,e1⟩:=bXg (jK h 1 (off:=1) (n:=1) kr)
  exact ⟨⟨x0,x1⟩,dr1 (m:=1) kr e0 (dr1 (m:=2) kr e1 (dr0 (yU h (n:=2) kr)))⟩
theorem bRi {l:List D} (h:WtC Tryz.prog 22 l):∃ x:(List bH),l=(cSl 2 fQ) x:=(aCi h (e:=99) (n:=2) (c:=fQ) kr kr fun x hx=>cC1 hx)
theorem bQf {l:List D} (h:WtC Tryz.prog 24 l):∃ x:aX,l=nG x:=by
  obtain ⟨x0,e0⟩:=bRi (jK h 0 (off:=0) (n:=1) kr)
  exact ⟨⟨x0⟩,dr1 (m:=1) kr e0 (dr0 (yU h (n:=1) kr))⟩
theorem bOt {l:List D} (h:WtC Tryz.prog 106 l):∃ x:aA,l=aB x:=by
  obtain ⟨x0,e0⟩:=de3 (jK h 0 (off:=0) (n:=1) kr)
  obtain ⟨x1,e1⟩:=de3 (jK h 1 (off:=1) (n:=1) kr)
  obtain ⟨x2,e2⟩:=de9 (jK h 2 (off:=2) (n:=1) kr)
  exact ⟨⟨x0,x1,x2⟩,dr1 (m:=1) kr e0 (dr1 (m:=2) kr e1 (dr1 (m:=3) kr e2 (dr0 (yU h (n:=3) kr))))⟩
theorem bW7 {l:List D} (h:WtC Tryz.prog 209 l):∃ x:(List aA),l=(cSl 3 aB) x:=(aCi h (e:=106) (n:=3) (c:=aB) kr kr fun x hx=>bOt hx)
theorem bV7 {l:List D} (h:WtC Tryz.prog 101 l):∃ x:(List (List aA)),l=(cSl 1 (cSl 3 aB)) x:=(aCi h (e:=209) (n:=1) (c:=(cSl 3 aB)) kr kr fun x hx=>bW7 hx)
theorem cKa {l:List D} (h:WtC Tryz.prog 103 l):∃ x:bN,l=fU x:=by
  obtain ⟨x0,e0⟩:=bV7 (jK h 0 (off:=0) (n:=1) kr)
  exact ⟨⟨x0⟩,dr1 (m:=1) kr e0 (dr0 (yU h (n:=1) kr))⟩
theorem bRu {l:List D} (h:WtC Tryz.prog 25 l):∃ x:(List bN),l=(cSl 1 fU) x:=(aCi h (e:=103) (n:=1) (c:=fU) kr kr fun x hx=>cKa hx)
theorem cFl {l:List D} (h:WtC Tryz.prog 27 l):∃ x:GDb,l=nP x:=by
  obtain ⟨x0,e0⟩:=bRu (jK h 0 (off:=0) (n:=1) kr)
  exact ⟨⟨x0⟩,dr1 (m:=1) kr e0 (dr0 (yU h (n:=1) kr))⟩
theorem bXl {l:List D} (h:WtC Tryz.prog 28 l):∃ x:(List Int),l=(cSl 1 cI) x:=(aCi h (e:=3) (n:=1) (c:=cI) kr kr fun x hx=>de3 hx)
theorem de4 {l:List D} (h:WtC Tryz.prog 4 l):∃ x:Bool,l=cB x:=(cGp h kr)
theorem bSa {l:List D} (h:WtC Tryz.prog 32 l):∃ x:(List (List UInt8)),l=(cSl 1 cStr) x:=(aCi h (e:=9) (n:=1) (c:=cStr) kr kr fun x hx=>de9 hx)
def aDx (n:Nat):Prop:=∀ m:List D,SizeOf.sizeOf m≤n→(WtC Tryz.prog 29 m→∃ x:(List (List aJ)),m=(cSl 1 (cSl 10 bC)) x)∧(WtC Tryz.prog 30 m→∃ x:(List aJ),m=(cSl 10 bC) x)∧(WtC Tryz.prog 31 m→∃ x:(List bD),m=(cSl 11 dV) x)∧(WtC Tryz.prog 107 m→∃ x:(List aQ),m=(cSl 8 dX) x)
theorem aOh {n m:Nat} (h:aDx n) (hm:m≤n):aDx m:=fun l hl=>h l (Nat.le_trans hl hm)
theorem aUc {l:List D} (H:aDx (SizeOf.sizeOf l)) (h:WtC Tryz.prog 109 l):∃ x:aJ,l=bC x:=by
  obtain ⟨x0,e0⟩:=de3 (jK h 0 (off:=0) (n:=1) (tf:=3) kr)
  obtain ⟨x1,e1⟩:=de3 (jK h 1 (off:=1) (n:=1) (tf:=3) kr)
  obtain ⟨x2,e2⟩:=de4 (jK h 2 (off:=2) (n:=1) (tf:=4) kr)
  obtain ⟨x3,e3⟩:=bOt (jK h 3 (off:=3) (n:=3) (tf:=106) kr)
  obtain ⟨x4,e4⟩:=de3 (jK h 4 (off:=6) (n:=1) (tf:=3) kr)
  obtain ⟨x5,e5⟩:=de3 (jK h 5 (off:=7) (n:=1) (tf:=3) kr)
  obtain ⟨x6,e6⟩:=(H _ (aD2 l 8 1)).2.1 (jK h 6 (off:=8) (n:=1) (tf:=30) kr)
  obtain ⟨x7,e7⟩:=(H _ (aD2 l 9 1)).2.2.2 (jK h 7 (off:=9) (n:=1) (tf:=107) kr)
  exact ⟨⟨x0,x1,x2,x3,x4,x5,x6,x7⟩,(show l=jQ ⟨x0,x1,x2,x3,x4,x5,x6,x7⟩ from (dr1 (m:=1) kr e0 (dr1 (m:=2) kr e1 (dr1 (m:=3) kr e2 (dr1 (m:=6) kr e3 (dr1 (m:=7) kr e4 (dr1 (m:=8) kr e5 (dr1 (m:=9) kr e6 (dr1 (m:=10) kr e7 (dr0 (yU h (n:=10) kr))))))))))).trans (mZ _).symm⟩
theorem bJq {l:List D} (H:aDx (SizeOf.sizeOf l)) (h:WtC Tryz.prog 112 l):∃ x:bD,l=dV x:=by
  obtain ⟨x0,e0⟩:=aUc (aOh H (aD2 l 0 10)) (jK h 0 (off:=0) (n:=10) (tf:=109) kr)
  rw [mZ] at e0
  obtain ⟨x1,e1⟩:=de4 (jK h 1 (off:=10) (n:=1) (tf:=4) kr)
  exact ⟨⟨x0,x1⟩,(show l=xM ⟨x0,x1⟩ from (dr1 (m:=10) kr e0 (dr1 (m:=11) kr e1 (dr0 (yU h (n:=11) kr))))).trans (xH _).symm⟩
theorem bFq {l:List D} (H:aDx (SizeOf.sizeOf l)) (h:WtC Tryz.prog 34 l):∃ x:aQ,l=dX x:=by
  obtain ⟨x0,e0⟩:=bXl (jK h 0 (off:=0) (n:=1) (tf:=28) kr)
  obtain ⟨x1,e1⟩:=(H _ (aD2 l 1 1)).1 (jK h 1 (off:=1) (n:=1) (tf:=29) kr)
  obtain ⟨x2,e2⟩:=(H _ (aD2 l 2 1)).2.1 (jK h 2 (off:=2) (n:=1) (tf:=30) kr)
  obtain ⟨x3,e3⟩:=(H _ (aD2 l 3 1)).2.2.1 (jK h 3 (off:=3) (n:=1) (tf:=31) kr)
  obtain ⟨x4,e4⟩:=(H _ (aD2 l 4 1)).2.1 (jK h 4 (off:=4) (n:=1) (tf:=30) kr)
  obtain ⟨x5,e5⟩:=bSa (jK h 5 (off:=5) (n:=1) (tf:=32) kr)
  obtain ⟨x6,e6⟩:=de4 (jK h 6 (off:=6) (n:=1) (tf:=4) kr)
  obtain ⟨x7,e7⟩:=de3 (jK h 7 (off:=7) (n:=1) (tf:=3) kr)
  exact ⟨⟨x0,x1,x2,x3,x4,x5,x6,x7⟩,(show l=xD ⟨x0,x1,x2,x3,x4,x5,x6,x7⟩ from (dr1 (m:=1) kr e0 (dr1 (m:=2) kr e1 (dr1 (m:=3) kr e2 (dr1 (m:=4) kr e3 (dr1 (m:=5) kr e4 (dr1 (m:=6) kr e5 (dr1 (m:=7) kr e6 (dr1 (m:=8) kr e7 (dr0 (yU h (n:=8) kr))))))))))).trans (wS _).symm⟩
theorem aCe:∀ n,aDx n:=by
  intro n
  induction n with
  | zero =>
    intro m hm
    have:m=[]:=by cases m with | nil=>rfl | cons x l=>simp at hm
    subst this
    exact ⟨fun h=>by obtain ⟨ls,hl,_⟩:=I4 h (e:=30) (n:=1) kr kr; simp at hl,fun h=>by obtain ⟨ls,hl,_⟩:=I4 h (e:=109) (n:=10) kr kr; simp at hl,fun h=>by obtain ⟨ls,hl,_⟩:=I4 h (e:=112) (n:=11) kr kr; simp at hl,fun h=>by obtain ⟨ls,hl,_⟩:=I4 h (e:=34) (n:=8) kr kr; simp at hl⟩
  | succ n ih =>
    intro m hm
    refine ⟨?_,?_,?_,?_⟩
    · intro h
      obtain ⟨ls,rfl,hx⟩:=I4 h (e:=30) (n:=1) kr kr
      have H:∀ x∈ls,∃ y:(List aJ),x=(cSl 10 bC) y:=fun x hm2=>(ih x (by have:=aNn (sz:=1) hm2; omega)).2.1 (hx x hm2)
      obtain ⟨ys,rfl⟩:=aE1 H
      exact ⟨ys,rfl⟩
    · intro h
      obtain ⟨ls,rfl,hx⟩:=I4 h (e:=109) (n:=10) kr kr
      have H:∀ x∈ls,∃ y:aJ,x=bC y:=fun x hm2=>aUc (aOh ih (by have:=aNn (sz:=10) hm2; omega)) (hx x hm2)
      obtain ⟨ys,rfl⟩:=aE1 H
      exact ⟨ys,rfl⟩
    · intro h
      obtain ⟨ls,rfl,hx⟩:=I4 h (e:=112) (n:=11) kr kr
      have H:∀ x∈ls,∃ y:bD,x=dV y:=fun x hm2=>bJq (aOh ih (by have:=aNn (sz:=11) hm2; omega)) (hx x hm2)
      obtain ⟨ys,rfl⟩:=aE1 H
      exact ⟨ys,rfl⟩
    · intro h
      obtain ⟨ls,rfl,hx⟩:=I4 h (e:=34) (n:=8) kr kr
      have H:∀ x∈ls,∃ y:aQ,x=dX y:=fun x hm2=>bFq (aOh ih (by have:=aNn (sz:=8) hm2; omega)) (hx x hm2)
      obtain ⟨ys,rfl⟩:=aE1 H
      exact ⟨ys,rfl⟩
theorem cSe {l:List D} (h:WtC Tryz.prog 29 l):∃ x:(List (List aJ)),l=(cSl 1 (cSl 10 bC)) x:=(aCe _ l (QH _)).1 h
theorem cTl {l:List D} (h:WtC Tryz.prog 30 l):∃ x:(List aJ),l=(cSl 10 bC) x:=(aCe _ l (QH _)).2.1 h
theorem cS4 {l:List D} (h:WtC Tryz.prog 31 l):∃ x:(List bD),l=(cSl 11 dV) x:=(aCe _ l (QH _)).2.2.1 h
theorem cTe {l:List D} (h:WtC Tryz.prog 107 l):∃ x:(List aQ),l=(cSl 8 dX) x:=(aCe _ l (QH _)).2.2.2 h
theorem cRl {l:List D} (h:WtC Tryz.prog 109 l):∃ x:aJ,l=bC x:=aUc (aCe _) h
theorem cQ5 {l:List D} (h:WtC Tryz.prog 112 l):∃ x:bD,l=dV x:=bJq (aCe _) h
theorem cEj {l:List D} (h:WtC Tryz.prog 34 l):∃ x:aQ,l=dX x:=bFq (aCe _) h
abbrev Z1a (y:Bool):V:=(vB y)
theorem bQc (p0:bP) (c0_0:List UInt8):cO Tryz.prog 213 [I1 p0,.ptr 241 0] [(241,[vS c0_0])] Z1a (fun (y:Bool)=>[(241,[vS c0_0])]) (aOc p0 c0_0):=by
 refine aoB fun r h=>?_;rw [aOc] at h;exact rb' h
abbrev bPm (p0) (c0_0):=U0.partial_correctness p0 c0_0 (aUu p0 c0_0) (by intro cTn bEc x8 r h;refine Lok.un ?_;refine cd' h ?_ ?_<;>intro h;refine iq' h fun y1 h=>(cg' c1_ h (bQc _ _) fun y2 h=>?_);refine cd' h ?_ ?_<;>intro h;exact rb' h;exact lb' (bEc _ _ h) (wr [] eS bS);exact rb' h)
abbrev bEc:=bPm
theorem bSz (p0:List bP) (c0_0:List UInt8):cO Tryz.prog 212 [mI p0,.fn 213 [.ptr 241 0]] [(241,[vS c0_0])] Zd (fun (y:Int)=>[(241,[vS c0_0])]) (aSv p0 c0_0):=by
 refine aoB fun r h=>?_;rw [aSv] at h;exact lq' p0 (lb' (bEc _ _ _ _ h) (wr [] eS bS))
theorem cDw (p0:bH) (p1:List UInt8):FOk Tryz.prog 168 [qR p0,vS p1] (fun y=>(vI y)) (aLe p0 p1):=by
 refine aoP fun r h=>?_;rw [aLe] at h;exact cg' ⟨[(241,3)],[],[],[],[],[],[],[],[]⟩ h (bSz _ _) fun y1 h=>(rp' h)
theorem aKi (p0:List UInt8):FOk Tryz.prog 167 [vS p0] (fun y=>(vB y)) (pX p0):=by
 refine aoP fun r h=>?_;rw [pX] at h;exact dD h fun y1 h=>(rp' h)
abbrev cP7 (p0):=aA9.partial_correctness p0 (bBw p0) (by intro cTo aY8 x8 r h;refine Lok.un ?_;refine cd' h ?_ ?_<;>intro h;refine iq' h fun y1 h=>(cs' h (aKi _) fun y2 h=>(bZ h fun y3 h=>(bZ h fun y4 h=>(gc' h (cDw _ _) fun y5 h=>(bZ h fun y6 h=>?_)))));refine cd' h ?_ ?_<;>intro h;exact rp' h;exact lb' (aY8 _ _ h) (wr [] eS bS);exact cs' h (aKi _) fun y7 h=>(jH p0.cols (dD h fun y8 h=>(jH p0.cols (dD h fun y9 h=>(rp' h))))))
abbrev aY8:=cP7
theorem cAv (p0:bH):FOk Tryz.prog 129 [qR p0] (fun y=>(vB y)) (aJh p0):=by
 refine aoP fun r h=>?_;rw [aJh] at h;exact lq' p0.cols (lb' (aY8 _ _ _ h) (wr [] eS bS))
theorem bT2 (p0:bH) (c0_0:List UInt8):cO Tryz.prog 170 [qR p0,.ptr 241 0] [(241,[vS c0_0])] Z1a (fun (y:Bool)=>[(241,[vS c0_0])]) (aP4 p0 c0_0):=by
 refine aoB fun r h=>?_;rw [aP4] at h;exact rb' h
abbrev bRv (p0) (c0_0):=O8.partial_correctness p0 c0_0 (aTs p0 c0_0) (by intro cR6 bCh x8 r h;refine Lok.un ?_;refine cd' h ?_ ?_<;>intro h;refine iq' h fun y1 h=>(cg' c1_ h (bT2 _ _) fun y2 h=>?_);refine cd' h ?_ ?_<;>intro h;exact rb' h;exact lb' (bCh _ _ h) (wr [] eS bS);exact rb' h)
abbrev bCh:=bRv
theorem cKp (p0:List bH) (c0_0:List UInt8):cO Tryz.prog 169 [nN p0,.fn 170 [.ptr 241 0]] [(241,[vS c0_0])] Zd (fun (y:Int)=>[(241,[vS c0_0])]) (aO9 p0 c0_0):=by
 refine aoB fun r h=>?_;rw [aO9] at h;exact lq' p0 (lb' (bCh _ _ _ _ h) (wr [] eS bS))
theorem cEv (p0:aX) (p1:List UInt8):FOk Tryz.prog 130 [eG p0,vS p1] (fun y=>(vI y)) (aIl p0 p1):=by
 refine aoP fun r h=>?_;rw [aIl] at h;exact cg' ⟨[(241,3)],[],[],[],[],[],[],[],[]⟩ h (cKp _ _) fun y1 h=>(rp' h)
abbrev cHo (p0):=R4.partial_correctness p0 (bCg p0) (by intro cS1 bD0 x8 r h;refine Lok.un ?_;refine cd' h ?_ ?_<;>intro h;refine iq' h fun y1 h=>(cs' h (cAv _) fun y2 h=>(gc' h (cEv _ _) fun y3 h=>(bZ h fun y4 h=>?_)));refine cd' h ?_ ?_<;>intro h;exact rp' h;exact lb' (bD0 _ _ h) (wr [] eS bS);exact lq' p0.tables (rp' h))
abbrev bD0:=cHo
theorem bI3 (p0:aX):FOk Tryz.prog 78 [eG p0] (fun y=>(vB y)) (aC7 p0):=by
 refine aoP fun r h=>?_;rw [aC7] at h;exact lq' p0.tables (lb' (bD0 _ _ _ h) (wr [] eS bS))
theorem aMf (p0:aA):FOk Tryz.prog 182 [bX p0] (fun y=>(vB y)) (qB p0):=by
 refine aoP fun r h=>?_;rw [qB] at h;refine cd' h ?_ ?_<;>intro h;exact dD h fun y1 h=>(rp' h);refine cd' h ?_ ?_<;>intro h;exact rp' h;refine cd' h ?_ ?_<;>intro h;exact dD h fun y2 h=>(rp' h);refine cd' h ?_ ?_<;>intro h;exact bZ h fun y3 h=>(dD h fun y4 h=>(rp' h));exact rp' h
theorem cH0 (p0:aA) (p1:Int):FOk Tryz.prog 140 [bX p0,vI p1] (fun y=>(vB y)) (aMt p0 p1):=by
 refine aoP fun r h=>?_;rw [aMt] at h;refine cs' h (aMf _) fun y1 h=>?_;refine aO (.g 7 true (.pick 16 11 (kB true) 15)) (gv true y1 Z1a h (fun y hy hc=>jL hy (p:=true) (q:=((true&&(y1==true))&&((decide (p0.kind=0))==false))) (Eq.trans (b:=([true&&(y1==true)]:List Bool).all id) kr (dZ hc rfl)) kr kr kr (fun _=>rfl) (fun hb=>rX hc hb)) fun y2 h=>oC ?_);exact dD h fun y3 h=>(rp' h)
abbrev bR5 (p1) (p0):=U6.partial_correctness p1 p0 (bDo p1 p0) (by intro cT2 bEk x14 r h;refine Lok.un ?_;refine cd' h ?_ ?_<;>intro h;refine iq' h fun y1 h=>(jE cI h fun y2 h=>(cs' h (cH0 _ _) fun y3 h=>?_));refine cd' h ?_ ?_<;>intro h;exact rp' h;exact lb' (bEk _ _ h) (wr [] eS aZ);exact rp' h)
abbrev bEk:=bR5
theorem cMn (p0:List aA) (p1:List Int):FOk Tryz.prog 86 [eF p0,fI p1] (fun y=>(vB y)) (aGb p0 p1):=by
 refine aoP fun r h=>?_;rw [aGb] at h;refine lq' p0 (jX cI p1 ?_);refine cd' h ?_ ?_<;>intro h;exact rp' h;exact lq' p0 (lb' (bEk _ _ _ _ h) (wr [] eS aZ))
theorem bSr (p0:List aA) (c0_0:List Int):cO Tryz.prog 85 [eF p0,.ptr 241 0] [(241,[fI c0_0])] Z1a (fun (y:Bool)=>[(241,[fI c0_0])]) (aO6 p0 c0_0):=by
 refine aoB fun r h=>?_;rw [aO6] at h;exact cs' h (cMn _ _) fun y1 h=>(rb' h)
abbrev cOz (p0) (c0_0):=aAa.partial_correctness p0 c0_0 (aX4 p0 c0_0) (by intro cUg bBg x8 r h;refine Lok.un ?_;refine cd' h ?_ ?_<;>intro h;refine iq' h fun y1 h=>(cg' c1_ h (bSr _ _) fun y2 h=>?_);refine cd' h ?_ ?_<;>intro h;exact rb' h;exact lb' (bBg _ _ h) (wr [] eS bS);exact rb' h)
abbrev bBg:=cOz
theorem bVc (p0:List (List aA)) (c0_0:List Int):cO Tryz.prog 139 [.d (.sl 1 (p0.map (cSl 3 aB))),.fn 85 [.ptr 241 0]] [(241,[fI c0_0])] Zd (fun (y:Int)=>[(241,[fI c0_0])]) (aNy p0 c0_0):=by
 refine aoB fun r h=>?_;rw [aNy] at h;exact lq' p0 (lb' (bBg _ _ _ _ h) (wr [] eS bS))
theorem cKl (p0:List (List aA)) (c0_0:List Int):cO Tryz.prog 84 [.d (.sl 1 (p0.map (cSl 3 aB))),.fn 85 [.ptr 241 0]] [(241,[fI c0_0])] Z1a (fun (y:Bool)=>[(241,[fI c0_0])]) (aJq p0 c0_0):=by
 refine aoB fun r h=>?_;rw [aJq] at h;exact cg' c1_ h (bVc _ _) fun y1 h=>(rb' h)
abbrev cA6 (p0):=wH.partial_correctness p0 (aTh p0) (by intro cS3 bDl x3 x10 r h;refine Lok.un ?_;refine cd' h ?_ ?_<;>intro h;refine iq' h fun y1 h=>?_;refine aO (.bsl 17 3 1 [16]) (dN (l:=([y1.type]:List Int)) (f:=cI) (g:=cI) kr (fun _=>rfl) kr (oC ?_));exact aq' 3 cI h fun y2 h=>(lb' (bDl _ _ _ h) (wr [(3,.old 3)] (eo 3 eS) aZ));exact rw' (s':=⟨[(2,.osl 243 3 1 (x3.map cI))],[]⟩) (wr [(243,.old 2)] (eo 2 kN) aZ) (rb' h))
abbrev bDl:=cA6
theorem bGi (p0:bH):cO Tryz.prog 83 [qR p0] [] Zb Zc (aAh p0):=by
 refine aoB fun r h=>?_;rw [aAh] at h;refine aO (.bsl 6 3 1 []) (dN (l:=([]:List Int)) (f:=cI) (g:=cI) kr (fun _=>rfl) kr (oC ?_));exact lq' p0.cols (lb' (bDl _ _ _ _ h) (wr [(3,.old 3)] (eo 3 eS) aZ))
abbrev bXc (p1) (p0):=H5.partial_correctness p1 p0 (bDx p1 p0) (by intro cU0 aXh x23 r h;refine Lok.un ?_;refine cd' h ?_ ?_<;>intro h;refine iq' h fun y3 h=>(iq' h fun y4 h=>(cg' ⟨[],[],[],[],[],[(243,33)],[],[33],[]⟩ h (bGi _) fun y5 h=>(lq' y3.rows ?_)));refine aO (.g 38 false (.call (some 42) 84 [40,41])) (bNc ⟨[(241,7)],[],[],[],[],[],[],[33],[]⟩ (p:=true) (b:=(decide (6<(ln y3.rows)))) (m:=aJq y3.rows y5) (dflt:=(default:Bool)) h kr (cKl _ _) (fun hc=>by kernel_rfl) kr kr kr (fun y=>by kernel_rfl) kr (fun hc=>(Eq.trans (b:=([true&&((decide (6<(ln y3.rows)))==false),true&&((decide (6<(ln y3.rows)))==false)]:List Bool).all id) kr (dZ hc (dZ hc rfl)))) (fun _=>rfl) fun y6 h=>oC ?_);refine bZ h fun y7 h=>?_;refine cd' h ?_ ?_<;>intro h;exact rp' h;exact lb' (aXh _ _ h) (wr [] eS bS);exact rp' h)
abbrev aXh:=bXc
theorem bU3 (p0:aX) (p1:GDb):FOk Tryz.prog 39 [eG p0,gJ p1] (fun y=>(vB y)) (aJs p0 p1):=by
 refine aoP fun r h=>?_;rw [aJs] at h;refine cs' h (bI3 _) fun y1 h=>(jH p1.tables (jH p0.tables (bZ h fun y2 h=>?_)));refine cd' h ?_ ?_<;>intro h;exact rp' h;exact lq' p1.tables (lb' (aXh _ _ _ _ h) (wr [] eS bS))
abbrev cHw (p1) (p2) (p3) (p0):=aB9.partial_correctness p1 p2 p3 p0 (aT1 p1 p2 p3 p0) (by intro cSk aU2 x6 x12 r h;refine Lok.un ?_;refine cd' h ?_ ?_<;>intro h;refine iq' h fun y1 h=>(tw' 0 [.fzb 8] ?_);refine aO (.bsl 18 152 1 [17]) (dN (l:=([cK.mk p1 p2 p3 y1]:List cK)) (f:=iJ) (g:=iJ) kr (fun _=>rfl) kr (oC ?_));exact aq' 6 iJ h fun y2 h=>(lb' (aU2 _ _ _ h) (wr [(6,.old 6)] (es (es (es (eo 6 eS)))) aZ));exact rw' (s':=⟨[(5,.osl 243 152 1 (x6.map iJ))],[]⟩) (wr [(243,.old 5)] (eo 5 kN) aZ) (rb' h))
abbrev aU2:=cHw
theorem aP1 (p0:List aJ) (p1:aX) (p2:GDb) (p3:List (List aA)):cO Tryz.prog 87 [dU p0,.rp (nG p1),.rp (nP p2),.rp [.sl 1 (p3.map (cSl 3 aB))]] [] Zu (fun (y:List cK)=>[]) (aA0 p0 p1 p2 p3):=by
 refine aoB fun r h=>?_;rw [aA0] at h;refine aO (.bsl 9 152 1 []) (dN (l:=([]:List cK)) (f:=iJ) (g:=iJ) kr (fun _=>rfl) kr (oC ?_));exact lq' p0 (lb' (aU2 _ _ _ _ _ _ _ h) (wr [(6,.old 6)] (es (es (es (eo 6 eS)))) aZ))
abbrev bVh (p0):=wG.partial_correctness p0 (aWd p0) (by intro cR4 bAd x6 x27 r h;refine Lok.un ?_;refine cd' h ?_ ?_<;>intro h;exact iq' h fun y3 h=>(aq' 6 aB h fun y4 h=>(lb' (bAd _ _ _ h) (wr [(6,.old 6)] (eo 6 eS) aZ)));exact rw' (s':=⟨[(2,.osl 243 130 3 (x6.map aB))],[]⟩) (wr [(243,.old 2)] (eo 2 kN) aZ) (rb' h))
abbrev bAd:=bVh
theorem cJv (p0:List aA) (p1:Int):cO Tryz.prog 229 [.osl 250 130 3 (p0.map aB),vI p1] [] Zk Zl (aO8 p0 p1):=by
 exact cLb sh229 rfl rfl
abbrev bKp (p0):=aFd.mutual_partial_correctness p0 (bAf p0) (bA8 p0) (by intro cQk aZu x3 y1 x11 r h;exact Jok.un (lb' (aZu _ _ _ h) (wr [] eS aZ))) (by intro cSv bLp x3 x11 r h;refine Lok.un ?_;refine cd' h ?_ ?_<;>intro h;refine iq' h fun y1 h=>(lq' y1 ?_);refine cd' h ?_ ?_<;>intro h;exact nomatch h;exact jn' (bLp _ _ _ _ h) (wr [] eS aZ);exact cg' ⟨[],[],[(250,130,3)],[some 250,none],[],[(243,24)],[],[24],[]⟩ h (cJv _ _) fun y2 h=>(lq' p0 (lb' (bAd _ _ _ _ h) (wr [(6,.old 6)] (eo 6 eS) aZ))))
abbrev bLp:=fun p0=>(bKp p0).1
abbrev aZu:=fun p0=>(bKp p0).2
theorem cJl (p0:List (List aA)):cO Tryz.prog 188 [.d (.sl 1 (p0.map (cSl 3 aB)))] [] Zk Zl (aIn p0):=by
 refine aoB fun r h=>?_;rw [aIn] at h;exact lq' p0 (lb' (aZu _ _ _ _ h) (wr [] eS aZ))
theorem bV2 (p0:aA):FOk Tryz.prog 230 [bX p0] (fun y=>(vB y)) (aJy p0):=by
 refine aoP fun r h=>?_;rw [aJy] at h;exact dD h fun y1 h=>(rp' h)
theorem bK0 (N9 r) (h:aPt N9=some r):cC5 N9 r:=by
 rw [aPt] at h;exact Jok.un (rp' h)
theorem uF (p0:Bool):FOk Tryz.prog 186 [vB p0] (fun y=>(bX y)) (qD p0):=by
 refine aoP fun r h=>?_;rw [qD] at h;refine cd' h ?_ ?_<;>intro h;exact jn' (bK0 _ _ h) (wr [] eS bS);exact jn' (bK0 _ _ h) (wr [] eS bS)
theorem cN4 (p0:Int) (p1:Int):FOk Tryz.prog 241 [vI p0,vI p1] (fun y=>(.tup [vI y.1,vB y.2])) (aHa p0 p1):=by
 refine aoP fun r h=>?_;rw [aHa] at h;refine dD h fun y1 h=>?_;refine aO (.g 14 false (.pick 22 17 21 (kB false))) (gv true y1 Z1a h (fun y hy hc=>jL hy (p:=((true&&(y1==false))&&((decide (p1<0))==true))) (q:=true) (Eq.trans (b:=([true&&(y1==false)]:List Bool).all id) kr (dZ hc rfl)) kr kr kr (fun hb=>qQ hc hb) (fun _=>rfl)) fun y2 h=>oC ?_);refine bZ h fun y3 h=>?_;refine cd' h ?_ ?_<;>intro h;exact rp' h;exact rp' h
theorem bDg (p0:Int):FOk Tryz.prog 245 [vI p0] (fun y=>(bX y)) (V3 p0):=by
 refine aoP fun r h=>?_;rw [V3] at h;exact rp' h
theorem aYa (x8 x9 r) (h:aFt x8 x9=some r):cMk x8 x9 r:=by
 rw [aFt] at h;refine Jok.un ?_;refine cd' h ?_ ?_<;>intro h;exact rp' h;exact cs' h (bDg _) fun y5 h=>(rp' h)
theorem cJ1 (p0:Int) (p1:Int) (p2:Int):FOk Tryz.prog 244 [vI p0,vI p1,vI p2] (fun y=>(.tup [bX y.1,vI y.2])) (aSm p0 p1 p2):=by
 refine aoP fun r h=>?_;rw [aSm] at h;refine cd' h ?_ ?_<;>intro h;exact rp' h;refine cd' h ?_ ?_<;>intro h;refine aO (.bin 17 .rem 15 16) (vs Zd h (fun y hy=>bFm (k:=.i64) (a:=p1) (b:=p2) hy kr kr kr) fun y1 h=>oC ?_);exact cs' h (bDg _) fun y2 h=>(rp' h);refine dD h fun y3 h=>?_;refine cd' h ?_ ?_<;>intro h;exact rp' h;refine aO (.bin 29 .quo 27 28) (vs Zd h (fun y hy=>aQc (k:=.i64) (a:=p1) (b:=p2) hy kr kr kr) fun y4 h=>oC ?_);exact cs' h (bDg _) fun y5 h=>(rp' h)
theorem bT7 (p0:Int) (p1:Int):FOk Tryz.prog 243 [vI p0,vI p1] (fun y=>(.tup [vI y.1,vB y.2])) (aL7 p0 p1):=by
 refine aoP fun r h=>?_;rw [aL7] at h;refine aO (.g 12 true (.bin 15 .quo 13 14)) (gv true (!decide (p0=0)) Zd h (fun y hy hc=>aQc (k:=.i64) (a:=(QA .i64 (p0 * p1))) (b:=p0) hy (Eq.trans (b:=([true&&((!decide (p0=0))==true),true&&((!decide (p0=0))==true)]:List Bool).all id) kr (dZ hc (dZ hc rfl))) kr kr) fun y1 h=>oC ?_);refine aO (.g 18 false (.pick 24 21 23 (kB false))) (gv (true&&((!decide (p0=0))==true)) (!decide (y1=p1)) Z1a h (fun y hy hc=>jL hy (p:=(((true&&((!decide (p0=0))==true))&&((!decide (y1=p1))==false))&&((decide (p0=(-1)))==true))) (q:=true) (Eq.trans (b:=([(true&&((!decide (p0=0))==true))&&((!decide (y1=p1))==false)]:List Bool).all id) kr (dZ hc rfl)) kr kr kr (fun hb=>qQ hc hb) (fun _=>rfl)) fun y2 h=>oC ?_);refine aO (.g 12 true (.pick 25 18 (kB true) 24)) (gv true (!decide (p0=0)) Z1a h (fun y hy hc=>jL hy (p:=true) (q:=((true&&((!decide (p0=0))==true))&&((!decide (y1=p1))==false))) (Eq.trans (b:=([true&&((!decide (p0=0))==true)]:List Bool).all id) kr (dZ hc rfl)) kr kr kr (fun _=>rfl) (fun hb=>rX hc hb)) fun y3 h=>oC ?_);refine dD h fun y4 h=>?_;refine cd' h ?_ ?_<;>intro h;exact rp' h;exact rp' h
theorem cPg (p0:Int) (p1:Int):FOk Tryz.prog 242 [vI p0,vI p1] (fun y=>(.tup [vI y.1,vB y.2])) (aHb p0 p1):=by
 refine aoP fun r h=>?_;rw [aHb] at h;refine dD h fun y1 h=>?_;refine aO (.g 14 false (.pick 22 17 21 (kB false))) (gv true y1 Z1a h (fun y hy hc=>jL hy (p:=((true&&(y1==false))&&((decide (0<p1))==true))) (q:=true) (Eq.trans (b:=([true&&(y1==false)]:List Bool).all id) kr (dZ hc rfl)) kr kr kr (fun hb=>qQ hc hb) (fun _=>rfl)) fun y2 h=>oC ?_);refine bZ h fun y3 h=>?_;refine cd' h ?_ ?_<;>intro h;exact rp' h;exact rp' h
theorem bGu (p0:Int) (p1:Int) (p2:Int):FOk Tryz.prog 222 [vI p0,vI p1,vI p2] (fun y=>(.tup [bX y.1,vI y.2])) (aHy p0 p1 p2):=by
 refine aoP fun r h=>?_;rw [aHy] at h;refine cd' h ?_ ?_<;>intro h;exact cs' h (cN4 _ _) fun y1 h=>(jn' (aYa _ _ _ h) (wr [] eS bS));refine cd' h ?_ ?_<;>intro h;exact cs' h (cPg _ _) fun y2 h=>(jn' (aYa _ _ _ h) (wr [] eS bS));refine cd' h ?_ ?_<;>intro h;exact cs' h (bT7 _ _) fun y3 h=>(jn' (aYa _ _ _ h) (wr [] eS bS));exact cs' h (cJ1 _ _ _) fun y4 h=>(rp' h)
theorem bJu (p0:Int):FOk Tryz.prog 248 [vI p0] (fun y=>(vB y)) (aI7 p0):=by
 refine aoP fun r h=>?_;rw [aI7] at h;exact rp' h
theorem bMh (p0:Int) (p1:Int):FOk Tryz.prog 233 [vI p0,vI p1] (fun y=>(vI y)) (aGs p0 p1):=by
 refine aoP fun r h=>?_;rw [aGs] at h;refine cs' h (bJu _) fun y1 h=>(cs' h (bJu _) fun y2 h=>?_);refine cd' h ?_ ?_<;>intro h;refine cd' h ?_ ?_<;>intro h;exact rp' h;exact rp' h;refine cd' h ?_ ?_<;>intro h;exact rp' h;refine cd' h ?_ ?_<;>intro h;exact rp' h;refine cd' h ?_ ?_<;>intro h;exact rp' h;exact rp' h
theorem bF1 (p0:List UInt8):FOk Tryz.prog 249 [vS p0] (fun y=>(vB y)) (aMq p0):=by
 refine aoP fun r h=>?_;rw [aMq] at h;exact rp' h
theorem cAs (p0:List UInt8) (p1:List UInt8):FOk Tryz.prog 234 [vS p0,vS p1] (fun y=>(vI y)) (aLh p0 p1):=by
 refine aoP fun r h=>?_;rw [aLh] at h;refine cs' h (bF1 _) fun y1 h=>(cs' h (bF1 _) fun y2 h=>?_);refine cd' h ?_ ?_<;>intro h;refine cd' h ?_ ?_<;>intro h;exact rp' h;exact rp' h;refine cd' h ?_ ?_<;>intro h;exact rp' h;refine cd' h ?_ ?_<;>intro h;exact rp' h;refine cd' h ?_ ?_<;>intro h;exact rp' h;exact rp' h
abbrev cAx (p0):=H7.partial_correctness p0 (bBo p0) (by intro cSj aZo x8 r h;refine Lok.un ?_;refine cd' h ?_ ?_<;>intro h;refine jE cI h fun y1 h=>?_;refine cd' h ?_ ?_<;>intro h;exact rp' h;exact lb' (aZo _ _ h) (wr [] eS aZ);exact rp' h)
abbrev aZo:=cAx
theorem bSv (p0:List Int):FOk Tryz.prog 232 [fI p0] (fun y=>(vI y)) (aKf p0):=by
 refine aoP fun r h=>?_;rw [aKf] at h;exact jX cI p0 (lb' (aZo _ _ _ h) (wr [] eS aZ))
theorem bNy (p0:aA) (p1:aA):FOk Tryz.prog 192 [bX p0,bX p1] (fun y=>(vI y)) (aEp p0 p1):=by
 refine aoP fun r h=>?_;rw [aEp] at h;refine cs' h (bMh _ _) fun y1 h=>(cs' h (bMh _ _) fun y2 h=>(cs' h (cAs _ _) fun y3 h=>?_));refine dO (.bsl 20 3 1 [9,14,19]) (wR (l:=([y1,y2,y3]:List Int)) (f:=cI) (g:=cI) kr (fun _=>rfl) (dC ?_));exact cs' h (bSv _) fun y4 h=>(rp' h)
theorem bWx (p0:Int) (p1:aA) (p2:aA):FOk Tryz.prog 225 [vI p0,bX p1,bX p2] (fun y=>(bX y)) (aCl p0 p1 p2):=by
 refine aoP fun r h=>?_;rw [aCl] at h;refine cs' h (bNy _ _) fun y1 h=>?_;refine cd' h ?_ ?_<;>intro h;exact cs' h (uF _) fun y2 h=>(rp' h);refine cd' h ?_ ?_<;>intro h;exact cs' h (uF _) fun y3 h=>(rp' h);refine cd' h ?_ ?_<;>intro h;exact cs' h (uF _) fun y4 h=>(rp' h);refine cd' h ?_ ?_<;>intro h;exact cs' h (uF _) fun y5 h=>(rp' h);refine cd' h ?_ ?_<;>intro h;exact cs' h (uF _) fun y6 h=>(rp' h);exact cs' h (uF _) fun y7 h=>(rp' h)
theorem bGd (p0:Int) (p1:aA):FOk Tryz.prog 224 [vI p0,bX p1] (fun y=>(vB y)) (Z8 p0 p1):=by
 refine aoP fun r h=>?_;rw [Z8] at h;refine bZ h fun y1 h=>?_;refine cd' h ?_ ?_<;>intro h;exact rp' h;refine cd' h ?_ ?_<;>intro h;exact rp' h;exact rp' h
abbrev cNn (p0) (p1) (p2):=O9.partial_correctness p0 p1 p2 (aZ2 p0 p1 p2) (by intro cR9 bDt x15 r h;refine Lok.un ?_;refine cd' h ?_ ?_<;>intro h;refine iq' h fun y1 h=>(dD h fun y2 h=>?_);refine cd' h ?_ ?_<;>intro h;exact rp' h;exact lb' (bDt _ _ h) (wr [(13,.old 13)] (es (es (es (es (eo 13 eS))))) bS);refine cs' h (uF _) fun y3 h=>(bZ h fun y4 h=>?_);refine cd' h ?_ ?_<;>intro h;exact rp' h;refine bZ h fun y5 h=>?_;refine cd' h ?_ ?_<;>intro h;exact rp' h;exact cs' h (uF _) fun y6 h=>(rp' h))
abbrev bDt:=cNn
theorem bW8 (p0:Int) (p1:aA) (p2:aA):FOk Tryz.prog 223 [vI p0,bX p1,bX p2] (fun y=>(.tup [bX y.1,vI y.2])) (aJk p0 p1 p2):=by
 refine aoP fun r h=>?_;rw [aJk] at h;refine aO (.bsl 13 130 3 [11,12]) (dN (l:=([p1,p2]:List aA)) (f:=aB) (g:=aB) kr (fun _=>rfl) kr (oC ?_));refine lq' ([p1,p2]:List aA) ?_;exact lb' (bDt _ _ _ _ _ h) (wr [(13,.old 13)] (es (es (es (es (eo 13 eS))))) bS)
theorem bXm (p0:List UInt8):FOk Tryz.prog 226 [vS p0] (fun y=>(bX y)) (aQj p0):=by
 refine aoP fun r h=>?_;rw [aQj] at h;exact rp' h
abbrev Z1b (y:List UInt8):V:=(vS y)
theorem aF6 (p0:Int) (p1:aA) (p2:aA):FOk Tryz.prog 185 [vI p0,bX p1,bX p2] (fun y=>(.tup [bX y.1,vI y.2])) (rP p0 p1 p2):=by
 refine aoP fun r h=>?_;rw [rP] at h;refine bZ h fun y1 h=>(gc' h (aMf _) fun y2 h=>(bZ h fun y3 h=>(gc' h (aMf _) fun y4 h=>(bZ h fun y5 h=>?_))));refine cd' h ?_ ?_<;>intro h;exact rp' h;refine cd' h ?_ ?_<;>intro h;exact cs' h (bW8 _ _ _) fun y6 h=>(rp' h);refine bZ h fun y7 h=>(cs' h (bGd _ _) fun y8 h=>(gc' h (bGd _ _) fun y9 h=>(bZ h fun y10 h=>?_)));refine aO (.g 52 false (.pick 58 55 57 (kB false))) (gv true y10 Z1a h (fun y hy hc=>jL hy (p:=((true&&(y10==false))&&((decide (p0≤8))==true))) (q:=true) (Eq.trans (b:=([true&&(y10==false)]:List Bool).all id) kr (dZ hc rfl)) kr kr kr (fun hb=>qQ hc hb) (fun _=>rfl)) fun y11 h=>oC ?_);refine aO (.g 52 false (.pick 65 59 64 (kB false))) (gv true y10 Z1a h (fun y hy hc=>jL hy (p:=((true&&(y10==false))&&(y11==true))) (q:=true) (Eq.trans (b:=([true&&(y10==false)]:List Bool).all id) kr (dZ hc rfl)) kr kr kr (fun hb=>qQ hc hb) (fun _=>rfl)) fun y12 h=>oC ?_);refine bZ h fun y13 h=>?_;refine cd' h ?_ ?_<;>intro h;exact rp' h;refine cd' h ?_ ?_<;>intro h;exact rp' h;refine cd' h ?_ ?_<;>intro h;exact cs' h (bWx _ _ _) fun y14 h=>(rp' h);refine cd' h ?_ ?_<;>intro h;exact cs' h (bGu _ _ _) fun y15 h=>(rp' h);refine cd' h ?_ ?_<;>intro h;exact rp' h;refine aO (.bin 102 .add 99 101) (vs Z1b h (fun y hy=>aRw (a:=p1.text) (b:=p2.text) hy kr kr kr) fun y16 h=>oC ?_);exact cs' h (bXm _) fun y17 h=>(rp' h)
theorem bZs (p0:aA) (p1:aA) (p2:aA):FOk Tryz.prog 227 [bX p0,bX p1,bX p2] (fun y=>(.tup [bX y.1,vI y.2])) (aM0 p0 p1 p2):=by
 refine aoP fun r h=>?_;rw [aM0] at h;refine cs' h (aF6 _ _ _) fun y1 h=>?_;refine cd' h ?_ ?_<;>intro h;exact rp' h;refine cs' h (aF6 _ _ _) fun y2 h=>?_;refine cd' h ?_ ?_<;>intro h;exact rp' h;exact cs' h (aF6 _ _ _) fun y3 h=>(rp' h)
abbrev cE0 (p1) (p0):=P8.partial_correctness p1 p0 (bBi p1 p0) (by intro cRf bBc x14 iX iU iV r h;refine Lok.un ?_;refine cd' h ?_ ?_<;>intro h;refine iq' h fun y2 h=>(cs' h (aF6 _ _ _) fun y3 h=>?_);refine cd' h ?_ ?_<;>intro h;exact rp' h;refine cs' h (aF6 _ _ _) fun y4 h=>?_;refine cd' h ?_ ?_<;>intro h;exact rp' h;exact lb' (bBc _ _ _ _ _ h) (wr [] eS bS);exact rp' h)
abbrev bBc:=cE0
theorem bG3 (p0:aA) (p1:List aA):FOk Tryz.prog 228 [bX p0,eF p1] (fun y=>(.tup [bX y.1,vI y.2])) (aEj p0 p1):=by
 refine aoP fun r h=>?_;rw [aEj] at h;exact cs' h (uF _) fun y1 h=>(lq' p1 (lb' (bBc _ _ _ _ _ _ _ h) (wr [] eS bS)))
abbrev bX1 (p0):=J5.partial_correctness p0 (aVi p0) (by intro cRb bBy x4 x42 r h;refine Lok.un ?_;refine cd' h ?_ ?_<;>intro h;refine iq' h fun y8 h=>(lq' y8 ?_);refine cd' h ?_ ?_<;>intro h;exact rp' h;refine iq' h fun y9 h=>?_;refine aO (.bsl 54 130 3 [53]) (dN (l:=([y9]:List aA)) (f:=aB) (g:=aB) kr (fun _=>rfl) kr (oC ?_));exact aq' 4 aB h fun y10 h=>(lb' (bBy _ _ _ h) (wr [(4,.old 4)] (es (es (eo 4 eS))) bS));exact iq' h fun y11 h=>(cs' h (bG3 _ _) fun y12 h=>(rp' h)))
abbrev bBy:=bX1
theorem cBn (p0:oI):FOk Tryz.prog 187 [bNi p0] (fun y=>(.tup [bX y.1,vI y.2])) (aE7 p0):=by
 refine aoP fun r h=>?_;rw [aE7] at h;refine cd' h ?_ ?_<;>intro h;exact iq' h fun y1 h=>(iq' h fun y2 h=>(iq' h fun y3 h=>(cs' h (bZs _ _ _) fun y4 h=>(rp' h))));refine cd' h ?_ ?_<;>intro h;refine iq' h fun y5 h=>?_;refine dO (.slc 34 3 33 (some (kI 1)) none none) (fJ (m:=gY p0.kids 1 (ln p0.kids)) (v':=fun y=>(eF y)) h rfl rfl (fun y hy=>I6 (l:=p0.kids) (f:=aB) (lo:=1) (hi:=(ln p0.kids)) hy kr kr rfl ⟨kr,.i64,kr⟩) fun y6 h=>dC ?_);exact cs' h (bG3 _ _) fun y7 h=>(rp' h);refine aO (.bsl 38 130 3 []) (dN (l:=([]:List aA)) (f:=aB) (g:=aB) kr (fun _=>rfl) kr (oC ?_));exact lq' p0.rows (lb' (bBy _ _ _ _ h) (wr [(4,.old 4)] (es (es (eo 4 eS))) bS))
theorem bKh (p0:Int) (p1:aA):FOk Tryz.prog 184 [vI p0,bX p1] (fun y=>(.tup [bX y.1,vI y.2])) (aBy p0 p1):=by
 refine aoP fun r h=>?_;rw [aBy] at h;refine cs' h (aMf _) fun y1 h=>?_;refine aO (.g 9 false (.pick 15 12 14 (kB false))) (gv true (!y1) Z1a h (fun y hy hc=>jL hy (p:=((true&&((!y1)==false))&&((!decide (p0=15))==true))) (q:=true) (Eq.trans (b:=([true&&((!y1)==false)]:List Bool).all id) kr (dZ hc rfl)) kr kr kr (fun hb=>qQ hc hb) (fun _=>rfl)) fun y2 h=>oC ?_);refine bZ h fun y3 h=>?_;refine cd' h ?_ ?_<;>intro h;exact rp' h;refine cd' h ?_ ?_<;>intro h;exact rp' h;refine dD h fun y4 h=>?_;refine cd' h ?_ ?_<;>intro h;exact cs' h (uF _) fun y5 h=>(rp' h);refine dD h fun y6 h=>?_;refine cd' h ?_ ?_<;>intro h;exact cs' h (bGu _ _ _) fun y7 h=>(rp' h);exact rp' h
theorem bQm (p0:oI):FOk Tryz.prog 142 [bNi p0] (fun y=>(.tup [bX y.1,vI y.2])) (aLa p0):=by
 refine aoP fun r h=>?_;rw [aLa] at h;refine cd' h ?_ ?_<;>intro h;exact rp' h;refine cd' h ?_ ?_<;>intro h;exact iq' h fun y1 h=>(cs' h (bKh _ _) fun y2 h=>(rp' h));refine cd' h ?_ ?_<;>intro h;exact iq' h fun y3 h=>(iq' h fun y4 h=>(cs' h (aF6 _ _ _) fun y5 h=>(rp' h)));refine cd' h ?_ ?_<;>intro h;exact iq' h fun y6 h=>(cs' h (uF _) fun y7 h=>(rp' h));refine cd' h ?_ ?_<;>intro h;exact lq' p0.rows (cs' h (uF _) fun y8 h=>(rp' h));refine cs' h (cBn _) fun y9 h=>?_;refine cd' h ?_ ?_<;>intro h;exact rp' h;refine cd' h ?_ ?_<;>intro h;exact cs' h (bKh _ _) fun y10 h=>(rp' h);exact rp' h
theorem bQj (p0:aA):FOk Tryz.prog 238 [bX p0] (fun y=>(vB y)) (aCa p0):=by
 refine aoP fun r h=>?_;rw [aCa] at h;refine cs' h (aMf _) fun y1 h=>?_;refine aO (.g 5 true (.pick 13 9 (kB true) 12)) (gv true y1 Z1a h (fun y hy hc=>jL hy (p:=true) (q:=((true&&(y1==true))&&((!decide (p0.kind=1))==false))) (Eq.trans (b:=([true&&(y1==true)]:List Bool).all id) kr (dZ hc rfl)) kr kr kr (fun _=>rfl) (fun hb=>rX hc hb)) fun y2 h=>oC ?_);exact dD h fun y3 h=>(dD h fun y4 h=>(rp' h))
theorem bFt (p0:eZ):FOk Tryz.prog 217 [bHz p0] (fun y=>(.tup [aSx y.1,vB y.2])) (E5 p0):=by
 refine aoP fun r h=>?_;rw [E5] at h;refine cd' h ?_ ?_<;>intro h;exact cs' h (bQj _) fun y1 h=>(rp' h);refine cd' h ?_ ?_<;>intro h;refine cs' h (aKi _) fun y2 h=>(gc' h (aKi _) fun y3 h=>?_);refine aO (.g 18 true (.pick 26 22 (kB true) 25)) (gv true y2 Z1a h (fun y hy hc=>jL hy (p:=true) (q:=((true&&(y2==true))&&((decide (p0.qual=[]))==false))) (Eq.trans (b:=([true&&(y2==true)]:List Bool).all id) kr (dZ hc rfl)) kr kr kr (fun _=>rfl) (fun hb=>rX hc hb)) fun y4 h=>oC ?_);exact dD h fun y5 h=>(rp' h);refine cd' h ?_ ?_<;>intro h;exact bZ h fun y6 h=>(rp' h);refine cd' h ?_ ?_<;>intro h;exact dD h fun y7 h=>(rp' h);refine cd' h ?_ ?_<;>intro h;exact rp' h;refine cd' h ?_ ?_<;>intro h;exact rp' h;refine cd' h ?_ ?_<;>intro h;exact rp' h;refine cd' h ?_ ?_<;>intro h;exact rp' h;refine cd' h ?_ ?_<;>intro h;exact rp' h;exact rp' h
theorem bJo (p0 aA5 r) (h:aLg p0 aA5=some r):cNw p0 aA5 r:=by
 rw [aLg] at h;exact Jok.un (cs' h (bFt _) fun y1 h=>(rp' h))
theorem cA2 (p0:Int):FOk Tryz.prog 183 [vI p0] (fun y=>(.tup [aSx y.1,vB y.2])) (aQe p0):=by
 refine aoP fun r h=>?_;rw [aQe] at h;refine aO (.bld 6 [D7,D7,aU9,D7,D7,aRo,aRo,aRo,.nil 10,.nil 6] [(0,1,5),(1,1,kI 15),(7,1,.c (.d (.s (bs [120]))))]) (bDp (c:=[vI p0,vI 15,vB false,vI 0,vI 0,vS [],vS [],vS [120],.nil 10,.nil 6]) kr kr rfl (oC ?_));refine cd' h ?_ ?_<;>intro h;exact jn' (bJo _ _ _ h) (wr [] eS bS);exact jn' (bJo _ _ _ h) (wr [] eS bS)
theorem cOt (p0:Int) (p1:Int) (p2:Int):FOk Tryz.prog 141 [vI p0,vI p1,vI p2] (fun y=>(vB y)) (aM6 p0 p1 p2):=by
 refine aoP fun r h=>?_;rw [aM6] at h;exact cs' h (cA2 _) fun y1 h=>(dD h fun y2 h=>(dD h fun y3 h=>(dD h fun y4 h=>(rp' h))))
theorem cK8 (p0:List aA):cO Tryz.prog 195 [eF p0] [] Z18 Z19 (aL4 p0):=by
 refine aoB fun r h=>?_;rw [aL4] at h;refine aO (.eqn 4 false 3) (bKq (sz:=3) (l:=p0) (f:=aB) h kr kr (fun hl h=>oC ?_) fun hl h=>?_);refine aO1 ?_;refine aO (.bsl 5 130 3 []) (M3 (l:=([]:List aA)) (f:=aB) (g:=aB) [] kr (fun _=>rfl) kr rfl (oC ?_));refine aO (.app 7 130 3 32 5 6) (bMn (l:=([]:List aA)) (m:=p0) (f:=aB) [5] h kr kr kr (fun _=>rfl) kr (fun _=>rfl) fun y1 h=>oC ?_);exact rw' (s':=⟨[(2,.tre 262)],[(262,[.trc 3 (y1.map aB)])]⟩) (tw [.rn [(7,262)]] (wr [] eS bS)) (rb' h)
 subst hl
 refine ⟨oC ?_,oC ?_⟩
 replace h:((appG 32 ([]:List aA) ([]:List aA))>>=fun (y2:List aA)=>some y2:Option (List aA))=some r:=h
 refine aO1 ?_;refine aO (.bsl 5 130 3 []) (M3 (l:=([]:List aA)) (f:=aB) (g:=aB) [] kr (fun _=>rfl) kr rfl (oC ?_));refine aO (.app 7 130 3 32 5 6) (bMn (l:=([]:List aA)) (m:=([]:List aA)) (f:=aB) [5] h kr kr kr (fun _=>rfl) kr (fun _=>rfl) fun y2 h=>oC ?_);exact rw' (s':=⟨[(2,.tre 262)],[(262,[.trc 3 (y2.map aB)])]⟩) (tw [.rn [(7,262)]] (wr [] eS bS)) (rb' h);exact bGy (rw' (s':=⟨[(2,.tre 262)],[(262,[.trc 3 (([]:List aA).map aB)])]⟩) (tw [.ne 2 0 262] (wr [] eS bS)) (rb' h))
abbrev cIf (p0) (p1):=aAm.partial_correctness p0 p1 (aVa p0 p1) (by intro cUf bDq x13 r h;refine Lok.un ?_;refine cd' h ?_ ?_<;>intro h;refine iq' h fun y1 h=>(iq' h fun y2 h=>?_);refine cd' h ?_ ?_<;>intro h;exact rp' h;exact lb' (bDq _ _ h) (wr [] eS aZ);exact rp' h)
abbrev bDq:=cIf
theorem cI4 (p0:List aA) (p1:List aA):FOk Tryz.prog 194 [eF p0,eF p1] (fun y=>(vB y)) (aK4 p0 p1):=by
 refine aoP fun r h=>?_;rw [aK4] at h;refine lq' p0 (lq' p1 ?_);refine cd' h ?_ ?_<;>intro h;exact rp' h;exact lq' p0 (lb' (bDq _ _ _ _ h) (wr [] eS aZ))
theorem cNs (p0:List aA) (p1:List aA):FOk Tryz.prog 193 [eF p0,.rp [.sl 3 (p1.map aB)]] (fun y=>(vB y)) (aLp p0 p1):=by
 refine aoP fun r h=>?_;rw [aLp] at h;exact cs' h (cI4 _ _) fun y1 h=>(rp' h)
abbrev cCg (p0) (p1):=J9.partial_correctness p0 p1 (bC9 p0 p1) (by intro cQh aXe x8 r h;refine Lok.un ?_;refine cd' h ?_ ?_<;>intro h;refine iq' h fun y1 h=>?_;refine aO (.callv (some 16) 11 [15]) (aGv (m:=aLp y1 p1.c0) (caps:=[.rp [.sl 3 (p1.c0.map aB)]]) (args:=[eF y1,.rp [.sl 3 (p1.c0.map aB)]]) (v':=(fun y=>(vB y))) h kr kr (cNs _ _) kr kr (fun _=>rfl) fun y2 h=>oC ?_);refine cd' h ?_ ?_<;>intro h;exact rp' h;exact lb' (aXe _ _ h) (wr [] eS aZ);exact rp' h)
abbrev aXe:=cCg
theorem cHq (p0:List (List aA)) (p1:tK):FOk Tryz.prog 139 [.d (.sl 1 (p0.map (cSl 3 aB))),.d (aNt p1)] (fun y=>(vI y)) (aR8 p0 p1):=by
 refine aoP fun r h=>?_;rw [aR8] at h;exact lq' p0 (lb' (aXe _ _ _ _ h) (wr [] eS aZ))
theorem cJ3 (p0:List (List aA)) (p1:tK):FOk Tryz.prog 84 [.d (.sl 1 (p0.map (cSl 3 aB))),.d (aNt p1)] (fun y=>(vB y)) (aK5 p0 p1):=by
 refine aoP fun r h=>?_;rw [aK5] at h;exact cs' h (cHq _ _) fun y1 h=>(rp' h)
abbrev bO0 (p0):=aB5.mutual_partial_correctness p0 (aX3 p0) (aXw p0) (by intro cRw bAb x9 qV r h;exact Jok.un (lb' (bAb _ _ _ h) (tw [.rn [(333,329)]] (wr [] eS bS)))) (by intro cQj bCa x9 aU r h;refine Lok.un ?_;refine cd' h ?_ ?_<;>intro h;refine iq' h fun y1 h=>(tw' 0 [.fzb 5] (cg' ⟨[],[],[],[],[],[],[],[],[329]⟩ h (cJ3 _ _).toB fun y2 h=>?_));refine cd' h ?_ ?_<;>intro h;refine cg' ⟨[],[],[],[],[],[],[(262,303)],[],[]⟩ h (cK8 _) fun y3 h=>?_;refine aO (.bsl 20 82 1 [19]) (M3 (l:=([y3]:List (List aA))) (f:=(cSl 3 aB)) (g:=(cSl 3 aB)) [303] kr (fun _=>rfl) kr rfl (oC ?_));refine aO (.app 21 82 1 24 17 20) (aY7 (l:=aU) (m:=([y3]:List (List aA))) (f:=(cSl 3 aB)) [329] [20] h kr kr kr kr (fun _=>rfl) fun y4 h=>oC ?_);exact jn' (bCa _ _ _ h) (tw [.rn [(21,333)]] (wr [] eS bS));exact jn' (bCa _ _ _ h) (tw [.rn [(329,333)]] (wr [] eS bS));exact rw' (s':=⟨[(2,.tre 262)],[(262,[.trc 1 (aU.map (cSl 3 aB))])]⟩) (tw [.rn [(329,262)]] (wr [] eS bS)) (rb' h))
abbrev bCa:=fun p0=>(bO0 p0).1
abbrev bAb:=fun p0=>(bO0 p0).2
theorem cGl (p0:List (List aA)):cO Tryz.prog 145 [.d (.sl 1 (p0.map (cSl 3 aB)))] [] Zs Zt (aCz p0):=by
 refine aoB fun r h=>?_;rw [aCz] at h;refine aO (.bsl 6 82 1 []) (M3 (l:=([]:List (List aA))) (f:=(cSl 3 aB)) (g:=(cSl 3 aB)) [] kr (fun _=>rfl) kr rfl (oC ?_));exact lq' p0 (lb' (bAb _ _ _ _ h) (tw [.rn [(6,329)]] (wr [] eS bS)))
theorem bFf (yQ r) (h:aK1 yQ=some r):cNc yQ r:=by
 rw [aK1] at h;exact Jok.un (rw' (s':=⟨[(2,.tre 262),(3,vI 0)],[(262,[.trc 1 (yQ.map (cSl 3 aB))])]⟩) (tw [.rn [(338,262)]] (wr [] eS bS)) (rb' h))
theorem bMc (p0 qZ r) (h:yH p0 qZ=some r):cNk p0 qZ r:=by
 rw [yH] at h;refine Jok.un ?_;refine aO (.g 57 true (.len 61 60)) (gp true (decide (0≤p0.limit)) (vI (ln qZ)) (fun hc=>cF0 (n:=337) (l:=qZ.map (cSl 3 aB)) (L:=qZ.length) (Eq.trans (b:=([true&&((decide (0≤p0.limit))==true)]:List Bool).all id) kr (dZ hc rfl)) kr kr (QI ..)) (oC ?_));refine dD h fun y7 h=>?_;refine cd' h ?_ ?_<;>intro h;refine aO (.slc 67 1 64 none (some 66) none) (bUu (l:=qZ) (f:=(cSl 3 aB)) (k:=p0.limit) 337 h kr kr kr ⟨kr,.i64,kr⟩ kr (fun _=>rfl) fun y8 h=>oC ?_);exact jn' (bFf _ _ h) (tw [.rn [(67,338)]] (wr [] eS bS));exact jn' (bFf _ _ h) (tw [.rn [(337,338)]] (wr [] eS bS))
abbrev bP5 (p2) (p0) (p1):=aD4.mutual_partial_correctness p2 p0 p1 (fun x12=>bBu p2 x12 p0 p1) (bAo p2 p0 p1) (by intro cSt aUd x12 x8 r h;refine Jok.un ?_;refine cd' h ?_ ?_<;>intro h;exact rp' h;exact lb' (aUd _ _ h) (wr [] eS bS)) (by intro cRt bB0 x12 r h;refine Lok.un ?_;refine cd' h ?_ ?_<;>intro h;refine iq' h fun y1 h=>(iq' h fun y2 h=>(iq' h fun y3 h=>(cs' h (bNy _ _) fun y4 h=>?_)));refine cd' h ?_ ?_<;>intro h;exact jn' (bB0 _ _ _ h) (wr [] eS bS);exact jn' (bB0 _ _ _ h) (wr [] eS bS);exact rp' h)
abbrev bB0:=fun p2 x12 p0 p1=>(bP5 p2 p0 p1).1 x12
abbrev aUd:=fun p2 p0 p1=>(bP5 p2 p0 p1).2
theorem aQv (p0:aV) (p1:aV) (p2:eT):FOk Tryz.prog 191 [jP p0,jP p1,.rp (uC p2)] (fun y=>(vI y)) (tY p0 p1 p2):=by
 refine aoP fun r h=>?_;rw [tY] at h;exact lq' p2.order (lb' (aUd _ _ _ _ _ h) (wr [] eS bS))
abbrev bJf (p1) (p2) (p3):=Y3.mutual_partial_correctness p1 p2 p3 (aUq p1 p2 p3) (bB8 p1 p2 p3) (by intro cL2 cRm aRg aT0 x8 x9 fO r h;refine Lok.un ?_;refine dO (.g 21 true (.ia 25 2 23 24)) (tH (p:=true) (b:=(decide (p1<x9))) (m:=idx fO x9) (dflt:=default) (v':=fun y=>(.trp 244 2 (x9).toNat 0)) h kr rfl rfl (fun y hy hc=>jW (n:=244) (l:=fO) (f:=bJ) (k:=.i64) (i:=x9) hy kr (Eq.trans (b:=([true&&((decide (p1<x9))==true),true&&((decide (p1<x9))==true)]:List Bool).all id) kr (dZ hc (dZ hc rfl))) kr kr) fun y2 h=>dC ?_);refine dO (.g 21 true (.ld 26 2 true 25)) (tH (p:=true) (b:=(decide (p1<x9))) (m:=idx fO x9) (dflt:=default) (v':=fun y=>(jP y)) h kr rfl rfl (fun y hy hc=>oL (off:=0) (n:=244) (sz:=2) (l:=fO) (f:=bJ) (g:=bJ) (j:=x9) hy (fun _=>rfl) kr (Eq.trans (b:=([true&&((decide (p1<x9))==true)]:List Bool).all id) kr (dZ hc rfl)) kr kr) fun y3 h=>dC ?_);refine dO (.g 21 true (.ia 30 2 27 29)) (tH (p:=true) (b:=(decide (p1<x9))) (m:=idx fO (QA .i64 (x9 - 1))) (dflt:=default) (v':=fun y=>(.trp 244 2 ((QA .i64 (x9 - 1))).toNat 0)) h kr rfl rfl (fun y hy hc=>jW (n:=244) (l:=fO) (f:=bJ) (k:=.i64) (i:=(QA .i64 (x9 - 1))) hy kr (Eq.trans (b:=([true&&((decide (p1<x9))==true),true&&((decide (p1<x9))==true)]:List Bool).all id) kr (dZ hc (dZ hc rfl))) kr kr) fun y4 h=>dC ?_);refine dO (.g 21 true (.ld 31 2 true 30)) (tH (p:=true) (b:=(decide (p1<x9))) (m:=idx fO (QA .i64 (x9 - 1))) (dflt:=default) (v':=fun y=>(jP y)) h kr rfl rfl (fun y hy hc=>oL (off:=0) (n:=244) (sz:=2) (l:=fO) (f:=bJ) (g:=bJ) (j:=(QA .i64 (x9 - 1))) hy (fun _=>rfl) kr (Eq.trans (b:=([true&&((decide (p1<x9))==true)]:List Bool).all id) kr (dZ hc rfl)) kr kr) fun y5 h=>dC ?_);refine dO (.g 21 true (.callv (some 32) 22 [26,31])) (bWn (caps:=[.rp (uC p3.c0)]) (p:=true) (b:=(decide (p1<x9))) (m:=tY y3 y5 p3.c0) (dflt:=default) (args:=[jP y3,jP y5,.rp (uC p3.c0)]) (v':=(fun y=>(vI y))) h kr kr kr (aQv _ _ _) (fun hc=>by kernel_rfl) kr (fun _=>rfl) (fun hc=>(Eq.trans (b:=([true&&((decide (p1<x9))==true),true&&((decide (p1<x9))==true),true&&((decide (p1<x9))==true)]:List Bool).all id) kr (dZ hc (dZ hc (dZ hc rfl))))) fun y6 h=>dC ?_);refine dD h fun y7 h=>?_;refine cd' h ?_ ?_<;>intro h;refine dO (.ia 45 2 42 44) (fJ (m:=idx fO (QA .i64 (x9 - 1))) (v':=fun y=>(.trp 244 2 ((QA .i64 (x9 - 1))).toNat 0)) h rfl rfl (fun y hy=>jW (n:=244) (l:=fO) (f:=bJ) (k:=.i64) (i:=(QA .i64 (x9 - 1))) hy kr kr kr kr) fun y8 h=>dC ?_);refine dO (.ld 46 2 true 45) (fJ (m:=idx fO (QA .i64 (x9 - 1))) (v':=fun y=>(jP y)) h rfl rfl (fun y hy=>oL (off:=0) (n:=244) (sz:=2) (l:=fO) (f:=bJ) (g:=bJ) (j:=(QA .i64 (x9 - 1))) hy (fun _=>rfl) kr kr kr kr) fun y9 h=>dC ?_);refine dO (.ia 49 2 47 48) (fJ (m:=idx fO x9) (v':=fun y=>(.trp 244 2 (x9).toNat 0)) h rfl rfl (fun y hy=>jW (n:=244) (l:=fO) (f:=bJ) (k:=.i64) (i:=x9) hy kr kr kr kr) fun y10 h=>dC ?_);refine dO (.ld 50 2 true 49) (fJ (m:=idx fO x9) (v':=fun y=>(jP y)) h rfl rfl (fun y hy=>oL (off:=0) (n:=244) (sz:=2) (l:=fO) (f:=bJ) (g:=bJ) (j:=x9) hy (fun _=>rfl) kr kr kr kr) fun y11 h=>dC ?_);refine dO (.ia 51 2 37 38) (fJ (m:=idx fO x9) (v':=fun y=>(.trp 244 2 (x9).toNat 0)) h rfl rfl (fun y hy=>jW (n:=244) (l:=fO) (f:=bJ) (k:=.i64) (i:=x9) hy kr kr kr kr) fun y12 h=>dC ?_);refine dO (.st 2 51 46) (P5 (n:=244) (sz:=2) (l:=fO) (f:=bJ) (j:=x9) (v:=y9) h kr kr (fun _=>rfl) kr kr (fun _=>rfl) fun y13 h=>dC ?_);refine dO (.ia 52 2 39 41) (fJ (m:=idx y13 (QA .i64 (x9 - 1))) (v':=fun y=>(.trp 244 2 ((QA .i64 (x9 - 1))).toNat 0)) h rfl rfl (fun y hy=>jW (n:=244) (l:=y13) (f:=bJ) (k:=.i64) (i:=(QA .i64 (x9 - 1))) hy kr kr kr kr) fun y14 h=>dC ?_);refine dO (.st 2 52 50) (P5 (n:=244) (sz:=2) (l:=y13) (f:=bJ) (j:=(QA .i64 (x9 - 1))) (v:=y11) h kr kr (fun _=>rfl) kr kr (fun _=>rfl) fun y15 h=>dC ?_);exact lb' (aRg _ _ _ _ h) (wr [] eS bS);exact lb' (aT0 _ _ _ h) (wr [] eS bS)) (by intro cL2 aRg x8 aL r h;refine Lok.un ?_;refine cd' h ?_ ?_<;>intro h;exact lb' (aRg _ _ _ _ h) (wr [] eS bS);exact rb' h)
abbrev aRg:=fun p1 p2 p3=>(bJf p1 p2 p3).1
abbrev aT0:=fun p1 p2 p3=>(bJf p1 p2 p3).2
theorem bNt (p0:List aV) (p1:Int) (p2:Int) (p3:dJ):cO Tryz.prog 246 [.tre 244,vI p1,vI p2,.d (kX p3)] [(244,[.trs 2 (p0.map bJ)])] Zq Zr (aFx p0 p1 p2 p3):=by
 refine aoB fun r h=>?_;rw [aFx] at h;exact lb' (aT0 _ _ _ _ _ _ h) (wr [] eS bS)
abbrev cP4 (p1) (p2) (p3):=aA3.partial_correctness p1 p2 p3 (aZi p1 p2 p3) (by intro cSs bCr x10 aL r h;refine Lok.un ?_;refine cd' h ?_ ?_<;>intro h;refine dO (.ia 28 2 24 27) (fJ (m:=idx aL (QA .i64 (p2+x10))) (v':=fun y=>(.trp 244 2 ((QA .i64 (p2+x10))).toNat 0)) h rfl rfl (fun y hy=>jW (n:=244) (l:=aL) (f:=bJ) (k:=.i64) (i:=(QA .i64 (p2+x10))) hy kr kr kr kr) fun y1 h=>dC ?_);refine dO (.ld 29 2 true 28) (fJ (m:=idx aL (QA .i64 (p2+x10))) (v':=fun y=>(jP y)) h rfl rfl (fun y hy=>oL (off:=0) (n:=244) (sz:=2) (l:=aL) (f:=bJ) (g:=bJ) (j:=(QA .i64 (p2+x10))) hy (fun _=>rfl) kr kr kr kr) fun y2 h=>dC ?_);refine dO (.ia 34 2 30 33) (fJ (m:=idx aL (QA .i64 (p1+x10))) (v':=fun y=>(.trp 244 2 ((QA .i64 (p1+x10))).toNat 0)) h rfl rfl (fun y hy=>jW (n:=244) (l:=aL) (f:=bJ) (k:=.i64) (i:=(QA .i64 (p1+x10))) hy kr kr kr kr) fun y3 h=>dC ?_);refine dO (.ld 35 2 true 34) (fJ (m:=idx aL (QA .i64 (p1+x10))) (v':=fun y=>(jP y)) h rfl rfl (fun y hy=>oL (off:=0) (n:=244) (sz:=2) (l:=aL) (f:=bJ) (g:=bJ) (j:=(QA .i64 (p1+x10))) hy (fun _=>rfl) kr kr kr kr) fun y4 h=>dC ?_);refine dO (.ia 36 2 16 19) (fJ (m:=idx aL (QA .i64 (p1+x10))) (v':=fun y=>(.trp 244 2 ((QA .i64 (p1+x10))).toNat 0)) h rfl rfl (fun y hy=>jW (n:=244) (l:=aL) (f:=bJ) (k:=.i64) (i:=(QA .i64 (p1+x10))) hy kr kr kr kr) fun y5 h=>dC ?_);refine dO (.st 2 36 29) (P5 (n:=244) (sz:=2) (l:=aL) (f:=bJ) (j:=(QA .i64 (p1+x10))) (v:=y2) h kr kr (fun _=>rfl) kr kr (fun _=>rfl) fun y6 h=>dC ?_);refine dO (.ia 37 2 20 23) (fJ (m:=idx y6 (QA .i64 (p2+x10))) (v':=fun y=>(.trp 244 2 ((QA .i64 (p2+x10))).toNat 0)) h rfl rfl (fun y hy=>jW (n:=244) (l:=y6) (f:=bJ) (k:=.i64) (i:=(QA .i64 (p2+x10))) hy kr kr kr kr) fun y7 h=>dC ?_);refine dO (.st 2 37 35) (P5 (n:=244) (sz:=2) (l:=y6) (f:=bJ) (j:=(QA .i64 (p2+x10))) (v:=y4) h kr kr (fun _=>rfl) kr kr (fun _=>rfl) fun y8 h=>dC ?_);exact lb' (bCr _ _ _ h) (wr [] eS bS);exact rb' h)
abbrev bCr:=cP4
theorem aV4 (p0:List aV) (p1:Int) (p2:Int) (p3:Int) (p4:dJ):cO Tryz.prog 252 [.tre 244,vI p1,vI p2,vI p3,.d (kX p4)] [(244,[.trs 2 (p0.map bJ)])] Zq Zr (aBa p0 p1 p2 p3 p4):=by
 refine aoB fun r h=>?_;rw [aBa] at h;exact lb' (bCr _ _ _ _ _ _ h) (wr [] eS bS)
abbrev bTa (p2) (p4):=U7.partial_correctness p2 p4 (bCb p2 p4) (by intro cTu aR0 x10 x11 aL r h;refine Lok.un ?_;refine cd' h ?_ ?_<;>intro h;refine cd' h ?_ ?_<;>intro h;exact cg' ⟨[(244,244)],[],[],[],[],[],[],[],[]⟩ h (aV4 _ _ _ _ _) fun y1 h=>(lb' (aR0 _ _ _ _ h) (wr [] eS bS));exact cg' ⟨[(244,244)],[],[],[],[],[],[],[],[]⟩ h (aV4 _ _ _ _ _) fun y2 h=>(lb' (aR0 _ _ _ _ h) (wr [] eS bS));exact cg' ⟨[(244,244)],[],[],[],[],[],[],[],[]⟩ h (aV4 _ _ _ _ _) fun y3 h=>(rb' h))
abbrev aR0:=bTa
theorem cIl (p0:List aV) (p1:Int) (p2:Int) (p3:Int) (p4:dJ):cO Tryz.prog 251 [.tre 244,vI p1,vI p2,vI p3,.d (kX p4)] [(244,[.trs 2 (p0.map bJ)])] Zq Zr (aLl p0 p1 p2 p3 p4):=by
 refine aoB fun r h=>?_;rw [aLl] at h;exact lb' (aR0 _ _ _ _ _ _ h) (wr [] eS bS)
abbrev bTf (x10):=O3.partial_correctness x10 (aTe x10) (by intro cRx aUg x13 aL r h;refine Lok.un ?_;refine cd' h ?_ ?_<;>intro h;refine dO (.ia 69 2 66 68) (fJ (m:=idx aL (QA .i64 (x13+1))) (v':=fun y=>(.trp 244 2 ((QA .i64 (x13+1))).toNat 0)) h rfl rfl (fun y hy=>jW (n:=244) (l:=aL) (f:=bJ) (k:=.i64) (i:=(QA .i64 (x13+1))) hy kr kr kr kr) fun y14 h=>dC ?_);refine dO (.ld 70 2 true 69) (fJ (m:=idx aL (QA .i64 (x13+1))) (v':=fun y=>(jP y)) h rfl rfl (fun y hy=>oL (off:=0) (n:=244) (sz:=2) (l:=aL) (f:=bJ) (g:=bJ) (j:=(QA .i64 (x13+1))) hy (fun _=>rfl) kr kr kr kr) fun y15 h=>dC ?_);refine dO (.ia 73 2 71 72) (fJ (m:=idx aL x13) (v':=fun y=>(.trp 244 2 (x13).toNat 0)) h rfl rfl (fun y hy=>jW (n:=244) (l:=aL) (f:=bJ) (k:=.i64) (i:=x13) hy kr kr kr kr) fun y16 h=>dC ?_);refine dO (.ld 74 2 true 73) (fJ (m:=idx aL x13) (v':=fun y=>(jP y)) h rfl rfl (fun y hy=>oL (off:=0) (n:=244) (sz:=2) (l:=aL) (f:=bJ) (g:=bJ) (j:=x13) hy (fun _=>rfl) kr kr kr kr) fun y17 h=>dC ?_);refine dO (.ia 75 2 61 62) (fJ (m:=idx aL x13) (v':=fun y=>(.trp 244 2 (x13).toNat 0)) h rfl rfl (fun y hy=>jW (n:=244) (l:=aL) (f:=bJ) (k:=.i64) (i:=x13) hy kr kr kr kr) fun y18 h=>dC ?_);refine dO (.st 2 75 70) (P5 (n:=244) (sz:=2) (l:=aL) (f:=bJ) (j:=x13) (v:=y15) h kr kr (fun _=>rfl) kr kr (fun _=>rfl) fun y19 h=>dC ?_);refine dO (.ia 76 2 63 65) (fJ (m:=idx y19 (QA .i64 (x13+1))) (v':=fun y=>(.trp 244 2 ((QA .i64 (x13+1))).toNat 0)) h rfl rfl (fun y hy=>jW (n:=244) (l:=y19) (f:=bJ) (k:=.i64) (i:=(QA .i64 (x13+1))) hy kr kr kr kr) fun y20 h=>dC ?_);refine dO (.st 2 76 74) (P5 (n:=244) (sz:=2) (l:=y19) (f:=bJ) (j:=(QA .i64 (x13+1))) (v:=y17) h kr kr (fun _=>rfl) kr kr (fun _=>rfl) fun y21 h=>dC ?_);exact lb' (aUg _ _ _ h) (wr [] eS bS);exact rb' h)
abbrev aUg:=bTf
abbrev cNy (p1) (p4) (p0):=yI.partial_correctness p1 p4 p0 (aZs p1 p4 p0) (by intro cRg aRl x10 x11 r h;refine Lok.un ?_;refine cd' h ?_ ?_<;>intro h;refine dO (.ia 43 2 41 42) (fJ (m:=idx p0 (QA .i64 (QB (QA .u64 (QA .i64 (x10+x11))) (2 ^ 1)))) (v':=fun y=>(.trp 244 2 ((QA .i64 (QB (QA .u64 (QA .i64 (x10+x11))) (2 ^ 1)))).toNat 0)) h rfl rfl (fun y hy=>jW (n:=244) (l:=p0) (f:=bJ) (k:=.i64) (i:=(QA .i64 (QB (QA .u64 (QA .i64 (x10+x11))) (2 ^ 1)))) hy kr kr kr kr) fun y1 h=>dC ?_);refine dO (.ld 44 2 true 43) (fJ (m:=idx p0 (QA .i64 (QB (QA .u64 (QA .i64 (x10+x11))) (2 ^ 1)))) (v':=fun y=>(jP y)) h rfl rfl (fun y hy=>oL (off:=0) (n:=244) (sz:=2) (l:=p0) (f:=bJ) (g:=bJ) (j:=(QA .i64 (QB (QA .u64 (QA .i64 (x10+x11))) (2 ^ 1)))) hy (fun _=>rfl) kr kr kr kr) fun y2 h=>dC ?_);refine dO (.ia 47 2 45 46) (fJ (m:=idx p0 p1) (v':=fun y=>(.trp 244 2 (p1).toNat 0)) h rfl rfl (fun y hy=>jW (n:=244) (l:=p0) (f:=bJ) (k:=.i64) (i:=p1) hy kr kr kr kr) fun y3 h=>dC ?_);refine dO (.ld 48 2 true 47) (fJ (m:=idx p0 p1) (v':=fun y=>(jP y)) h rfl rfl (fun y hy=>oL (off:=0) (n:=244) (sz:=2) (l:=p0) (f:=bJ) (g:=bJ) (j:=p1) hy (fun _=>rfl) kr kr kr kr) fun y4 h=>dC ?_);refine dO (.callv (some 49) 40 [44,48]) (aZm (m:=tY y2 y4 p4.c0) (caps:=[.rp (uC p4.c0)]) (args:=[jP y2,jP y4,.rp (uC p4.c0)]) (v':=(fun y=>(vI y))) h kr kr (aQv _ _ _) kr kr (fun _=>rfl) fun y5 h=>dC ?_);refine cd' h ?_ ?_<;>intro h;exact lb' (aRl _ _ _ h) (wr [] eS bS);exact lb' (aRl _ _ _ h) (wr [] eS bS);exact lb' (aUg _ _ _ _ h) (wr [] eS bS))
abbrev aRl:=cNy
abbrev cMo (x14):=aAq.partial_correctness x14 (bBn x14) (by intro cR2 aXt x17 iQ r h;refine Lok.un ?_;refine cd' h ?_ ?_<;>intro h;refine dO (.ia 121 2 118 120) (fJ (m:=idx iQ (QA .i64 (x17 - 1))) (v':=fun y=>(.trp 244 2 ((QA .i64 (x17 - 1))).toNat 0)) h rfl rfl (fun y hy=>jW (n:=244) (l:=iQ) (f:=bJ) (k:=.i64) (i:=(QA .i64 (x17 - 1))) hy kr kr kr kr) fun y22 h=>dC ?_);refine dO (.ld 122 2 true 121) (fJ (m:=idx iQ (QA .i64 (x17 - 1))) (v':=fun y=>(jP y)) h rfl rfl (fun y hy=>oL (off:=0) (n:=244) (sz:=2) (l:=iQ) (f:=bJ) (g:=bJ) (j:=(QA .i64 (x17 - 1))) hy (fun _=>rfl) kr kr kr kr) fun y23 h=>dC ?_);refine dO (.ia 125 2 123 124) (fJ (m:=idx iQ x17) (v':=fun y=>(.trp 244 2 (x17).toNat 0)) h rfl rfl (fun y hy=>jW (n:=244) (l:=iQ) (f:=bJ) (k:=.i64) (i:=x17) hy kr kr kr kr) fun y24 h=>dC ?_);refine dO (.ld 126 2 true 125) (fJ (m:=idx iQ x17) (v':=fun y=>(jP y)) h rfl rfl (fun y hy=>oL (off:=0) (n:=244) (sz:=2) (l:=iQ) (f:=bJ) (g:=bJ) (j:=x17) hy (fun _=>rfl) kr kr kr kr) fun y25 h=>dC ?_);refine dO (.ia 127 2 113 114) (fJ (m:=idx iQ x17) (v':=fun y=>(.trp 244 2 (x17).toNat 0)) h rfl rfl (fun y hy=>jW (n:=244) (l:=iQ) (f:=bJ) (k:=.i64) (i:=x17) hy kr kr kr kr) fun y26 h=>dC ?_);refine dO (.st 2 127 122) (P5 (n:=244) (sz:=2) (l:=iQ) (f:=bJ) (j:=x17) (v:=y23) h kr kr (fun _=>rfl) kr kr (fun _=>rfl) fun y27 h=>dC ?_);refine dO (.ia 128 2 115 117) (fJ (m:=idx y27 (QA .i64 (x17 - 1))) (v':=fun y=>(.trp 244 2 ((QA .i64 (x17 - 1))).toNat 0)) h rfl rfl (fun y hy=>jW (n:=244) (l:=y27) (f:=bJ) (k:=.i64) (i:=(QA .i64 (x17 - 1))) hy kr kr kr kr) fun y28 h=>dC ?_);refine dO (.st 2 128 126) (P5 (n:=244) (sz:=2) (l:=y27) (f:=bJ) (j:=(QA .i64 (x17 - 1))) (v:=y25) h kr kr (fun _=>rfl) kr kr (fun _=>rfl) fun y29 h=>dC ?_);exact lb' (aXt _ _ _ h) (wr [] eS bS);exact rb' h)
abbrev aXt:=cMo
abbrev cBm (p2) (p4) (p0):=sI.partial_correctness p2 p4 p0 (aVt p2 p4 p0) (by intro cRe aNv x14 x15 r h;refine Lok.un ?_;refine cd' h ?_ ?_<;>intro h;refine dO (.ia 95 2 93 94) (fJ (m:=idx p0 p2) (v':=fun y=>(.trp 244 2 (p2).toNat 0)) h rfl rfl (fun y hy=>jW (n:=244) (l:=p0) (f:=bJ) (k:=.i64) (i:=p2) hy kr kr kr kr) fun y6 h=>dC ?_);refine dO (.ld 96 2 true 95) (fJ (m:=idx p0 p2) (v':=fun y=>(jP y)) h rfl rfl (fun y hy=>oL (off:=0) (n:=244) (sz:=2) (l:=p0) (f:=bJ) (g:=bJ) (j:=p2) hy (fun _=>rfl) kr kr kr kr) fun y7 h=>dC ?_);refine dO (.ia 99 2 97 98) (fJ (m:=idx p0 (QA .i64 (QB (QA .u64 (QA .i64 (x14+x15))) (2 ^ 1)))) (v':=fun y=>(.trp 244 2 ((QA .i64 (QB (QA .u64 (QA .i64 (x14+x15))) (2 ^ 1)))).toNat 0)) h rfl rfl (fun y hy=>jW (n:=244) (l:=p0) (f:=bJ) (k:=.i64) (i:=(QA .i64 (QB (QA .u64 (QA .i64 (x14+x15))) (2 ^ 1)))) hy kr kr kr kr) fun y8 h=>dC ?_);refine dO (.ld 100 2 true 99) (fJ (m:=idx p0 (QA .i64 (QB (QA .u64 (QA .i64 (x14+x15))) (2 ^ 1)))) (v':=fun y=>(jP y)) h rfl rfl (fun y hy=>oL (off:=0) (n:=244) (sz:=2) (l:=p0) (f:=bJ) (g:=bJ) (j:=(QA .i64 (QB (QA .u64 (QA .i64 (x14+x15))) (2 ^ 1)))) hy (fun _=>rfl) kr kr kr kr) fun y9 h=>dC ?_);refine dO (.callv (some 101) 92 [96,100]) (aZm (m:=tY y7 y9 p4.c0) (caps:=[.rp (uC p4.c0)]) (args:=[jP y7,jP y9,.rp (uC p4.c0)]) (v':=(fun y=>(vI y))) h kr kr (aQv _ _ _) kr kr (fun _=>rfl) fun y10 h=>dC ?_);refine cd' h ?_ ?_<;>intro h;exact lb' (aNv _ _ _ h) (wr [] eS bS);exact lb' (aNv _ _ _ h) (wr [] eS bS);exact lb' (aXt _ _ _ _ h) (wr [] eS bS))
abbrev aNv:=cBm
abbrev aM3 (p4):=wZ.mutual_partial_correctness p4 (fun p3=>aYo p3 p4) (fun p0 p1 p2 p3 r=>bF Tryz.prog 247 [.tre 244,vI p1,vI p2,vI p3,.d (kX p4)] [(244,[.trs 2 (p0.map bJ)])] (BQ Zq Zr r)) (fun p1 p2 p3=>aTw p1 p2 p3 p4) (fun p1 p2 p3=>aXs p1 p2 p3 p4) (fun p1 p3=>aYe p1 p3 p4) (by intro cF1 aHj p3 p1 p2 dI pR r h;refine Jok.un (dD h fun y41 h=>?_);refine cd' h ?_ ?_<;>intro h;exact cg' ⟨[(244,244)],[],[],[],[],[],[],[],[]⟩ h (aHj _ _ _ _) fun y42 h=>(rb' h);exact rb' h) (by intro cQu bDw p0 p1 p2 p3 r h;refine ao' ?_;refine cd' h ?_ ?_<;>intro h;exact lb' (aRl _ _ _ _ _ _ h) (wr [] eS bS);refine cd' h ?_ ?_<;>intro h;exact lb' (aNv _ _ _ _ _ _ h) (wr [] eS bS);refine cd' h ?_ ?_<;>intro h;exact jn' (bDw _ _ _ _ _ _ _ h) (wr [] eS bS);exact jn' (bDw _ _ _ _ _ _ _ h) (wr [] eS bS)) (by intro cCd aMc p1 p2 p3 p0 x20 x21 r h;refine Jok.un ?_;exact lb' (aMc _ _ _ _ _ _ _ h) (wr [] eS bS)) (by intro cCd cUh aMc bBp p1 p2 p3 p0 dI iM r h;refine Lok.un ?_;refine cd' h ?_ ?_<;>intro h;refine dO (.ia 163 2 159 162) (fJ (m:=idx p0 (QA .i64 ((QA .i64 ((QA .i64 ((QA .i64 (QB (QA .u64 (QA .i64 (p1+p3))) (2 ^ 1)))+p2)) - 1)) - (QA .i64 (QB (QA .u64 (QA .i64 (dI+iM))) (2 ^ 1)))))) (v':=fun y=>(.trp 244 2 ((QA .i64 ((QA .i64 ((QA .i64 ((QA .i64 (QB (QA .u64 (QA .i64 (p1+p3))) (2 ^ 1)))+p2)) - 1)) - (QA .i64 (QB (QA .u64 (QA .i64 (dI+iM))) (2 ^ 1)))))).toNat 0)) h rfl rfl (fun y hy=>jW (n:=244) (l:=p0) (f:=bJ) (k:=.i64) (i:=(QA .i64 ((QA .i64 ((QA .i64 ((QA .i64 (QB (QA .u64 (QA .i64 (p1+p3))) (2 ^ 1)))+p2)) - 1)) - (QA .i64 (QB (QA .u64 (QA .i64 (dI+iM))) (2 ^ 1)))))) hy kr kr kr kr) fun y30 h=>dC ?_);refine dO (.ld 164 2 true 163) (fJ (m:=idx p0 (QA .i64 ((QA .i64 ((QA .i64 ((QA .i64 (QB (QA .u64 (QA .i64 (p1+p3))) (2 ^ 1)))+p2)) - 1)) - (QA .i64 (QB (QA .u64 (QA .i64 (dI+iM))) (2 ^ 1)))))) (v':=fun y=>(jP y)) h rfl rfl (fun y hy=>oL (off:=0) (n:=244) (sz:=2) (l:=p0) (f:=bJ) (g:=bJ) (j:=(QA .i64 ((QA .i64 ((QA .i64 ((QA .i64 (QB (QA .u64 (QA .i64 (p1+p3))) (2 ^ 1)))+p2)) - 1)) - (QA .i64 (QB (QA .u64 (QA .i64 (dI+iM))) (2 ^ 1)))))) hy (fun _=>rfl) kr kr kr kr) fun y31 h=>dC ?_);refine dO (.ia 167 2 165 166) (fJ (m:=idx p0 (QA .i64 (QB (QA .u64 (QA .i64 (dI+iM))) (2 ^ 1)))) (v':=fun y=>(.trp 244 2 ((QA .i64 (QB (QA .u64 (QA .i64 (dI+iM))) (2 ^ 1)))).toNat 0)) h rfl rfl (fun y hy=>jW (n:=244) (l:=p0) (f:=bJ) (k:=.i64) (i:=(QA .i64 (QB (QA .u64 (QA .i64 (dI+iM))) (2 ^ 1)))) hy kr kr kr kr) fun y32 h=>dC ?_);refine dO (.ld 168 2 true 167) (fJ (m:=idx p0 (QA .i64 (QB (QA .u64 (QA .i64 (dI+iM))) (2 ^ 1)))) (v':=fun y=>(jP y)) h rfl rfl (fun y hy=>oL (off:=0) (n:=244) (sz:=2) (l:=p0) (f:=bJ) (g:=bJ) (j:=(QA .i64 (QB (QA .u64 (QA .i64 (dI+iM))) (2 ^ 1)))) hy (fun _=>rfl) kr kr kr kr) fun y33 h=>dC ?_);refine dO (.callv (some 169) 158 [164,168]) (aZm (m:=tY y31 y33 p4.c0) (caps:=[.rp (uC p4.c0)]) (args:=[jP y31,jP y33,.rp (uC p4.c0)]) (v':=(fun y=>(vI y))) h kr kr (aQv _ _ _) kr kr (fun _=>rfl) fun y34 h=>dC ?_);refine cd' h ?_ ?_<;>intro h;exact lb' (aMc _ _ _ _ _ _ _ h) (wr [] eS bS);exact lb' (aMc _ _ _ _ _ _ _ h) (wr [] eS bS);refine dD h fun y35 h=>?_;refine cd' h ?_ ?_<;>intro h;refine cg' ⟨[(244,244)],[],[],[],[],[],[],[],[]⟩ h (cIl _ _ _ _ _) fun y36 h=>?_;exact jn' (bBp _ _ _ _ _ _ h) (wr [] eS bS);exact jn' (bBp _ _ _ _ _ _ h) (wr [] eS bS)) (by intro cUe cF1 bB6 aHj p1 p3 dI p2 oV r h;refine Jok.un (dD h fun y38 h=>?_);refine cd' h ?_ ?_<;>intro h;exact cg' ⟨[(244,244)],[],[],[],[],[],[],[],[]⟩ h (aHj _ _ _ _) fun y39 h=>(jn' (bB6 _ _ _ _ _ _ h) (wr [] eS bS));exact jn' (bB6 _ _ _ _ _ _ h) (wr [] eS bS))
abbrev bB6:=fun p3 p4=>(aM3 p4).1 p3
theorem aHj (p0:List aV) (p1:Int) (p2:Int) (p3:Int) (p4:dJ):cO Tryz.prog 247 [.tre 244,vI p1,vI p2,vI p3,.d (kX p4)] [(244,[.trs 2 (p0.map bJ)])] Zq Zr (xJ p0 p1 p2 p3 p4):=fun r h=>(aM3 p4).2.1 p0 p1 p2 p3 r h
abbrev bDw:=fun p1 p2 p3 p4=>(aM3 p4).2.2.1 p1 p2 p3
abbrev aMc:=fun p1 p2 p3 p4=>(aM3 p4).2.2.2.1 p1 p2 p3
abbrev bBp:=fun p1 p3 p4=>(aM3 p4).2.2.2.2 p1 p3
abbrev bAg (p1) (p2):=Z5.mutual_partial_correctness p1 p2 (aWs p1 p2) (bCm p1 p2) (aZk p1 p2) (by intro cQ3 aZe x6 qW r h;exact Jok.un (lb' (aZe _ _ _ h) (wr [] eS bS))) (by intro bQt aOn x6 oQ r h;refine Lok.un ?_;refine cd' h ?_ ?_<;>intro h;exact lb' (aOn _ _ _ _ _ h) (wr [] eS bS);exact rb' h) (by intro cRd bQt bAu aOn x6 mV nL nV r h;refine Lok.un ?_;refine cd' h ?_ ?_<;>intro h;exact cg' ⟨[(244,244)],[],[],[],[],[],[],[],[]⟩ h (aHj _ _ _ _ _) fun y7 h=>(lb' (aOn _ _ _ _ _ h) (wr [] eS bS));refine cd' h ?_ ?_<;>intro h;exact cg' ⟨[(244,244)],[],[],[],[],[],[],[],[]⟩ h (aHj _ _ _ _ _) fun y8 h=>(jn' (bAu _ _ _ h) (wr [] eS bS));exact jn' (bAu _ _ _ h) (wr [] eS bS))
abbrev bAu:=fun p1 p2=>(bAg p1 p2).1
abbrev aZe:=fun p1 p2=>(bAg p1 p2).2.1
abbrev aOn:=fun p1 p2=>(bAg p1 p2).2.2
abbrev cD2 (p1) (p2):=Q9.partial_correctness p1 p2 (bAs p1 p2) (by intro cT7 bC4 x7 x8 aL r h;refine Lok.un ?_;refine cd' h ?_ ?_<;>intro h;exact cg' ⟨[(244,244)],[],[],[],[],[],[],[],[]⟩ h (bNt _ _ _ _) fun y1 h=>(lb' (bC4 _ _ _ _ h) (wr [] eS bS));exact cg' ⟨[(244,244)],[],[],[],[],[],[],[],[]⟩ h (bNt _ _ _ _) fun y2 h=>(lb' (aZe _ _ _ _ _ h) (wr [] eS bS)))
abbrev bC4:=cD2
theorem cL8 (p0:List aV) (p1:Int) (p2:dJ):cO Tryz.prog 231 [.tre 244,vI p1,.d (kX p2)] [(244,[.trs 2 (p0.map bJ)])] Zq Zr (aOg p0 p1 p2):=by
 refine aoB fun r h=>?_;rw [aOg] at h;exact lb' (bC4 _ _ _ _ _ _ h) (wr [] eS bS)
theorem cHb (p0:List aV) (p1:dJ):cO Tryz.prog 190 [.tre 244,.d (kX p1)] [(244,[.trs 2 (p0.map bJ)])] Zq Zr (aJd p0 p1):=by
 refine aoB fun r h=>?_;rw [aJd] at h;refine aO (.len 6 5) (ps (vI (ln p0)) (uB (n:=244) (l:=p0.map bJ) (L:=p0.length) kr kr (QI ..)) (oC ?_));exact cg' ⟨[(244,244)],[],[],[],[],[],[],[],[]⟩ h (cL8 _ _ _) fun y1 h=>(rb' h)
abbrev bW6 (y2):=Z0.partial_correctness y2 (bD2 y2) (by intro cSa aUm x14 x60 r h;refine Lok.un ?_;refine cd' h ?_ ?_<;>intro h;refine aO (.ia 62 2 58 60) (vs (fun (y:aV)=>(.trp 337 2 (x60).toNat 0)) h (fun y hy=>jW (n:=337) (l:=y2) (f:=bJ) (k:=.i64) (i:=x60) hy kr kr kr kr) fun y7 h=>oC ?_);refine aO (.ld 63 2 true 62) (vs (fun (y:aV)=>(jP y)) h (fun y hy=>oL (off:=0) (n:=337) (sz:=2) (l:=y2) (f:=bJ) (g:=bJ) (j:=x60) hy (fun _=>rfl) kr kr kr kr) fun y8 h=>oC ?_);refine aO (.bsl 67 82 1 [66]) (dN (l:=([y8.row]:List (List aA))) (f:=(cSl 3 aB)) (g:=(cSl 3 aB)) kr (fun _=>rfl) kr (oC ?_));exact aq' 14 (cSl 3 aB) h fun y9 h=>(lb' (aUm _ _ _ h) (wr [(14,.old 14)] (eo 14 eS) bS));exact rw' (s':=⟨[(4,.osl 243 82 1 (x14.map (cSl 3 aB))),(5,vI 0)],[]⟩) (wr [(243,.old 4)] (eo 4 eS) aZ) (rb' h))
abbrev aUm:=bW6
abbrev jY:=aD6.mutual_partial_correctness bBv bCd (fun p0 p1 p2 p3 p4 r=>bF Tryz.prog 88 [eF p0,.rp (nG p1),.rp (nP p2),.rp [.sl 1 (p3.map (cSl 3 aB))],.rp (jQ p4)] [] (PQ (fun y=>(.tup [bX y.1,vI y.2])) r)) (fun p0 p1 p2 p3 r=>bF Tryz.prog 89 [eG p0,gJ p1,.d (.sl 1 (p2.map (cSl 3 aB))),fB p3] [] (PQ (fun y=>(.tup [bX y.1,vI y.2])) r)) aUf bCl (fun p0 p1 p2 p3 r=>bF Tryz.prog 40 [eG p0,gJ p1,.d (.sl 1 (p2.map (cSl 3 aB))),eQ p3] [] (BQ Zi Zj r)) aYj aWx bBm (fun p0 r=>bF Tryz.prog 92 [zM p0] [] (BQ Zi Zj r)) bAx (fun p0 p1 r=>bF Tryz.prog 90 [eF p0,.rp [.sl 1 (p1.map iJ)]] [] (BQ Zm Zn r)) (fun p0 p1 r=>bF Tryz.prog 91 [xY p0,eF p1] [] (BQ Zm Zn r)) bDj (fun p0 p1 r=>bF Tryz.prog 144 [zM p0,.d (.sl 1 (p1.map (cSl 3 aB)))] [] (BQ Zo Zp r)) (fun p0 r=>bF Tryz.prog 143 [zM p0] [] (PQ (fun y=>(.tup [.d (.sl 1 (y.1.map (cSl 3 aB))),vI y.2])) r)) bEh (fun p0 p1 r=>bF Tryz.prog 189 [.d (.sl 1 (p0.map (cSl 3 aB))),xY p1] [] (PQ (fun y=>(.tup [.d (.sl 1 (y.1.map (cSl 3 aB))),vI y.2])) r)) aY5 aXr aWg bAa aZj (by intro bV4 cFm aLn aNe aPl aG8 y1 p1 x20 p0 gZ x9 x28 r h;refine Lok.un ?_;refine cd' h ?_ ?_<;>intro h;refine iq' h fun y3 h=>?_;refine aO (.callv (some 36) 34 [35]) (aGv (m:=aLn y1 y3.eval.c0 y3.eval.c1 y3.eval.c2 y3.eval.c3) (caps:=[.rp (nG y3.eval.c0),.rp (nP y3.eval.c1),.rp [.sl 1 (y3.eval.c2.map (cSl 3 aB))],.rp (jQ y3.eval.c3)]) (args:=[eF y1,.rp (nG y3.eval.c0),.rp (nP y3.eval.c1),.rp [.sl 1 (y3.eval.c2.map (cSl 3 aB))],.rp (jQ y3.eval.c3)]) (v':=(fun y=>(.tup [bX y.1,vI y.2]))) h kr kr (aG8 _ _ _ _ _) kr kr (fun _=>rfl) fun y4 h=>oC ?_);refine cd' h ?_ ?_<;>intro h;exact rw' (s':=⟨[(4,.osl 243 82 1 (([]:List (List aA)).map (cSl 3 aB))),(5,vI y4.2)],[]⟩) (wr [(243,.new 82 1)] (en eS) aZ) (rb' h);refine aO (.bsl 44 130 3 [43]) (dN (l:=([y4.1]:List aA)) (f:=aB) (g:=aB) kr (fun _=>rfl) kr (oC ?_));refine aq' 9 aB h fun y5 h=>?_;exact lb' (aNe _ _ _ _ _ _ _ _ h) (wr [(9,.old 9)] (es (es (es (eo 9 eS)))) bS);refine aO (.bsl 51 239 2 [50]) (dN (l:=([aV.mk y1 x9]:List aV)) (f:=bJ) (g:=bJ) kr (fun _=>rfl) kr (oC ?_));refine aO (.app 52 239 2 48 47 51) (cA7 (l:=gZ) (m:=([aV.mk y1 x9]:List aV)) (f:=bJ) [332] h kr kr kr kr (fun _=>rfl) fun y6 h=>oC ?_);exact lb' (aPl _ _ _ _ _ h) (tw [.rn [(52,331)]] (wr [] eS bS))) (by intro bV4 aNe p1 p0 x20 gZ r h;refine Lok.un ?_;refine cd' h ?_ ?_<;>intro h;refine iq' h fun y1 h=>?_;refine aO (.bsl 24 130 3 []) (dN (l:=([]:List aA)) (f:=aB) (g:=aB) kr (fun _=>rfl) kr (oC ?_));refine lq' p0.order ?_;exact lb' (aNe _ _ _ _ _ _ _ _ h) (tw [.rn [(331,332)]] (wr [(9,.old 9)] (es (es (es (eo 9 eS)))) bS));refine tw' 0 [.fzb 2] (cg' ⟨[(244,331)],[],[],[],[],[],[],[],[]⟩ h (cHb _ _) fun y2 h=>?_);refine aO (.bsl 57 82 1 []) (dN (l:=([]:List (List aA))) (f:=(cSl 3 aB)) (g:=(cSl 3 aB)) kr (fun _=>rfl) kr (oC ?_));refine aO (.len 59 58) (ps (vI (ln y2)) (uB (n:=331) (l:=y2.map bJ) (L:=y2.length) kr kr (QI ..)) (oC ?_));exact lb' (aUm _ _ _ _ h) (tw [.rn [(331,337)]] (wr [(14,.old 14)] (eo 14 eS) bS))) (by intro cIy aQ7 p0 p1 p2 p3 p4 r h;refine ao' ?_;refine dO (.bsl 11 82 1 [10]) (wR (l:=([p0]:List (List aA))) (f:=(cSl 3 aB)) (g:=(cSl 3 aB)) kr (fun _=>rfl) (dC ?_));exact uW 11 [11] [] (cSl 3 aB) h fun y1 h=>(cs' h (aQ7 _ _ _ _) fun y2 h=>(rp' h))) (by intro bZ8 aS8 p0 p1 p2 p3 r h;refine ao' (lq' p3.kids (lq' p3.sub (cs' h (cOt _ _ _) fun y1 h=>?_)));refine cd' h ?_ ?_<;>intro h;exact rp' h;refine cd' h ?_ ?_<;>intro h;refine dO (.g 36 false (.len 40 39)) (aDe (p:=true) (b:=(decide (p3.up<0))) (v':=(vI (ln p2))) kr rfl rfl (fun hc=>Q7 (sz:=1) (l:=p2) (f:=(cSl 3 aB)) (Eq.trans (b:=([true&&((decide (p3.up<0))==false)]:List Bool).all id) kr (dZ hc rfl)) kr) (dC ?_));refine bZ h fun y2 h=>(bZ h fun y3 h=>?_);refine dO (.g 48 false (.ia 54 1 51 53)) (tH (p:=true) (b:=y3) (m:=idx p2 p3.up) (dflt:=default) (v':=fun y=>(.rp [.sl 3 (y.map aB)])) h kr rfl rfl (fun y hy hc=>xR (l:=p2) (f:=(cSl 3 aB)) (g:=(cSl 3 aB)) (k:=.i64) hy (fun _=>rfl) (Eq.trans (b:=([true&&(y3==false),true&&(y3==false)]:List Bool).all id) kr (dZ hc (dZ hc rfl))) kr kr) fun y4 h=>dC ?_);refine dO (.g 48 false (.len 56 55)) (aDe (p:=true) (b:=y3) (v':=(vI (ln y4))) kr rfl rfl (fun hc=>Q7 (sz:=3) (l:=y4) (f:=aB) (Eq.trans (b:=([true&&(y3==false)]:List Bool).all id) kr (dZ hc rfl)) kr) (dC ?_));refine bZ h fun y5 h=>?_;refine cd' h ?_ ?_<;>intro h;exact rp' h;exact iq' h fun y6 h=>(iq' h fun y7 h=>(rp' h));refine aO (.bld 77 [D7,D7,aU9,D7,D7,aRo,.nil 3,.nil 1] [(0,1,70),(1,1,72),(2,1,74),(3,3,76)]) (bDp (c:=[vI p3.kind,vI p3.op,vB p3.not_,vI p3.value.kind,vI p3.value.num,vS p3.value.text,.nil 3,.nil 1]) kr kr rfl (oC ?_));refine lq' p3.kids ?_;exact lb' (aS8 _ _ _ _ _ _ _ h) (wr [(101,.new 130 3)] eS (bs_ (bs_ (bs_ (bs_ (Y5 (c0:=[vI p3.kind,vI p3.op,vB p3.not_,vI p3.value.kind,vI p3.value.num,vS p3.value.text,.nil 3,.nil 1]) kr (eP (fC kr kr) (eP (fC kr kr) (eP (fC kr kr) (eP (fC kr kr) (eP (fC kr kr) (eP (fC kr kr) (eP (aSh kr kr) (eP (fC kr kr) U3)))))))) aZ))))))) (by intro cIy bZ8 cM7 aQ7 aS8 aOe p2 p3 p0 p1 x81 gN r h;refine Lok.un ?_;refine cd' h ?_ ?_<;>intro h;refine iq' h fun y8 h=>(cs' h (aQ7 _ _ _ _) fun y9 h=>?_);refine cd' h ?_ ?_<;>intro h;exact rp' h;refine aO (.bsl 100 130 3 [99]) (dN (l:=([y9.1]:List aA)) (f:=aB) (g:=aB) kr (fun _=>rfl) kr (oC ?_));refine aq' 101 aB h fun y10 h=>?_;exact lb' (aS8 _ _ _ _ _ _ _ h) (wr [(101,.old 101)] eS (bs_ (bs_ (bs_ (bs_ (Y5 (c0:=[vI p3.kind,vI p3.op,vB p3.not_,vI p3.value.kind,vI p3.value.num,vS p3.value.text,.osl 101 130 3 (y10.map aB),.nil 1]) kr (eP (fC kr kr) (eP (fC kr kr) (eP (fC kr kr) (eP (fC kr kr) (eP (fC kr kr) (eP (fC kr kr) (eP (xL (t:=101) kr kr) (eP (fC kr kr) U3)))))))) aZ))))));refine lq' p3.sub ?_;exact lb' (aOe _ _ _ _ _ _ _ _ h) (tw [.nb 10 7 340] (wr [(101,.old 101)] eS (bs_ (bs_ (bs_ (Y5 (c0:=[vI p3.kind,vI p3.op,vB p3.not_,vI p3.value.kind,vI p3.value.num,vS p3.value.text,.osl 101 130 3 (gN.map aB),.tre 340]) kr (eP (fC kr kr) (eP (fC kr kr) (eP (fC kr kr) (eP (fC kr kr) (eP (fC kr kr) (eP (fC kr kr) (eP (xL (t:=101) kr kr) (eP (fC kr kr) U3)))))))) bS))))))) (by intro cM7 cQw aOe aYb p2 p3 p0 p1 gN nS qU r h;refine Lok.un ?_;refine cd' h ?_ ?_<;>intro h;refine iq' h fun y11 h=>(cg' ⟨[],[],[],[],[],[],[(262,318)],[],[]⟩ h (aYb _ _ _ _) fun y12 h=>?_);refine cd' h ?_ ?_<;>intro h;exact rp' h;exact lb' (aOe _ _ _ _ _ _ _ _ h) (tw [.kl 340,.rn [(318,340)]] (wr [(101,.old 101)] eS (bs_ (bs_ (bs_ (Y5 (c0:=[vI p3.kind,vI p3.op,vB p3.not_,vI p3.value.kind,vI p3.value.num,vS p3.value.text,.osl 101 130 3 (gN.map aB),.tre 340]) kr (eP (fC kr kr) (eP (fC kr kr) (eP (fC kr kr) (eP (fC kr kr) (eP (fC kr kr) (eP (fC kr kr) (eP (xL (t:=101) kr kr) (eP (fC kr kr) U3)))))))) bS))))));exact cg' ⟨[],[],[],[],[],[],[],[],[340]⟩ h (bQm _).toB fun y13 h=>(rp' h)) (by intro cP5 aS0 p0 p1 p2 p3 r h;refine ao' (jX cI p3.tables (jH p3.on_ (W9 cI p3.tables (bZ h fun y1 h=>?_))));refine cd' h ?_ ?_<;>intro h;exact rw' (s':=⟨[(8,.tre 262),(9,vI 4)],[(262,[.trc 1 (([]:List (List aA)).map (cSl 3 aB))])]⟩) (tw [.ne 8 0 262] (wr [] eS bS)) (rb' h);refine aO (.bld 36 [.nil 1,.nil 1,.nil 1,.nil 2,.nf,aU9,D7] [(5,1,33),(6,1,35)]) (bDp (c:=[.nil 1,.nil 1,.nil 1,.nil 2,.nf,vB p3.distinct,vI p3.limit]) kr kr rfl (oC ?_));refine jX cI p3.tables ?_;exact lb' (aS0 _ _ _ _ _ _ _ h) (tw [.ns 10 0 334] (wr [] eS bS))) (by intro cP5 bR3 aS0 aRx p3 p0 p1 p2 x40 iA r h;refine Lok.un ?_;refine cd' h ?_ ?_<;>intro h;refine jE cI h fun y2 h=>(jH p1.tables (bZ h fun y3 h=>?_));refine cd' h ?_ ?_<;>intro h;exact rw' (s':=⟨[(8,.tre 262),(9,vI 4)],[(262,[.trc 1 (([]:List (List aA)).map (cSl 3 aB))])]⟩) (tw [.ne 8 0 262] (wr [] eS bS)) (rb' h);refine iq' h fun y4 h=>?_;refine dO (.bsl 61 38 1 [60]) (wR (l:=([y4.rows]:List (List (List aA)))) (f:=(cSl 1 (cSl 3 aB))) (g:=(cSl 1 (cSl 3 aB))) kr (fun _=>rfl) (dC ?_));refine dO (.app 62 38 1 24 54 61) (cCi (l:=iA) (m:=([y4.rows]:List (List (List aA)))) (f:=(cSl 1 (cSl 3 aB))) [334] h kr kr kr kr (fun _=>rfl) fun y5 h=>dC ?_);exact lb' (aS0 _ _ _ _ _ _ _ h) (tw [.rn [(62,334)]] (wr [] eS bS));refine tw' 0 [.fzb 4,.fzb 5,.fzb 6] (lq' p3.on_ ?_);exact lb' (aRx _ _ _ _ _ _ _ _ h) (tw [.rn [(334,336)]] (wr [(79,.new 143 1)] eS (bs_ (Y5 (c0:=[.tre 336,.nil 1,.nil 1,.nil 2,.nf,vB p3.distinct,vI p3.limit]) kr (eP (fC kr kr) (eP (aSh kr kr) (eP (fC kr kr) (eP (fC kr kr) (eP (fC kr kr) (eP (fC kr kr) (eP (fC kr kr) U3))))))) bS))))) (by intro bR3 cHz aRx aNp p0 p1 p2 p3 iA x69 gU r h;refine Lok.un ?_;refine cd' h ?_ ?_<;>intro h;refine iq' h fun y6 h=>(lY ⟨[],[],[],[],[],[(243,77)],[],[77],[]⟩ [] [] h (aP1 _ _ _ _) fun y7 h=>?_);refine dO (.bsl 78 143 1 [77]) (wR (l:=([y7]:List (List cK))) (f:=(cSl 1 iJ)) (g:=(cSl 1 iJ)) kr (fun _=>rfl) (dC ?_));refine uW 79 [74] [10] (cSl 1 iJ) h fun y8 h=>?_;exact lb' (aRx _ _ _ _ _ _ _ _ h) (wr [(79,.old 79)] eS (bs_ (Y5 (c0:=[.tre 336,.osl 79 143 1 (y8.map (cSl 1 iJ)),.nil 1,.nil 2,.nf,vB p3.distinct,vI p3.limit]) kr (eP (fC kr kr) (eP (xL (t:=79) kr kr) (eP (fC kr kr) (eP (fC kr kr) (eP (fC kr kr) (eP (fC kr kr) (eP (fC kr kr) U3))))))) bS)));refine cg' ⟨[],[],[],[],[],[(243,85)],[],[85],[]⟩ h (aP1 _ _ _ _) fun y9 h=>(lq' p3.order ?_);exact lb' (aNp _ _ _ _ _ _ (_,_,_) _ h) (tw [.rn [(336,339)]] (wr [(79,.old 79),(85,.old 85),(107,.new 154 2)] eS (bs_ (Y5 (c0:=[.tre 339,.osl 79 143 1 (gU.map (cSl 1 iJ)),.osl 85 152 1 (y9.map iJ),.nil 2,.nf,vB p3.distinct,vI p3.limit]) kr (eP (fC kr kr) (eP (xL (t:=79) kr kr) (eP (xL (t:=85) kr kr) (eP (aSh kr kr) (eP (fC kr kr) (eP (fC kr kr) (eP (fC kr kr) U3))))))) bS))))) (by intro cHz cUm aNp bNd p0 p1 p2 p3 gU y9 kR r h;refine Lok.un ?_;refine cd' h ?_ ?_<;>intro h;refine iq' h fun y10 h=>?_;refine dO (.bsl 99 133 10 [98]) (wR (l:=([y10.expr]:List aJ)) (f:=bC) (g:=jQ) kr mZ (dC ?_));refine lY ⟨[],[],[],[],[],[(243,100)],[],[100],[]⟩ [] [] h (aP1 _ _ _ _) fun y11 h=>(jE iJ h fun y12 h=>?_);refine dO (.bsl 106 154 2 [105]) (wR (l:=([lU.mk y12 y10.desc]:List lU)) (f:=uD) (g:=uD) kr (fun _=>rfl) (dC ?_));refine uW 107 [95] [10] uD h fun y13 h=>?_;exact lb' (aNp _ _ _ _ _ _ (_,_,_) _ h) (wr [(79,.old 79),(85,.old 85),(107,.old 107)] eS (bs_ (Y5 (c0:=[.tre 339,.osl 79 143 1 (gU.map (cSl 1 iJ)),.osl 85 152 1 (y9.map iJ),.osl 107 154 2 (y13.map uD),.nf,vB p3.distinct,vI p3.limit]) kr (eP (fC kr kr) (eP (xL (t:=79) kr kr) (eP (xL (t:=85) kr kr) (eP (xL (t:=107) kr kr) (eP (fC kr kr) (eP (fC kr kr) (eP (fC kr kr) U3))))))) bS)));refine cg' ⟨[],[],[],[],[],[(243,113)],[],[113],[]⟩ h (aP1 _ _ _ _) fun y14 h=>(tw' 0 [.fzb 18] (tw' 1 [.own 339] (cg' ⟨[],[],[],[],[],[],[(262,319)],[],[]⟩ h (bNd _) fun y15 h=>?_)));exact rw' (s':=⟨[(8,.tre 262),(9,vI y15.2)],[(262,[.trc 1 (y15.1.map (cSl 3 aB))])]⟩) (tw [.rn [(319,262)]] (wr [] eS bS)) (rb' h)) (by intro cHr cQn cUc aNs bGw bOr p0 r h;refine ao' (cs' h (bOr _) fun y1 h=>?_);refine cd' h ?_ ?_<;>intro h;exact rw' (s':=⟨[(2,.tre 262),(3,vI y1.2)],[(262,[.trc 1 (([]:List (List aA)).map (cSl 3 aB))])]⟩) (tw [.ne 2 0 262] (wr [] eS bS)) (rb' h);refine cg' ⟨[],[],[],[],[],[(243,253)],[],[253],[]⟩ h (bGw _ _) fun y2 h=>?_;refine cd' h ?_ ?_<;>intro h;exact rw' (s':=⟨[(2,.tre 262),(3,vI y2.2)],[(262,[.trc 1 (([]:List (List aA)).map (cSl 3 aB))])]⟩) (tw [.ne 2 0 262] (wr [] eS bS)) (rb' h);refine aO (.bsl 28 82 1 []) (M3 (l:=([]:List (List aA))) (f:=(cSl 3 aB)) (g:=(cSl 3 aB)) [] kr (fun _=>rfl) kr rfl (oC ?_));exact lq' y2.1 (lb' (aNs _ _ _ _ _ h) (tw [.rn [(28,335)]] (wr [(4,.old 4)] (es (es (eo 4 eS))) bS)))) (by intro cHr cQd aNs bO6 y2 p0 x31 nC r h;refine Lok.un ?_;refine cd' h ?_ ?_<;>intro h;refine iq' h fun y3 h=>(cg' ⟨[],[],[],[],[],[],[(262,308)],[],[]⟩ h (bO6 _ _) fun y4 h=>?_);refine cd' h ?_ ?_<;>intro h;exact rw' (s':=⟨[(2,.tre 262),(3,vI y4.2)],[(262,[.trc 1 (([]:List (List aA)).map (cSl 3 aB))])]⟩) (tw [.ne 2 0 262] (wr [] eS bS)) (rb' h);refine aO (.bsl 47 82 1 [46]) (M3 (l:=([y4.1]:List (List aA))) (f:=(cSl 3 aB)) (g:=(cSl 3 aB)) [308] kr (fun _=>rfl) kr rfl (oC ?_));refine aO (.app 48 82 1 24 45 47) (aY7 (l:=nC) (m:=([y4.1]:List (List aA))) (f:=(cSl 3 aB)) [335] [47] h kr kr kr kr (fun _=>rfl) fun y5 h=>oC ?_);exact lb' (aNs _ _ _ _ _ h) (tw [.rn [(48,335)]] (wr [(4,.old 4)] (es (es (eo 4 eS))) bS));refine cd' h ?_ ?_<;>intro h;exact cg' ⟨[],[],[],[],[],[],[(262,317)],[],[335]⟩ h (cGl _) fun y6 h=>(jn' (bMc _ _ _ h) (tw [.rn [(317,337)]] (wr [] eS bS)));exact jn' (bMc _ _ _ h) (tw [.rn [(335,337)]] (wr [] eS bS))) (by intro cU4 bGx p0 p1 r h;refine ao' (cg' ⟨[],[],[],[],[],[],[(262,286)],[],[]⟩ h (bGx _ _) fun y1 h=>?_);exact rw' (s':=⟨[(3,.tre 262),(4,vI y1.2)],[(262,[.trc 3 (y1.1.map aB)])]⟩) (tw [.rn [(286,262)]] (wr [] eS bS)) (rb' h)) (by intro bRl aNi p0 p1 r h;refine ao' ?_;refine aO (.bsl 11 130 3 []) (M3 (l:=([]:List aA)) (f:=aB) (g:=aB) [] kr (fun _=>rfl) kr rfl (oC ?_));exact jX iJ p0 (lb' (aNi _ _ _ _ _ h) (tw [.rn [(11,330)]] (wr [] eS bS)))) (by intro aLn bRl aG8 aNi p1 p0 x14 nJ r h;refine Lok.un ?_;refine cd' h ?_ ?_<;>intro h;refine jE iJ h fun y1 h=>?_;refine aO (.callv (some 21) 19 [20]) (aGv (m:=aLn p1 y1.c0 y1.c1 y1.c2 y1.c3) (caps:=[.rp (nG y1.c0),.rp (nP y1.c1),.rp [.sl 1 (y1.c2.map (cSl 3 aB))],.rp (jQ y1.c3)]) (args:=[eF p1,.rp (nG y1.c0),.rp (nP y1.c1),.rp [.sl 1 (y1.c2.map (cSl 3 aB))],.rp (jQ y1.c3)]) (v':=(fun y=>(.tup [bX y.1,vI y.2]))) h kr kr (aG8 _ _ _ _ _) kr kr (fun _=>rfl) fun y2 h=>oC ?_);refine cd' h ?_ ?_<;>intro h;exact rw' (s':=⟨[(4,.tre 262),(5,vI y2.2)],[(262,[.trc 3 (([]:List aA).map aB)])]⟩) (tw [.ne 4 0 262] (wr [] eS bS)) (rb' h);refine aO (.bsl 29 130 3 [28]) (M3 (l:=([y2.1]:List aA)) (f:=aB) (g:=aB) [] kr (fun _=>rfl) kr rfl (oC ?_));refine aO (.app 30 130 3 32 27 29) (aY7 (l:=nJ) (m:=([y2.1]:List aA)) (f:=aB) [330] [29] h kr kr kr kr (fun _=>rfl) fun y3 h=>oC ?_);exact lb' (aNi _ _ _ _ _ h) (tw [.rn [(30,330)]] (wr [] eS bS));exact rw' (s':=⟨[(4,.tre 262),(5,vI 0)],[(262,[.trc 3 (nJ.map aB)])]⟩) (tw [.rn [(330,262)]] (wr [] eS bS)) (rb' h)) (by intro cFm aPl p0 p1 r h;refine ao' ?_;refine aO (.bsl 17 239 2 []) (bY9 (l:=([]:List aV)) (f:=bJ) (g:=bJ) kr (fun _=>rfl) kr rfl (oC ?_));exact lq' p1 (lb' (aPl _ _ _ _ _ h) (tw [.rn [(17,331)]] (wr [] eS bS)))) (by intro cAk aRj p0 r h;refine ao' ?_;refine aO (.bsl 14 130 3 []) (dN (l:=([]:List aA)) (f:=aB) (g:=aB) kr (fun _=>rfl) kr (oC ?_));refine aO (.bsl 15 82 1 [14]) (dN (l:=([([]:List aA)]:List (List aA))) (f:=(cSl 3 aB)) (g:=(cSl 3 aB)) kr (fun _=>rfl) kr (oC ?_));exact lq' p0.tables (lb' (aRj _ _ _ _ h) (wr [] (es (ew eS)) bS))) (by intro cDi cLw aQs aOu p0 x4 x19 r h;refine Lok.un ?_;refine cd' h ?_ ?_<;>intro h;refine iq' h fun y1 h=>?_;refine aO (.bsl 24 82 1 []) (dN (l:=([]:List (List aA))) (f:=(cSl 3 aB)) (g:=(cSl 3 aB)) kr (fun _=>rfl) kr (oC ?_));refine lq' x4 ?_;exact lb' (aOu _ _ _ _ _ _ _ h) (wr [(7,.old 7)] (es (es (es (eo 7 eS)))) bS);exact cs' h (aQs _ _) fun y2 h=>(rp' h)) (by intro cMe aQx p0 p1 r h;exact ao' (jX iJ p1 (lb' (aQx _ _ _ _ h) (wr [] eS aZ)))) (by intro cBh aNu p1 x0 x15 r h;refine Lok.un ?_;refine cd' h ?_ ?_<;>intro h;refine jE iJ h fun y1 h=>?_;refine aO (.bsl 19 82 1 []) (dN (l:=([]:List (List aA))) (f:=(cSl 3 aB)) (g:=(cSl 3 aB)) kr (fun _=>rfl) kr (oC ?_));exact lq' x0 (lb' (aNu _ _ _ _ _ _ _ h) (wr [(8,.old 8)] (es (eo 8 eS)) aZ));exact rp' h) (by intro aLn cMe cRc aG8 aQx aTb y1 p1 x15 x0 x8 x22 r h;refine Lok.un ?_;refine cd' h ?_ ?_<;>intro h;refine iq' h fun y2 h=>?_;refine aO (.callv (some 29) 27 [28]) (aGv (m:=aLn y2 y1.c0 y1.c1 y1.c2 y1.c3) (caps:=[.rp (nG y1.c0),.rp (nP y1.c1),.rp [.sl 1 (y1.c2.map (cSl 3 aB))],.rp (jQ y1.c3)]) (args:=[eF y2,.rp (nG y1.c0),.rp (nP y1.c1),.rp [.sl 1 (y1.c2.map (cSl 3 aB))],.rp (jQ y1.c3)]) (v':=(fun y=>(.tup [bX y.1,vI y.2]))) h kr kr (aG8 _ _ _ _ _) kr kr (fun _=>rfl) fun y3 h=>oC ?_);refine cd' h ?_ ?_<;>intro h;exact rw' (s':=⟨[(4,.d (.sl 1 (([]:List (List aA)).map (cSl 3 aB)))),(5,vI y3.2)],[]⟩) (wr [] (ew eS) aZ) (rp' h);refine cs' h (bV2 _) fun y4 h=>?_;refine cd' h ?_ ?_<;>intro h;refine aO (.bsl 39 82 1 [38]) (dN (l:=([y2]:List (List aA))) (f:=(cSl 3 aB)) (g:=(cSl 3 aB)) kr (fun _=>rfl) kr (oC ?_));exact aq' 8 (cSl 3 aB) h fun y5 h=>(jn' (aTb _ _ _ _ _ _ _ h) (wr [(8,.old 8)] (es (eo 8 eS)) aZ));exact jn' (aTb _ _ _ _ _ _ _ h) (wr [(8,.old 8)] (es (eo 8 eS)) aZ);exact lb' (aQx _ _ _ _ h) (wr [] (ew eS) aZ)) (by intro cBh aNu y1 p1 x15 x0 x22 qP r h;exact Jok.un (lb' (aNu _ _ _ _ _ _ _ h) (wr [(8,.old 8)] (es (eo 8 eS)) aZ))) (by intro cAk cDi cMh aRj aQs aO3 x19 y1 p0 x4 x7 x27 r h;refine Lok.un ?_;refine cd' h ?_ ?_<;>intro h;refine iq' h fun y3 h=>(lq' y1 ?_);exact lb' (aO3 _ _ _ _ _ _ (_,_) _ h) (wr [(7,.old 7)] (es (es (es (eo 7 eS)))) bS);refine jE (cSl 1 iJ) h fun y5 h=>(cs' h (aQs _ _) fun y6 h=>?_);refine cd' h ?_ ?_<;>intro h;exact rw' (s':=⟨[(2,.d (.sl 1 (([]:List (List aA)).map (cSl 3 aB)))),(3,vI y6.2)],[]⟩) (wr [] (ew eS) aZ) (rp' h);exact lb' (aRj _ _ _ _ h) (wr [] eS bS)) (by intro cLw cMh aOu aO3 x19 y1 y3 p0 x4 x27 lJ r h;refine Lok.un ?_;refine cd' h ?_ ?_<;>intro h;refine iq' h fun y7 h=>?_;refine aO (.bsl 40 82 1 [38,39]) (dN (l:=([y3,y7]:List (List aA))) (f:=(cSl 3 aB)) (g:=(cSl 3 aB)) kr (fun _=>rfl) kr (oC ?_));refine cg' ⟨[],[],[],[],[],[(243,41)],[],[41],[]⟩ h (cJl _) fun y8 h=>?_;refine aO (.bsl 42 82 1 [41]) (dN (l:=([y8]:List (List aA))) (f:=(cSl 3 aB)) (g:=(cSl 3 aB)) kr (fun _=>rfl) kr (oC ?_));refine aq' 7 (cSl 3 aB) h fun y9 h=>?_;exact lb' (aO3 _ _ _ _ _ _ (_,_) _ h) (wr [(7,.old 7)] (es (es (es (eo 7 eS)))) bS);exact lb' (aOu _ _ _ _ _ _ _ h) (wr [(7,.old 7)] (es (es (es (eo 7 eS)))) bS))
abbrev aNe:=jY.1
abbrev aPl:=jY.2.1
theorem aG8 (p0:List aA) (p1:aX) (p2:GDb) (p3:List (List aA)) (p4:aJ):FOk Tryz.prog 88 [eF p0,.rp (nG p1),.rp (nP p2),.rp [.sl 1 (p3.map (cSl 3 aB))],.rp (jQ p4)] (fun y=>(.tup [bX y.1,vI y.2])) (nM p0 p1 p2 p3 p4):=fun r h=>(jY).2.2.1 p0 p1 p2 p3 p4 r h
theorem aQ7 (p0:aX) (p1:GDb) (p2:List (List aA)) (p3:aJ):FOk Tryz.prog 89 [eG p0,gJ p1,.d (.sl 1 (p2.map (cSl 3 aB))),fB p3] (fun y=>(.tup [bX y.1,vI y.2])) (vK p0 p1 p2 p3):=fun r h=>(jY).2.2.2.1 p0 p1 p2 p3 r h
abbrev aS8:=jY.2.2.2.2.1
abbrev aOe:=jY.2.2.2.2.2.1
theorem aYb (p0:aX) (p1:GDb) (p2:List (List aA)) (p3:aQ):cO Tryz.prog 40 [eG p0,gJ p1,.d (.sl 1 (p2.map (cSl 3 aB))),eQ p3] [] Zi Zj (G7 p0 p1 p2 p3):=fun r h=>(jY).2.2.2.2.2.2.1 p0 p1 p2 p3 r h
abbrev aS0:=jY.2.2.2.2.2.2.2.1
abbrev aRx:=jY.2.2.2.2.2.2.2.2.1
abbrev aNp:=jY.2.2.2.2.2.2.2.2.2.1
theorem bNd (p0:eT):cO Tryz.prog 92 [zM p0] [] Zi Zj (S9 p0):=fun r h=>(jY).2.2.2.2.2.2.2.2.2.2.1 p0 r h
abbrev aNs:=jY.2.2.2.2.2.2.2.2.2.2.2.1
theorem bO6 (p0:List aA) (p1:List cK):cO Tryz.prog 90 [eF p0,.rp [.sl 1 (p1.map iJ)]] [] Zm Zn (aF8 p0 p1):=fun r h=>(jY).2.2.2.2.2.2.2.2.2.2.2.2.1 p0 p1 r h
theorem bGx (p0:List cK) (p1:List aA):cO Tryz.prog 91 [xY p0,eF p1] [] Zm Zn (aNh p0 p1):=fun r h=>(jY).2.2.2.2.2.2.2.2.2.2.2.2.2.1 p0 p1 r h
abbrev aNi:=jY.2.2.2.2.2.2.2.2.2.2.2.2.2.2.1
theorem bGw (p0:eT) (p1:List (List aA)):cO Tryz.prog 144 [zM p0,.d (.sl 1 (p1.map (cSl 3 aB)))] [] Zo Zp (aMr p0 p1):=fun r h=>(jY).2.2.2.2.2.2.2.2.2.2.2.2.2.2.2.1 p0 p1 r h
theorem bOr (p0:eT):FOk Tryz.prog 143 [zM p0] (fun y=>(.tup [.d (.sl 1 (y.1.map (cSl 3 aB))),vI y.2])) (aR3 p0):=fun r h=>(jY).2.2.2.2.2.2.2.2.2.2.2.2.2.2.2.2.1 p0 r h
abbrev aRj:=jY.2.2.2.2.2.2.2.2.2.2.2.2.2.2.2.2.2.1
theorem aQs (p0:List (List aA)) (p1:List cK):FOk Tryz.prog 189 [.d (.sl 1 (p0.map (cSl 3 aB))),xY p1] (fun y=>(.tup [.d (.sl 1 (y.1.map (cSl 3 aB))),vI y.2])) (aBv p0 p1):=fun r h=>(jY).2.2.2.2.2.2.2.2.2.2.2.2.2.2.2.2.2.2.1 p0 p1 r h
abbrev aQx:=jY.2.2.2.2.2.2.2.2.2.2.2.2.2.2.2.2.2.2.2.1
abbrev aNu:=jY.2.2.2.2.2.2.2.2.2.2.2.2.2.2.2.2.2.2.2.2.1
abbrev aTb:=jY.2.2.2.2.2.2.2.2.2.2.2.2.2.2.2.2.2.2.2.2.2.1
abbrev aOu:=jY.2.2.2.2.2.2.2.2.2.2.2.2.2.2.2.2.2.2.2.2.2.2.1
abbrev aO3:=jY.2.2.2.2.2.2.2.2.2.2.2.2.2.2.2.2.2.2.2.2.2.2.2
theorem bZ4 (p0:Int) (p1:Int):FOk Tryz.prog 79 [vI p0,vI p1] (fun y=>(vB y)) (aJe p0 p1):=by
 refine aoP fun r h=>?_;rw [aJe] at h;exact dD h fun y1 h=>(rp' h)
abbrev cGz (p0):=F3.partial_correctness p0 (bAn p0) (by intro cPx aTi fH x27 r h;refine Lok.un ?_;refine cd' h ?_ ?_<;>intro h;refine iq' h fun y5 h=>?_;refine aO (.bsl 34 133 10 [33]) (dN (l:=([y5.expr]:List aJ)) (f:=bC) (g:=jQ) kr mZ kr (oC ?_));exact aq' 3 bC h fun y6 h=>(lb' (aTi _ _ _ h) (wr [(3,.old 3)] (es (eo 3 eS)) bS));exact aq' 3 bC h fun y7 h=>(rw' (s':=⟨[(2,.osl 243 133 10 (y7.map bC))],[]⟩) (wr [(243,.old 2)] (eo 2 kN) aZ) (rb' h)))
abbrev aTi:=cGz
abbrev cDe (p0):=aDk.partial_correctness p0 (bDa p0) (by intro cT8 aUp x3 x12 r h;refine Lok.un ?_;refine cd' h ?_ ?_<;>intro h;exact iq' h fun y1 h=>(aq' 3 bC h fun y2 h=>(lb' (aUp _ _ _ h) (wr [(3,.old 3)] (es (eo 3 eS)) bS)));exact aq' 3 bC h fun y3 h=>(lq' p0.order (lb' (aTi _ _ _ _ h) (wr [(3,.old 3)] (es (eo 3 eS)) bS))))
abbrev aUp:=cDe
theorem bH5 (p0:aQ):cO Tryz.prog 132 [eQ p0] [] Ze Zf (aHo p0):=by
 refine aoB fun r h=>?_;rw [aHo] at h;refine aO (.bsl 8 133 10 []) (dN (l:=([]:List aJ)) (f:=bC) (g:=jQ) kr mZ kr (oC ?_));exact lq' p0.on_ (lb' (aUp _ _ _ _ h) (wr [(3,.old 3)] (es (eo 3 eS)) bS))
abbrev aLx:=aCk.mutual_partial_correctness aY3 (fun p0 r=>bF Tryz.prog 80 [eQ p0] [] (PQ (fun y=>(vI y)) r)) (fun p0 r=>bF Tryz.prog 131 [dU p0] [] (PQ (fun y=>(vI y)) r)) aYw (fun p0 r=>bF Tryz.prog 171 [fB p0] [] (PQ (fun y=>(vI y)) r)) (by intro bS3 cTx aPw aY6 p0 x3 x12 r h;refine Lok.un ?_;refine cd' h ?_ ?_<;>intro h;exact iq' h fun y2 h=>(cs' h (aY6 _) fun y3 h=>(lb' (aPw _ _ _ _ h) (wr [] eS aZ)));exact rp' h) (by intro bUj aOv p0 r h;exact ao' (cg' ⟨[],[],[],[],[],[(243,4)],[],[4],[]⟩ h (bH5 _) fun y1 h=>(cs' h (aOv _) fun y2 h=>(rp' h)))) (by intro cMs aPr p0 r h;exact ao' (lq' p0 (lb' (aPr _ _ _ _ h) (wr [] eS aZ)))) (by intro cMs cSh aPr bI5 p0 x3 x8 r h;refine Lok.un ?_;refine cd' h ?_ ?_<;>intro h;exact iq' h fun y1 h=>(cs' h (bI5 _) fun y2 h=>(lb' (aPr _ _ _ _ h) (wr [] eS aZ)));exact rp' h) (by intro bS3 bUj aPw aOv p0 r h;exact ao' (cs' h (aOv _) fun y1 h=>(lq' p0.sub (lb' (aPw _ _ _ _ h) (wr [] eS aZ)))))
abbrev aPw:=aLx.1
theorem aY6 (p0:aQ):FOk Tryz.prog 80 [eQ p0] (fun y=>(vI y)) (J4 p0):=fun r h=>(aLx).2.1 p0 r h
theorem aOv (p0:List aJ):FOk Tryz.prog 131 [dU p0] (fun y=>(vI y)) (aGx p0):=fun r h=>(aLx).2.2.1 p0 r h
abbrev aPr:=aLx.2.2.2.1
theorem bI5 (p0:aJ):FOk Tryz.prog 171 [fB p0] (fun y=>(vI y)) (V6 p0):=fun r h=>(aLx).2.2.2.2 p0 r h
abbrev aLu:=aCm.mutual_partial_correctness aUr (fun p0 r=>bF Tryz.prog 81 [eQ p0] [] (PQ (fun y=>(vI y)) r)) (fun p0 r=>bF Tryz.prog 133 [dU p0] [] (PQ (fun y=>(vI y)) r)) aZz (fun p0 r=>bF Tryz.prog 172 [fB p0] [] (PQ (fun y=>(vI y)) r)) (by intro cNd cQs aQ4 aTm p0 x3 x13 r h;refine Lok.un ?_;refine cd' h ?_ ?_<;>intro h;exact iq' h fun y2 h=>(cs' h (aTm _) fun y3 h=>(lb' (aQ4 _ _ _ _ h) (wr [] eS aZ)));exact rp' h) (by intro cL1 aP9 p0 r h;exact ao' (cg' ⟨[],[],[],[],[],[(243,4)],[],[4],[]⟩ h (bH5 _) fun y1 h=>(cs' h (aP9 _) fun y2 h=>(rp' h)))) (by intro cN1 aRb p0 r h;exact ao' (lq' p0 (lb' (aRb _ _ _ _ h) (wr [] eS aZ)))) (by intro cN1 cRz aRb bGb p0 x3 x8 r h;refine Lok.un ?_;refine cd' h ?_ ?_<;>intro h;exact iq' h fun y1 h=>(cs' h (bGb _) fun y2 h=>(lb' (aRb _ _ _ _ h) (wr [] eS aZ)));exact rp' h) (by intro cNd cL1 aQ4 aP9 p0 r h;exact ao' (cs' h (aP9 _) fun y1 h=>(lq' p0.sub (lb' (aQ4 _ _ _ _ h) (wr [] eS aZ)))))
abbrev aQ4:=aLu.1
theorem aTm (p0:aQ):FOk Tryz.prog 81 [eQ p0] (fun y=>(vI y)) (zB p0):=fun r h=>(aLu).2.1 p0 r h
theorem aP9 (p0:List aJ):FOk Tryz.prog 133 [dU p0] (fun y=>(vI y)) (aI1 p0):=fun r h=>(aLu).2.2.1 p0 r h
abbrev aRb:=aLu.2.2.2.1
theorem bGb (p0:aJ):FOk Tryz.prog 172 [fB p0] (fun y=>(vI y)) (yZ p0):=fun r h=>(aLu).2.2.2.2 p0 r h
theorem cB5 (p0:List aJ):FOk Tryz.prog 174 [dU p0] (fun y=>(vB y)) (aMp p0):=by
 refine aoP fun r h=>?_;rw [aMp] at h;exact lq' p0 (rp' h)
abbrev bWf (p0):=K5.partial_correctness p0 (bA0 p0) (by intro cR8 aZ8 x8 r h;refine Lok.un ?_;refine cd' h ?_ ?_<;>intro h;refine iq' h fun y1 h=>?_;refine aO (.callv (some 16) 11 [15]) (aGv (m:=aMp y1) (caps:=[]) (args:=[dU y1]) (v':=(fun y=>(vB y))) h kr kr (cB5 _) kr kr (fun _=>rfl) fun y2 h=>oC ?_);refine cd' h ?_ ?_<;>intro h;exact rp' h;exact lb' (aZ8 _ _ h) (wr [] eS aZ);exact rp' h)
abbrev aZ8:=bWf
theorem cIq (p0:List (List aJ)):FOk Tryz.prog 214 [.d (.sl 1 (p0.map (cSl 10 bC))),.fn 174 []] (fun y=>(vI y)) (aQn p0):=by
 refine aoP fun r h=>?_;rw [aQn] at h;exact lq' p0 (lb' (aZ8 _ _ _ h) (wr [] eS aZ))
theorem bQn (p0:List (List aJ)):FOk Tryz.prog 173 [.d (.sl 1 (p0.map (cSl 10 bC))),.fn 174 []] (fun y=>(vB y)) (aK3 p0):=by
 refine aoP fun r h=>?_;rw [aK3] at h;exact cs' h (cIq _) fun y1 h=>(rp' h)
theorem cPd (p0:List UInt8):FOk Tryz.prog 176 [vS p0] (fun y=>(vB y)) (aJ2 p0):=by
 refine aoP fun r h=>?_;rw [aJ2] at h;exact cs' h (aKi _) fun y1 h=>(rp' h)
abbrev bW1 (p0):=X5.partial_correctness p0 (bA6 p0) (by intro cU7 bBr x8 r h;refine Lok.un ?_;refine cd' h ?_ ?_<;>intro h;refine iq' h fun y1 h=>?_;refine aO (.callv (some 16) 11 [15]) (aGv (m:=aJ2 y1) (caps:=[]) (args:=[vS y1]) (v':=(fun y=>(vB y))) h kr kr (cPd _) kr kr (fun _=>rfl) fun y2 h=>oC ?_);refine cd' h ?_ ?_<;>intro h;exact rp' h;exact lb' (bBr _ _ h) (wr [] eS aZ);exact rp' h)
abbrev bBr:=bW1
theorem cJn (p0:List (List UInt8)):FOk Tryz.prog 215 [nH p0,.fn 176 []] (fun y=>(vI y)) (aNm p0):=by
 refine aoP fun r h=>?_;rw [aNm] at h;exact lq' p0 (lb' (bBr _ _ _ h) (wr [] eS aZ))
theorem cBq (p0:List (List UInt8)):FOk Tryz.prog 175 [nH p0,.fn 176 []] (fun y=>(vB y)) (aJw p0):=by
 refine aoP fun r h=>?_;rw [aJw] at h;exact cs' h (cJn _) fun y1 h=>(rp' h)
theorem cMx (p0:aQ):FOk Tryz.prog 135 [eQ p0] (fun y=>(vB y)) (aKv p0):=by
 refine aoP fun r h=>?_;rw [aKv] at h;refine jX cI p0.tables (W9 cI p0.tables (bZ h fun y1 h=>(jH p0.on_ (W9 cI p0.tables (bZ h fun y2 h=>(bDh h fun y3 h=>(jH y3 (bZ h fun y4 h=>(jH p0.where_ (bZ h fun y5 h=>(jH p0.order (bZ h fun y6 h=>?_))))))))))));refine cd' h ?_ ?_<;>intro h;exact rp' h;exact lq' p0.items (jH p0.items (dD h fun y7 h=>(jH p0.names (jH p0.items (dD h fun y8 h=>(dD h fun y9 h=>(gc' h (bQn _) fun y10 h=>(dD h fun y11 h=>(gc' h (cBq _) fun y12 h=>(dD h fun y13 h=>(rp' h)))))))))))
theorem aNc (p0:Int):FOk Tryz.prog 179 [vI p0] (fun y=>(vB y)) (H6 p0):=by
 refine aoP fun r h=>?_;rw [H6] at h;exact bZ h fun y1 h=>(rp' h)
theorem cKe (p0:aJ):FOk Tryz.prog 180 [fB p0] (fun y=>(vB y)) (aFn p0):=by
 refine aoP fun r h=>?_;rw [aFn] at h;refine cs' h (bFt _) fun y1 h=>?_;refine aO (.g 17 true (.pick 24 20 (kB true) 23)) (gv true y1.2 Z1a h (fun y hy hc=>jL hy (p:=true) (q:=((true&&(y1.2==true))&&(y1.1.op==false))) (Eq.trans (b:=([true&&(y1.2==true)]:List Bool).all id) kr (dZ hc rfl)) kr kr kr (fun _=>rfl) (fun hb=>rX hc hb)) fun y2 h=>oC ?_);refine dD h fun y3 h=>?_;refine aO (.g 26 true (.pick 33 29 (kB true) 32)) (gv true y3 Z1a h (fun y hy hc=>jL hy (p:=true) (q:=((true&&(y3==true))&&(y1.1.not_==false))) (Eq.trans (b:=([true&&(y3==true)]:List Bool).all id) kr (dZ hc rfl)) kr kr kr (fun _=>rfl) (fun hb=>rX hc hb)) fun y4 h=>oC ?_);refine dD h fun y5 h=>?_;refine aO (.g 35 true (.pick 43 38 (kB true) 42)) (gv true y5 Z1a h (fun y hy hc=>jL hy (p:=true) (q:=((true&&(y5==true))&&(y1.1.value==false))) (Eq.trans (b:=([true&&(y5==true)]:List Bool).all id) kr (dZ hc rfl)) kr kr kr (fun _=>rfl) (fun hb=>rX hc hb)) fun y6 h=>oC ?_);refine dD h fun y7 h=>?_;refine aO (.g 48 false (.pick 56 52 55 (kB false))) (gv (true&&(y7==true)) y1.1.name Z1a h (fun y hy hc=>jL hy (p:=(((true&&(y7==true))&&(y1.1.name==false))&&((decide (p0.up=0))==true))) (q:=true) (Eq.trans (b:=([(true&&(y7==true))&&(y1.1.name==false)]:List Bool).all id) kr (dZ hc rfl)) kr kr kr (fun hb=>qQ hc hb) (fun _=>rfl)) fun y8 h=>oC ?_);refine aO (.g 45 true (.pick 57 48 (kB true) 56)) (gv true y7 Z1a h (fun y hy hc=>jL hy (p:=true) (q:=((true&&(y7==true))&&(y1.1.name==false))) (Eq.trans (b:=([true&&(y7==true)]:List Bool).all id) kr (dZ hc rfl)) kr kr kr (fun _=>rfl) (fun hb=>rX hc hb)) fun y9 h=>oC ?_);exact dD h fun y10 h=>(jH p0.kids (dD h fun y11 h=>(jH p0.kids (dD h fun y12 h=>(jH p0.sub (dD h fun y13 h=>(rp' h)))))))
theorem aU1 (p0:Int) (p1:Int) (p2:Int):FOk Tryz.prog 239 [vI p0,vI p1,vI p2] (fun y=>(vB y)) (aC9 p0 p1 p2):=by
 refine aoP fun r h=>?_;rw [aC9] at h;refine bZ h fun y1 h=>?_;refine aO (.g 14 true (.pick 21 18 (kB true) 20)) (gv true y1 Z1a h (fun y hy hc=>jL hy (p:=true) (q:=((true&&(y1==true))&&((decide (p2=p0))==false))) (Eq.trans (b:=([true&&(y1==true)]:List Bool).all id) kr (dZ hc rfl)) kr kr kr (fun _=>rfl) (fun hb=>rX hc hb)) fun y2 h=>oC ?_);exact dD h fun y3 h=>(rp' h)
theorem aJf (x8 x9 r) (h:aAg x8 x9=some r):cIu x8 x9 r:=by
 rw [aAg] at h;refine Jok.un ?_;refine cd' h ?_ ?_<;>intro h;exact rp' h;exact rp' h
theorem bLt (p0:Int):FOk Tryz.prog 250 [vI p0] (fun y=>(vB y)) (aL3 p0):=by
 refine aoP fun r h=>?_;rw [aL3] at h;exact dD h fun y1 h=>(rp' h)
theorem bFz (p0:Int) (p1:Int):FOk Tryz.prog 240 [vI p0,vI p1] (fun y=>(.tup [vI y.1,vB y.2])) (aGp p0 p1):=by
 refine aoP fun r h=>?_;rw [aGp] at h;refine cs' h (bLt _) fun y1 h=>(gc' h (bLt _) fun y2 h=>(bZ h fun y3 h=>?_));refine cd' h ?_ ?_<;>intro h;exact rp' h;refine cd' h ?_ ?_<;>intro h;exact rp' h;refine bZ h fun y4 h=>?_;refine cd' h ?_ ?_<;>intro h;exact rp' h;exact rp' h
theorem bUd (p0:Int) (p1:Int) (p2:Int):FOk Tryz.prog 219 [vI p0,vI p1,vI p2] (fun y=>(.tup [vI y.1,vB y.2])) (aJ6 p0 p1 p2):=by
 refine aoP fun r h=>?_;rw [aJ6] at h;refine bZ h fun y1 h=>?_;refine cd' h ?_ ?_<;>intro h;exact jn' (aJf _ _ _ h) (wr [] eS aZ);refine cd' h ?_ ?_<;>intro h;exact cs' h (aNc _) fun y2 h=>(gc' h (aNc _) fun y3 h=>(dD h fun y4 h=>(jn' (aJf _ _ _ h) (wr [] eS aZ))));refine cd' h ?_ ?_<;>intro h;exact cs' h (bFz _ _) fun y5 h=>(jn' (aJf _ _ _ h) (wr [] eS aZ));refine cd' h ?_ ?_<;>intro h;exact cs' h (aU1 _ _ _) fun y6 h=>(jn' (aJf _ _ _ h) (wr [] eS aZ));exact cs' h (aU1 _ _ _) fun y7 h=>(jn' (aJf _ _ _ h) (wr [] eS aZ))
theorem cHt (p0:List Int):cO Tryz.prog 221 [fI p0] [] Zb Zc (aK2 p0):=by
 refine aoB fun r h=>?_;rw [aK2] at h;refine aO (.eqn 4 false 3) (bKq (sz:=1) (l:=p0) (f:=cI) h kr kr (fun hl h=>oC ?_) fun hl h=>?_);refine aO1 ?_;refine aO (.bsl 5 3 1 []) (dN (l:=([]:List Int)) (f:=cI) (g:=cI) kr (fun _=>rfl) kr (oC ?_));exact aq' 5 cI h fun y1 h=>(rw' (s':=⟨[(2,.osl 243 3 1 (y1.map cI))],[]⟩) (wr [(243,.old 2)] (eo 2 kN) aZ) (rb' h))
 subst hl
 refine ⟨oC ?_,oC ?_⟩
 replace h:((appG 8 ([]:List Int) ([]:List Int))>>=fun (y2:List Int)=>some y2:Option (List Int))=some r:=h
 refine aO1 ?_;refine aO (.bsl 5 3 1 []) (dN (l:=([]:List Int)) (f:=cI) (g:=cI) kr (fun _=>rfl) kr (oC ?_));exact aq' 5 cI h fun y2 h=>(rw' (s':=⟨[(2,.osl 243 3 1 (y2.map cI))],[]⟩) (wr [(243,.old 2)] (eo 2 kN) aZ) (rb' h));exact bGy (rw' (s':=⟨[(2,.osl 243 3 1 (([]:List Int).map cI))],[]⟩) (wr [(243,.new 3 1)] (en kN) aZ) (rb' h))
end Go.Proofs.YtcbkkemcgcdhdabGreat
